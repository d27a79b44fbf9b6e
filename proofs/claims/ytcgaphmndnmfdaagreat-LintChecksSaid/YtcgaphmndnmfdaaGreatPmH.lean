/-
  An abstract machine over pure values, part A: values, the small heap of what is live, and how they stand to the machine's memory.
  Conditions: none; nothing of any program stands here.
-/
import Derived.Calls
import Derived.Orders
import Derived.WalkKit
import Derived.Below
import Derived.Laws.Rows
import Derived.Deep.MidRow
import Derived.Deep.AppendSrc
import Derived.ArgAppend
import Derived.Laws.MakeOwn
import Derived.Laws.Build
import Derived.ChangeKeysEq
import Derived.Laws.Tables
import Derived.Laws.Entries
import Derived.Laws.Slices
import Derived.Laws.Pointers
import Derived.Laws.Small
import Derived.Laws.StructEq
import Derived.Deep.LoopGhost
namespace Go.Pm
set_option linter.unusedVariables false
set_option linter.unusedSimpArgs false

/-- A pure value. `list`, `fptr`: what lies in memory that nobody writes any more. `anyb`: a truth that is not known. `buf`, `ptr`: what leads to a live block. -/
inductive PV where
  | int (k : IntKind) (n : Int)
  | bool (b : Bool)
  | str (s : ByteArray)
  | agg (cs : List PV)
  | tup (cs : List PV)
  | nils
  | list (fr : Bool) (E n : Nat) (cs : List PV)
  | buf (b E off n : Nat)
  | nilp
  | ptr (b off : Nat)
  | fptr (fr : Bool) (cs : List PV) (off : Nat)
  | fn (f : FuncId) (first caps : List PV)
  | nilf
  | undef
  | anyb

/-- The live blocks, and their first cells. -/
structure Heap where
  f : Nat → Option (List PV)
  fin : ∃ n, ∀ b, n ≤ b → f b = none

theorem Heap.ext' {h g : Heap} (e : ∀ b, h.f b = g.f b) : h = g := by
  cases h; cases g; congr; exact funext e

def Heap.nil : Heap := ⟨fun _ => none, 0, fun _ _ => rfl⟩
def Heap.set (h : Heap) (b : Nat) (cs : List PV) : Heap :=
  ⟨fun x => if x = b then some cs else h.f x, by
    obtain ⟨n, hn⟩ := h.fin
    exact ⟨max n (b + 1), fun x hx => by rw [if_neg (by omega)]; exact hn x (by omega)⟩⟩
def Heap.kill (h : Heap) (b : Nat) : Heap :=
  ⟨fun x => if x = b then none else h.f x, by
    obtain ⟨n, hn⟩ := h.fin
    exact ⟨n, fun x hx => by split; rfl; exact hn x hx⟩⟩
theorem Heap.set_same (h : Heap) (b : Nat) (cs : List PV) : (h.set b cs).f b = some cs := by simp [Heap.set]
theorem Heap.set_ne (h : Heap) {b x : Nat} (cs : List PV) (e : x ≠ b) : (h.set b cs).f x = h.f x := by simp [Heap.set, e]
theorem Heap.kill_same (h : Heap) (b : Nat) : (h.kill b).f b = none := by simp [Heap.kill]
theorem Heap.kill_ne (h : Heap) {b x : Nat} (e : x ≠ b) : (h.kill b).f x = h.f x := by simp [Heap.kill, e]
theorem Heap.set_set (h : Heap) (b : Nat) (cs ds : List PV) : (h.set b cs).set b ds = h.set b ds := by
  apply Heap.ext'; intro x; by_cases e : x = b <;> simp [Heap.set, e]
theorem Heap.kill_set (h : Heap) (b : Nat) (cs : List PV) (e : h.f b = none) : (h.set b cs).kill b = h := by
  apply Heap.ext'; intro x; by_cases e' : x = b
  · subst e'; simp [Heap.kill, e]
  · simp [Heap.kill, Heap.set, e']
theorem Heap.fresh (h : Heap) : ∃ b, h.f b = none := by obtain ⟨n, hn⟩ := h.fin; exact ⟨n, hn n (Nat.le_refl _)⟩
theorem Heap.set_comm (h : Heap) {a b : Nat} (cs ds : List PV) (e : a ≠ b) : (h.set a cs).set b ds = (h.set b ds).set a cs := by
  apply Heap.ext'; intro x; simp only [Heap.set]
  by_cases e1 : x = a
  · subst e1; simp [e]
  · by_cases e2 : x = b
    · subst e2; simp [Ne.symm e]
    · simp [e1, e2]
/-- What of one heap lives lives in the other as well. -/
def Heap.le (h g : Heap) : Prop := ∀ b cs, h.f b = some cs → g.f b = some cs
theorem Heap.le_refl (h : Heap) : h.le h := fun _ _ e => e
theorem Heap.le_set {h g : Heap} {b : Nat} {cs : List PV} (l : h.le g) (e : h.f b = none) : h.le (g.set b cs) := fun x ds hx => by
  have : x ≠ b := fun ee => by rw [ee, e] at hx; cases hx
  rw [Heap.set_ne _ _ this]; exact l x ds hx
theorem Heap.le_kill {h g : Heap} {b : Nat} (l : h.le g) (e : h.f b = none) : h.le (g.kill b) := fun x ds hx => by
  have : x ≠ b := fun ee => by rw [ee, e] at hx; cases hx
  rw [Heap.kill_ne _ this]; exact l x ds hx

/-- Cells in memory. -/
def Mem (w : World) (b o : Nat) (vs : List Value) : Prop := ∀ i v, vs[i]? = some v → w.cell? ⟨b, o + i, none⟩ = some v
def Room (w : World) (b n : Nat) : Prop := ∃ cells e fz, w.heap[b]? = some (.cells cells e fz) ∧ cells.size = n

mutual
/-- A pure value tells what a machine's value is. `N`: what is fresh lies at N or above. -/
def VR (w : World) (h : Heap) (N : Nat) : PV → Value → Prop
  | .int k n, v => v = .int k n
  | .bool b, v => v = .bool b
  | .str s, v => v = .string s
  | .agg cs, v => ∃ vs, v = .agg vs ∧ CR w h N cs vs.toList
  | .tup cs, v => ∃ vs, v = .tuple vs ∧ TR w h N cs vs.toList
  | .nils, v => v = .slice none 0 0
  | .list fr E n cs, v => ∃ a c vs, v = .slice a n c ∧ n ≤ c ∧ cs.length = n * E ∧ CR w h N cs vs ∧
      (n = 0 ∨ ∃ b o, a = some ⟨b, o, none⟩ ∧ b < w.heap.size ∧ h.f b = none ∧ (fr = true → N ≤ b) ∧ Mem w b o vs)
  | .buf b E off n, v => ∃ c, v = .slice (some ⟨b, off, none⟩) n c ∧ n ≤ c ∧ c ≤ maxLen ∧ Room w b (off + c * E)
  | .nilp, v => v = .pointer none
  | .ptr b off, v => v = .pointer (some ⟨b, off, none⟩)
  | .fptr fr cs off, v => ∃ b o vs, v = .pointer (some ⟨b, o + off, none⟩) ∧ b < w.heap.size ∧ h.f b = none ∧ (fr = true → N ≤ b) ∧ CR w h N cs vs ∧ Mem w b o vs
  | .fn f first caps, v => ∃ fs cv, v = .func (.func f) fs cv ∧ TR w h N first fs.toList ∧ TR w h N caps cv.toList
  | .nilf, v => v = .nilFunc
  | .undef, _ => True
  | .anyb, v => ∃ b : Bool, v = .bool b
def CR (w : World) (h : Heap) (N : Nat) : List PV → List Value → Prop
  | [], vs => vs = []
  | c :: cs, vs => ∃ v vs', vs = v :: vs' ∧ v.oneCell' = true ∧ VR w h N c v ∧ CR w h N cs vs'
def TR (w : World) (h : Heap) (N : Nat) : List PV → List Value → Prop
  | [], vs => vs = []
  | c :: cs, vs => ∃ v vs', vs = v :: vs' ∧ VR w h N c v ∧ TR w h N cs vs'
end

theorem CR.length {w : World} {h : Heap} {N : Nat} : ∀ {cs : List PV} {vs : List Value}, CR w h N cs vs → cs.length = vs.length
  | [], vs, e => by simp only [CR] at e; simp [e]
  | c :: cs, vs, e => by
    simp only [CR] at e
    obtain ⟨v, vs', rfl, _, _, h2⟩ := e
    simp [CR.length h2]
theorem CR.get {w : World} {h : Heap} {N : Nat} : ∀ {cs : List PV} {vs : List Value} (i : Nat) {c : PV}, CR w h N cs vs → cs[i]? = some c → ∃ v, vs[i]? = some v ∧ VR w h N c v
  | [], vs, i, c, e, hi => by simp at hi
  | c0 :: cs, vs, i, c, e, hi => by
    simp only [CR] at e
    obtain ⟨v, vs', rfl, h0, h1, h2⟩ := e
    cases i with
    | zero => simp at hi; subst hi; exact ⟨v, rfl, h1⟩
    | succ i => simp at hi ⊢; exact CR.get i h2 hi
theorem CR.append {w : World} {h : Heap} {N : Nat} : ∀ {as bs : List PV} {us vs : List Value}, CR w h N as us → CR w h N bs vs → CR w h N (as ++ bs) (us ++ vs)
  | [], bs, us, vs, e, e' => by simp only [CR] at e; subst e; simpa using e'
  | c :: cs, bs, us, vs, e, e' => by
    simp only [CR] at e
    obtain ⟨v, vs', rfl, h0, h1, h2⟩ := e
    simp only [List.cons_append, CR]
    exact ⟨v, _, rfl, h0, h1, CR.append h2 e'⟩
theorem CR.take {w : World} {h : Heap} {N : Nat} : ∀ (n : Nat) {as : List PV} {us : List Value}, CR w h N as us → CR w h N (as.take n) (us.take n)
  | 0, as, us, e => by simp [CR]
  | n + 1, [], us, e => by simp only [CR] at e; subst e; simp [CR]
  | n + 1, c :: cs, us, e => by
    simp only [CR] at e
    obtain ⟨v, vs', rfl, h0, h1, h2⟩ := e
    simp only [List.take_succ_cons, CR]
    exact ⟨v, _, rfl, h0, h1, CR.take n h2⟩
theorem CR.drop {w : World} {h : Heap} {N : Nat} : ∀ (n : Nat) {as : List PV} {us : List Value}, CR w h N as us → CR w h N (as.drop n) (us.drop n)
  | 0, as, us, e => by simpa using e
  | n + 1, [], us, e => by simp only [CR] at e; subst e; simp [CR]
  | n + 1, c :: cs, us, e => by
    simp only [CR] at e
    obtain ⟨v, vs', rfl, h0, h1, h2⟩ := e
    simpa using CR.drop n h2
theorem CR.set {w : World} {h : Heap} {N : Nat} : ∀ (i : Nat) {as : List PV} {us : List Value} {c : PV} {v : Value}, CR w h N as us → v.oneCell' = true → VR w h N c v → CR w h N (as.set i c) (us.set i v)
  | i, [], us, c, v, e, ho, hv => by simp only [CR] at e; subst e; simp [CR]
  | 0, c0 :: cs, us, c, v, e, ho, hv => by
    simp only [CR] at e
    obtain ⟨v0, vs', rfl, h0, h1, h2⟩ := e
    simp only [List.set_cons_zero, CR]
    exact ⟨v, vs', rfl, ho, hv, h2⟩
  | i + 1, c0 :: cs, us, c, v, e, ho, hv => by
    simp only [CR] at e
    obtain ⟨v0, vs', rfl, h0, h1, h2⟩ := e
    simp only [List.set_cons_succ, CR]
    exact ⟨v0, _, rfl, h0, h1, CR.set i h2 ho hv⟩
theorem CR.one {w : World} {h : Heap} {N : Nat} {c : PV} {v : Value} (o : v.oneCell' = true) (e : VR w h N c v) : CR w h N [c] [v] := by
  simp only [CR]; exact ⟨v, [], rfl, o, e, rfl⟩
theorem CR.replicate {w : World} {h : Heap} {N : Nat} {c : PV} {v : Value} (o : v.oneCell' = true) (e : VR w h N c v) : ∀ n, CR w h N (List.replicate n c) (List.replicate n v)
  | 0 => by simp [CR]
  | n + 1 => by simp only [List.replicate_succ, CR]; exact ⟨v, _, rfl, o, e, CR.replicate o e n⟩

theorem CR.one_of {w : World} {h : Heap} {N : Nat} : ∀ {cs : List PV} {vs : List Value}, CR w h N cs vs → ∀ u ∈ vs, u.oneCell' = true
  | [], vs, e, u, hu => by simp only [CR] at e; subst e; cases hu
  | c :: cs, vs, e, u, hu => by
    simp only [CR] at e
    obtain ⟨v, vs', rfl, h0, h1, h2⟩ := e
    rcases List.mem_cons.1 hu with rfl | hu
    · exact h0
    · exact CR.one_of h2 u hu
theorem TR.length {w : World} {h : Heap} {N : Nat} : ∀ {cs : List PV} {vs : List Value}, TR w h N cs vs → cs.length = vs.length
  | [], vs, e => by simp only [TR] at e; simp [e]
  | c :: cs, vs, e => by
    simp only [TR] at e
    obtain ⟨v, vs', rfl, _, h2⟩ := e
    simp [TR.length h2]
theorem TR.get {w : World} {h : Heap} {N : Nat} : ∀ {cs : List PV} {vs : List Value} (i : Nat) {c : PV}, TR w h N cs vs → cs[i]? = some c → ∃ v, vs[i]? = some v ∧ VR w h N c v
  | [], vs, i, c, e, hi => by simp at hi
  | c0 :: cs, vs, i, c, e, hi => by
    simp only [TR] at e
    obtain ⟨v, vs', rfl, h1, h2⟩ := e
    cases i with
    | zero => simp at hi; subst hi; exact ⟨v, rfl, h1⟩
    | succ i => simp at hi ⊢; exact TR.get i h2 hi
theorem TR.append {w : World} {h : Heap} {N : Nat} : ∀ {as bs : List PV} {us vs : List Value}, TR w h N as us → TR w h N bs vs → TR w h N (as ++ bs) (us ++ vs)
  | [], bs, us, vs, e, e' => by simp only [TR] at e; subst e; simpa using e'
  | c :: cs, bs, us, vs, e, e' => by
    simp only [TR] at e
    obtain ⟨v, vs', rfl, h1, h2⟩ := e
    simp only [List.cons_append, TR]
    exact ⟨v, _, rfl, h1, TR.append h2 e'⟩
/-- The live blocks hold what the heap tells. -/
def WR (w : World) (h : Heap) (N : Nat) : Prop :=
  ∀ b cs, h.f b = some cs → ∃ cells e, w.heap[b]? = some (.cells cells e (0, 0)) ∧ cs.length ≤ cells.size ∧ CR w h N cs (cells.toList.take cs.length)

/-- From one world to a later one: what is not live stays as it is. -/
structure St (w : World) (h : Heap) (w' : World) (h' : Heap) : Prop where
  os : w'.os = w.os
  tape : w'.tape = w.tape
  output : w'.output = w.output
  size : w.heap.size ≤ w'.heap.size
  keep : ∀ b, b < w.heap.size → h.f b = none → w'.heap[b]? = w.heap[b]?
  dead : ∀ b, b < w.heap.size → h.f b = none → h'.f b = none
  shape : ∀ (b : Nat) (cells : Array Value) (e : TypeId) (fz : Nat × Nat), w.heap[b]? = some (Obj.cells cells e fz) → ∃ cells' fz', w'.heap[b]? = some (Obj.cells cells' e fz') ∧ cells'.size = cells.size

theorem St.refl (w : World) (h : Heap) : St w h w h := ⟨rfl, rfl, rfl, Nat.le_refl _, fun _ _ _ => rfl, fun _ _ e => e, fun _ c _ fz e => ⟨c, fz, e, rfl⟩⟩
theorem St.trans {w0 w1 w2 : World} {h0 h1 h2 : Heap} (a : St w0 h0 w1 h1) (b : St w1 h1 w2 h2) : St w0 h0 w2 h2 where
  os := b.os.trans a.os
  tape := b.tape.trans a.tape
  output := b.output.trans a.output
  size := Nat.le_trans a.size b.size
  keep x hx e := (b.keep x (Nat.lt_of_lt_of_le hx a.size) (a.dead x hx e)).trans (a.keep x hx e)
  dead x hx e := b.dead x (Nat.lt_of_lt_of_le hx a.size) (a.dead x hx e)
  shape x c e fz hx := by
    obtain ⟨c1, f1, h1, s1⟩ := a.shape x c e fz hx
    obtain ⟨c2, f2, h2, s2⟩ := b.shape x c1 e f1 h1
    exact ⟨c2, f2, h2, s2.trans s1⟩

theorem Mem.of_block {w w' : World} {b o : Nat} {vs : List Value} (hb : w'.heap[b]? = w.heap[b]?) (m : Mem w b o vs) : Mem w' b o vs := fun i v hi => by
  rw [← m i v hi]; simp [World.cell?, hb]
theorem Room.step {w w' : World} {b n : Nat} (hs : ∀ (b : Nat) (cells : Array Value) (e : TypeId) (fz : Nat × Nat), w.heap[b]? = some (Obj.cells cells e fz) → ∃ cells' fz', w'.heap[b]? = some (Obj.cells cells' e fz') ∧ cells'.size = cells.size) (r : Room w b n) : Room w' b n := by
  obtain ⟨c, e, fz, h1, h2⟩ := r
  obtain ⟨c', fz', h3, h4⟩ := hs b c e fz h1
  exact ⟨c', e, fz', h3, by omega⟩

/-- What a value's relation hangs on: old blocks that are not live read alike, and live ones keep their shape. -/
structure Kp (w : World) (h : Heap) (w' : World) (h' : Heap) : Prop where
  size : w.heap.size ≤ w'.heap.size
  keep : ∀ b, b < w.heap.size → h.f b = none → w'.heap[b]? = w.heap[b]?
  dead : ∀ b, b < w.heap.size → h.f b = none → h'.f b = none
  shape : ∀ (b : Nat) (cells : Array Value) (e : TypeId) (fz : Nat × Nat), w.heap[b]? = some (Obj.cells cells e fz) → ∃ cells' fz', w'.heap[b]? = some (Obj.cells cells' e fz') ∧ cells'.size = cells.size
theorem St.kp {w w' : World} {h h' : Heap} (s : St w h w' h') : Kp w h w' h' := ⟨s.size, s.keep, s.dead, s.shape⟩

mutual
theorem VR.step {w w' : World} {h h' : Heap} {N N' : Nat} (s : Kp w h w' h') (hN : N' ≤ N) : ∀ (c : PV) {v : Value}, VR w h N c v → VR w' h' N' c v
  | .int k n, v, e => by simpa only [VR] using e
  | .bool b, v, e => by simpa only [VR] using e
  | .str b, v, e => by simpa only [VR] using e
  | .nils, v, e => by simpa only [VR] using e
  | .nilp, v, e => by simpa only [VR] using e
  | .nilf, v, e => by simpa only [VR] using e
  | .undef, v, e => by simp only [VR]
  | .anyb, v, e => by simpa only [VR] using e
  | .ptr b o, v, e => by simpa only [VR] using e
  | .agg cs, v, e => by
    simp only [VR] at e ⊢
    obtain ⟨vs, rfl, h1⟩ := e
    exact ⟨vs, rfl, CR.step s hN cs h1⟩
  | .tup cs, v, e => by
    simp only [VR] at e ⊢
    obtain ⟨vs, rfl, h1⟩ := e
    exact ⟨vs, rfl, TR.step s hN cs h1⟩
  | .fn f first caps, v, e => by
    simp only [VR] at e ⊢
    obtain ⟨fs, cv, rfl, h1, h2⟩ := e
    exact ⟨fs, cv, rfl, TR.step s hN first h1, TR.step s hN caps h2⟩
  | .buf b E off n, v, e => by
    simp only [VR] at e ⊢
    obtain ⟨c, rfl, h1, h0, h2⟩ := e
    exact ⟨c, rfl, h1, h0, h2.step s.shape⟩
  | .list fr E n cs, v, e => by
    simp only [VR] at e ⊢
    obtain ⟨a, c, vs, rfl, h1, h2, h3, h4⟩ := e
    refine ⟨a, c, vs, rfl, h1, h2, CR.step s hN cs h3, ?_⟩
    rcases h4 with h4 | ⟨b, o, ha, hb, hd, hf, hm⟩
    · exact .inl h4
    · exact .inr ⟨b, o, ha, Nat.lt_of_lt_of_le hb s.size, s.dead b hb hd, fun q => Nat.le_trans hN (hf q), hm.of_block (s.keep b hb hd)⟩
  | .fptr fr cs off, v, e => by
    simp only [VR] at e ⊢
    obtain ⟨b, o, vs, rfl, hb, hd, hf, h3, hm⟩ := e
    exact ⟨b, o, vs, rfl, Nat.lt_of_lt_of_le hb s.size, s.dead b hb hd, fun q => Nat.le_trans hN (hf q), CR.step s hN cs h3, hm.of_block (s.keep b hb hd)⟩
theorem CR.step {w w' : World} {h h' : Heap} {N N' : Nat} (s : Kp w h w' h') (hN : N' ≤ N) : ∀ (cs : List PV) {vs : List Value}, CR w h N cs vs → CR w' h' N' cs vs
  | [], vs, e => by simpa only [CR] using e
  | c :: cs, vs, e => by
    simp only [CR] at e ⊢
    obtain ⟨v, vs', rfl, h0, h1, h2⟩ := e
    exact ⟨v, vs', rfl, h0, VR.step s hN c h1, CR.step s hN cs h2⟩
theorem TR.step {w w' : World} {h h' : Heap} {N N' : Nat} (s : Kp w h w' h') (hN : N' ≤ N) : ∀ (cs : List PV) {vs : List Value}, TR w h N cs vs → TR w' h' N' cs vs
  | [], vs, e => by simpa only [TR] using e
  | c :: cs, vs, e => by
    simp only [TR] at e ⊢
    obtain ⟨v, vs', rfl, h1, h2⟩ := e
    exact ⟨v, vs', rfl, VR.step s hN c h1, TR.step s hN cs h2⟩
end

mutual
/-- All flags of freshness off. -/
def PV.old : PV → PV
  | .agg cs => .agg (olds cs)
  | .tup cs => .tup (olds cs)
  | .list _ E n cs => .list false E n (olds cs)
  | .fptr _ cs o => .fptr false (olds cs) o
  | .fn f a b => .fn f (olds a) (olds b)
  | x => x
def olds : List PV → List PV
  | [] => []
  | c :: cs => c.old :: olds cs
end
theorem olds_eq : ∀ cs : List PV, olds cs = cs.map PV.old
  | [] => rfl
  | c :: cs => by simp [olds, olds_eq cs]

mutual
theorem VR.old {w : World} {h : Heap} {N N' : Nat} : ∀ (c : PV) {v : Value}, VR w h N c v → VR w h N' c.old v
  | .int k n, v, e => by simpa only [PV.old, VR] using e
  | .bool b, v, e => by simpa only [PV.old, VR] using e
  | .str b, v, e => by simpa only [PV.old, VR] using e
  | .nils, v, e => by simpa only [PV.old, VR] using e
  | .nilp, v, e => by simpa only [PV.old, VR] using e
  | .nilf, v, e => by simpa only [PV.old, VR] using e
  | .undef, v, e => by simp only [PV.old, VR]
  | .anyb, v, e => by simpa only [PV.old, VR] using e
  | .ptr b o, v, e => by simpa only [PV.old, VR] using e
  | .buf b E off n, v, e => by simpa only [PV.old, VR] using e
  | .agg cs, v, e => by
    simp only [PV.old, VR] at e ⊢
    obtain ⟨vs, rfl, h1⟩ := e
    exact ⟨vs, rfl, CR.olds cs h1⟩
  | .tup cs, v, e => by
    simp only [PV.old, VR] at e ⊢
    obtain ⟨vs, rfl, h1⟩ := e
    exact ⟨vs, rfl, TR.olds cs h1⟩
  | .fn f first caps, v, e => by
    simp only [PV.old, VR] at e ⊢
    obtain ⟨fs, cv, rfl, h1, h2⟩ := e
    exact ⟨fs, cv, rfl, TR.olds first h1, TR.olds caps h2⟩
  | .list fr E n cs, v, e => by
    simp only [PV.old, VR] at e ⊢
    obtain ⟨a, c, vs, rfl, h1, h2, h3, h4⟩ := e
    refine ⟨a, c, vs, rfl, h1, by rw [olds_eq, List.length_map]; exact h2, CR.olds cs h3, ?_⟩
    rcases h4 with h4 | ⟨b, o, ha, hb, hd, hf, hm⟩
    · exact .inl h4
    · exact .inr ⟨b, o, ha, hb, hd, (fun q => by cases q), hm⟩
  | .fptr fr cs off, v, e => by
    simp only [PV.old, VR] at e ⊢
    obtain ⟨b, o, vs, rfl, hb, hd, hf, h3, hm⟩ := e
    exact ⟨b, o, vs, rfl, hb, hd, (fun q => by cases q), CR.olds cs h3, hm⟩
theorem CR.olds {w : World} {h : Heap} {N N' : Nat} : ∀ (cs : List PV) {vs : List Value}, CR w h N cs vs → CR w h N' (Pm.olds cs) vs
  | [], vs, e => by simpa only [CR, Pm.olds] using e
  | c :: cs, vs, e => by
    simp only [CR, Pm.olds] at e ⊢
    obtain ⟨v, vs', rfl, h0, h1, h2⟩ := e
    exact ⟨v, vs', rfl, h0, VR.old c h1, CR.olds cs h2⟩
theorem TR.olds {w : World} {h : Heap} {N N' : Nat} : ∀ (cs : List PV) {vs : List Value}, TR w h N cs vs → TR w h N' (Pm.olds cs) vs
  | [], vs, e => by simpa only [TR, Pm.olds] using e
  | c :: cs, vs, e => by
    simp only [TR, Pm.olds] at e ⊢
    obtain ⟨v, vs', rfl, h1, h2⟩ := e
    exact ⟨v, vs', rfl, VR.old c h1, TR.olds cs h2⟩
end
end Go.Pm

/-
  An abstract machine over pure values, part B: what an alloc, a store, a draw do to the relation between the small heap and the machine's memory.
  Conditions: none.
-/
namespace Go.Pm
set_option linter.unusedVariables false
set_option linter.unusedSimpArgs false
open Go.RowKit

theorem WR.lt {w : World} {h : Heap} {N b : Nat} {cs : List PV} (hw : WR w h N) (e : h.f b = some cs) : b < w.heap.size := by
  obtain ⟨cells, t, hb, _⟩ := hw b cs e
  exact (Array.getElem?_eq_some_iff.1 hb).1
theorem WR.free {w : World} {h : Heap} {N b : Nat} (hw : WR w h N) (hb : w.heap.size ≤ b) : h.f b = none := by
  cases e : h.f b with
  | none => rfl
  | some cs => have := hw.lt e; omega

theorem WR.nil (w : World) (N : Nat) : WR w Heap.nil N := fun b cs e => by cases e

/-- The blocks that live read as they did, or have their new cells. -/
theorem WR.step {w w' : World} {h h' : Heap} {N N' : Nat} (k : Kp w h w' h') (hN : N' ≤ N) (hw : WR w h N)
    (hs : ∀ b cs', h'.f b = some cs' → (h.f b = some cs' ∧ w'.heap[b]? = w.heap[b]?) ∨
      ∃ cells e, w'.heap[b]? = some (.cells cells e (0, 0)) ∧ cs'.length ≤ cells.size ∧ CR w' h' N' cs' (cells.toList.take cs'.length)) : WR w' h' N' := fun b cs' e => by
  rcases hs b cs' e with ⟨h1, h2⟩ | h3
  · obtain ⟨cells, t, hb, hl, hc⟩ := hw b cs' h1
    exact ⟨cells, t, by rw [h2]; exact hb, hl, CR.step k hN cs' hc⟩
  · exact h3

theorem St.drew (w : World) (h : Heap) : St w h w.drew h := ⟨rfl, rfl, rfl, Nat.le_refl _, fun _ _ _ => rfl, fun _ _ e => e, fun _ c _ fz e => ⟨c, fz, e, rfl⟩⟩
theorem WR.drew {w : World} {h : Heap} {N : Nat} (hw : WR w h N) : WR w.drew h N :=
  hw.step (St.drew w h).kp (Nat.le_refl _) fun b cs e => .inl ⟨e, rfl⟩

/-- A new block; `h'` may hold it. -/
theorem St.alloc (w : World) (h h' : Heap) (o : Obj) (hh : ∀ b, b ≠ w.heap.size → h'.f b = h.f b) : St w h (w.alloc o) h' where
  os := rfl
  tape := rfl
  output := rfl
  size := by simp
  keep b hb _ := Below.heap_alloc w o b hb
  dead b hb e := by rw [hh b (by omega)]; exact e
  shape b c e fz hb := ⟨c, fz, by rw [Below.heap_alloc w o b (Array.getElem?_eq_some_iff.1 hb).1]; exact hb, rfl⟩
theorem WR.alloc {w : World} {h : Heap} {N : Nat} (hw : WR w h N) (o : Obj) : WR (w.alloc o) h N :=
  hw.step (St.alloc w h h o fun _ _ => rfl).kp (Nat.le_refl _) fun b cs e => .inl ⟨e, Below.heap_alloc w o b (hw.lt e)⟩
theorem heap_new (w : World) (o : Obj) : (w.alloc o).heap[w.heap.size]? = some o := heap_alloc_new w o
theorem WR.alloc_live {w : World} {h : Heap} {N : Nat} (hw : WR w h N) (cells : Array Value) (t : TypeId) (cs : List PV) (hl : cs.length ≤ cells.size)
    (hc : CR w h N cs (cells.toList.take cs.length)) : WR (w.alloc (.cells cells t)) (h.set w.heap.size cs) N := by
  have k := (St.alloc w h (h.set w.heap.size cs) (.cells cells t) fun b hb => h.set_ne cs hb).kp
  refine hw.step k (Nat.le_refl _) fun b cs' e => ?_
  by_cases hb : b = w.heap.size
  · subst hb
    rw [h.set_same] at e
    cases e
    exact .inr ⟨cells, t, heap_new w _, hl, CR.step k (Nat.le_refl _) cs hc⟩
  · rw [h.set_ne cs hb] at e
    exact .inl ⟨e, Below.heap_alloc w _ b (hw.lt e)⟩

theorem Room.new (w : World) (cells : Array Value) (t : TypeId) : Room (w.alloc (.cells cells t)) w.heap.size cells.size := ⟨cells, t, (0, 0), heap_new w _, rfl⟩
theorem Mem.new (w : World) (cells : Array Value) (t : TypeId) : Mem (w.alloc (.cells cells t)) w.heap.size 0 cells.toList := fun i v hi => by
  rw [Nat.zero_add, World.cell?_alloc_new]; simpa using hi

theorem setCells_other (g : Nat) : ∀ (vs : List Value) (o : Nat) (w : World) (k : Nat), k ≠ g → (w.setCells g o vs).heap[k]? = w.heap[k]?
  | [], _, _, _, _ => rfl
  | v :: r, o, w, k, hk => (setCells_other g r (o + 1) _ k hk).trans (Below.heap_setCell w ⟨g, o, none⟩ v k hk)
theorem setCells_rest (g : Nat) : ∀ (vs : List Value) (o : Nat) (w : World), (w.setCells g o vs).os = w.os ∧ (w.setCells g o vs).tape = w.tape ∧ (w.setCells g o vs).output = w.output ∧ (w.setCells g o vs).heap.size = w.heap.size
  | [], _, _ => ⟨rfl, rfl, rfl, rfl⟩
  | v :: r, o, w => by
    obtain ⟨h1, h2, h3, h4⟩ := setCells_rest g r (o + 1) (w.setCell ⟨g, o, none⟩ v)
    exact ⟨h1, h2, h3, h4.trans (by simp)⟩
theorem setCell_block {w : World} {g : Nat} {cur : Array Value} {e : TypeId} {fz : Nat × Nat} (hb : w.heap[g]? = some (.cells cur e fz)) (o : Nat) (v : Value) :
    (w.setCell ⟨g, o, none⟩ v).heap[g]? = some (.cells (cur.setIfInBounds o v) e fz) := by
  simp [World.setCell, Array.getElem?_modify, hb]
theorem put_list {cur : List Value} {o : Nat} {v : Value} {r : List Value} (h : o < cur.length) :
    (cur.set o v).take (o + 1) ++ r ++ (cur.set o v).drop (o + 1 + r.length) = cur.take o ++ (v :: r) ++ cur.drop (o + (v :: r).length) := by
  apply List.ext_getElem?
  intro i
  simp only [List.append_assoc, List.getElem?_append, List.length_take, List.length_set, List.length_cons, List.getElem?_take, List.getElem?_drop, List.getElem?_set, List.getElem?_cons]
  repeat' split
  all_goals first | omega | (congr 1; omega) | simp_all | skip
  all_goals (congr 1; omega)
theorem setCells_block (g : Nat) (e : TypeId) (fz : Nat × Nat) : ∀ (vs : List Value) (o : Nat) (w : World) (cur : Array Value), w.heap[g]? = some (.cells cur e fz) → o + vs.length ≤ cur.size →
    ∃ cur' : Array Value, (w.setCells g o vs).heap[g]? = some (.cells cur' e fz) ∧ cur'.size = cur.size ∧ cur'.toList = cur.toList.take o ++ vs ++ cur.toList.drop (o + vs.length)
  | [], o, w, cur, hb, _ => ⟨cur, hb, rfl, by simp⟩
  | v :: r, o, w, cur, hb, hl => by
    simp only [List.length_cons] at hl
    obtain ⟨c, h1, h2, h3⟩ := setCells_block g e fz r (o + 1) (w.setCell ⟨g, o, none⟩ v) _ (setCell_block hb o v) (by simp; omega)
    refine ⟨c, h1, by rw [h2]; simp, ?_⟩
    rw [h3, Array.toList_setIfInBounds, put_list (by simpa using (by omega : o < cur.size))]

/-- A list of cells with others written over a part of it. -/
def wr (cs : List PV) (o : Nat) (new : List PV) : List PV := cs.take o ++ new ++ cs.drop (o + new.length)
theorem wr_length {cs new : List PV} {o : Nat} (h : o + new.length ≤ cs.length) : (wr cs o new).length = cs.length := by
  simp [wr]; omega
theorem wr_one {cs : List PV} {o : Nat} {v : PV} (h : o < cs.length) : wr cs o [v] = cs.set o v := by
  apply List.ext_getElem?
  intro i
  simp only [wr, List.append_assoc, List.getElem?_append, List.length_take, List.length_cons, List.length_nil, List.getElem?_take, List.getElem?_drop, List.getElem?_set, List.getElem?_cons]
  repeat' split
  all_goals first | omega | (congr 1; omega) | simp_all

/-- Cells stored into a live block, at most to the end of its memory. -/
theorem store_live {w : World} {h : Heap} {N b o : Nat} {cs cs' new : List PV} {vs : List Value} {cells : Array Value} {e : TypeId} (hw : WR w h N) (hb : h.f b = some cs)
    (hcells : w.heap[b]? = some (.cells cells e (0, 0))) (hroom : o + vs.length ≤ cells.size) (hnew : CR w h N new vs) (hcs : cs.length ≤ cells.size)
    (hold : CR w h N cs (cells.toList.take cs.length)) (ho : o ≤ cs.length) (hcs' : cs' = cs.take o ++ new ++ cs.drop (o + new.length)) :
    St w h (w.setCells b o vs) (h.set b cs') ∧ WR (w.setCells b o vs) (h.set b cs') N := by
  obtain ⟨r1, r2, r3, r4⟩ := setCells_rest b vs o w
  obtain ⟨c', q1, q2, q3⟩ := setCells_block b e (0, 0) vs o w cells hcells hroom
  have hbn : b < w.heap.size := hw.lt hb
  have hst : St w h (w.setCells b o vs) (h.set b cs') := by
    refine ⟨r1, r2, r3, Nat.le_of_eq r4.symm, fun x hx hd => ?_, fun x hx hd => ?_, fun x c t fz hx => ?_⟩
    · exact setCells_other b vs o w x fun ee => by rw [ee, hb] at hd; cases hd
    · rw [h.set_ne cs' fun ee => by rw [ee, hb] at hd; cases hd]; exact hd
    · by_cases ee : x = b
      · subst ee
        rw [hcells] at hx
        cases hx
        exact ⟨c', (0, 0), q1, q2⟩
      · exact ⟨c, fz, by rw [setCells_other b vs o w x ee]; exact hx, rfl⟩
  refine ⟨hst, hw.step hst.kp (Nat.le_refl _) fun x ds hx => ?_⟩
  by_cases ee : x = b
  · subst ee
    rw [h.set_same] at hx
    cases hx
    have hl := hnew.length
    have hlen : cs'.length = max cs.length (o + new.length) := by
      rw [hcs']; simp; omega
    have hc1 : CR w h N (cs.take o ++ new ++ cs.drop (o + new.length)) ((cells.toList.take cs.length).take o ++ vs ++ (cells.toList.take cs.length).drop (o + new.length)) :=
      ((hold.take o).append hnew).append (hold.drop _)
    refine .inr ⟨c', e, q1, by rw [q2, hlen]; omega, ?_⟩
    have : c'.toList.take cs'.length = (cells.toList.take cs.length).take o ++ vs ++ (cells.toList.take cs.length).drop (o + new.length) := by
      rw [q3, hlen]
      have hsz : cells.toList.length = cells.size := by simp
      apply List.ext_getElem?
      intro i
      simp only [List.append_assoc, List.getElem?_append, List.length_take, List.getElem?_take, List.getElem?_drop]
      repeat' split
      all_goals first | omega | rfl | (congr 1; omega) | (symm; apply List.getElem?_eq_none; omega) | (apply List.getElem?_eq_none; omega) | skip
    rw [this]
    have hc2 := CR.step hst.kp (Nat.le_refl _) _ hc1
    rw [← hcs'] at hc2
    exact hc2
  · rw [h.set_ne cs' ee] at hx
    exact .inl ⟨hx, setCells_other b vs o w x ee⟩

/-- What lives may be let go. -/
theorem St.kill (w : World) (h h' : Heap) (hh : ∀ b cs, h'.f b = some cs → h.f b = some cs) : St w h w h' :=
  ⟨rfl, rfl, rfl, Nat.le_refl _, fun _ _ _ => rfl, (fun b _ e => by
    cases e' : h'.f b with
    | none => rfl
    | some cs => rw [hh b cs e'] at e; cases e), fun _ c _ fz e => ⟨c, fz, e, rfl⟩⟩
theorem WR.kill {w : World} {h h' : Heap} {N : Nat} (hw : WR w h N) (hh : ∀ b cs, h'.f b = some cs → h.f b = some cs) : WR w h' N :=
  hw.step (St.kill w h h' hh).kp (Nat.le_refl _) fun b cs e => .inl ⟨hh b cs e, rfl⟩
end Go.Pm

/-
  An abstract machine over pure values, part C: operations that only compute, and that they do what the machine's do.
  Conditions: none.
-/
namespace Go.Pm
set_option linter.unusedVariables false
set_option linter.unusedSimpArgs false

/-! ### Constants, operands -/
def cval1 : Value → PV
  | .bool b => .bool b
  | .int k n => .int k n
  | .string s => .str s
  | .slice none 0 0 => .nils
  | .pointer none => .nilp
  | .nilFunc => .nilf
  | _ => .undef
def cval : Value → PV
  | .agg cs => if cs.all (·.oneCell') then .agg (cs.toList.map cval1) else .undef
  | v => cval1 v
def ev (σ : Nat → PV) : Operand → PV
  | .tmp t => σ t
  | .const v => cval v
  | .global _ => .undef
  | .func f => .fn f [] []

theorem VR.cval1 {w : World} {h : Heap} {N : Nat} (v : Value) : VR w h N (Pm.cval1 v) v := by
  unfold Pm.cval1
  split <;> simp only [VR]
theorem VR.cval {w : World} {h : Heap} {N : Nat} (v : Value) : VR w h N (Pm.cval v) v := by
  unfold Pm.cval
  split
  · rename_i cs
    split
    · rename_i hc
      simp only [VR]
      refine ⟨cs, rfl, ?_⟩
      have : ∀ l : List Value, (∀ v ∈ l, v.oneCell' = true) → CR w h N (l.map Pm.cval1) l := by
        intro l
        induction l with
        | nil => intro _; simp [CR]
        | cons v l ih => intro hl; simp only [List.map_cons, CR]; exact ⟨v, l, rfl, hl v (by simp), VR.cval1 v, ih fun u hu => hl u (by simp [hu])⟩
      exact this _ fun v hv => Array.all_eq_true_iff_forall_mem.1 hc v (by simpa using hv)
    · simp only [VR]
  · exact VR.cval1 v

/-! ### Type facts -/
def tag (P : Program) (t : TypeId) : Option Bool := (P.underlying t).map fun d => match d with | .struct _ | .array _ _ => true | _ => false
def tsz (P : Program) (t : TypeId) : Option Nat := (P.info? t).map (·.size)
def elt (P : Program) (t : TypeId) : Option TypeId := match P.underlying t with | some (.slice e) => some e | _ => none
def arr (P : Program) (t : TypeId) : Option (Nat × TypeId) := match P.underlying t with | some (.array n e) => some (n, e) | _ => none
/-- A struct's fields: where each begins, whether it is a row of its own, how many cells it has. -/
def fld (P : Program) (t : TypeId) (f : Nat) : Option (Nat × Bool × Nat) :=
  match P.underlying t with
  | some (.struct fs) => match fs[f]? with
    | some x => match tag P x.type, tsz P x.type with | some g, some n => some (x.offset, g, n) | _, _ => none
    | none => none
  | _ => none
def flat : PV → Option (List PV)
  | .agg cs => some cs
  | .tup _ | .undef | .anyb => none
  | v => some [v]
def zc (P : Program) (t : TypeId) : Option (List PV) := match P.info? t with | some i => i.zero.bind fun z => flat (cval z) | none => none
/-- A type's fields or elements, for what is built: each one's place and size. -/
def plc (P : Program) (t : TypeId) : Option (Nat → Option (Nat × Nat)) :=
  match P.underlying t with
  | some (.struct fs) => match fs.toList.mapM (fun f => (P.info? f.type).map fun i => (f.offset, i.size)) with
    | some l => some fun i => l[i]?
    | none => none
  | some (.array _ e) => (tsz P e).map fun n => fun i => some (i * n, n)
  | _ => none

section
variable {P : Program} {w : World} {h : Heap} {N : Nat}

theorem VR.flat_CR {c : PV} {cs : List PV} {v : Value} (r : VR w h N c v) (e : flat c = some cs) : CR w h N cs v.cells.toList := by
  cases c <;> simp only [flat, Option.some.injEq, reduceCtorEq] at e <;> subst e <;> simp only [VR] at r
  case agg => obtain ⟨vs, rfl, h1⟩ := r; exact h1
  case int => subst r; exact CR.one rfl (by simp only [VR])
  case bool => subst r; exact CR.one rfl (by simp only [VR])
  case str => subst r; exact CR.one rfl (by simp only [VR])
  case nils => subst r; exact CR.one rfl (by simp only [VR])
  case nilp => subst r; exact CR.one rfl (by simp only [VR])
  case nilf => subst r; exact CR.one rfl (by simp only [VR])
  case ptr => subst r; exact CR.one rfl (by simp only [VR])
  case list fr E n cs =>
    have r' := r
    obtain ⟨a, c, vs, rfl, q⟩ := r
    exact CR.one rfl (by simp only [VR]; exact r')
  case buf b E off n =>
    have r' := r
    obtain ⟨c, rfl, q⟩ := r
    exact CR.one rfl (by simp only [VR]; exact r')
  case fptr fr cs off =>
    have r' := r
    obtain ⟨b, o, vs, rfl, q⟩ := r
    exact CR.one rfl (by simp only [VR]; exact r')
  case fn f a b =>
    have r' := r
    obtain ⟨fs, cv, rfl, q⟩ := r
    exact CR.one rfl (by simp only [VR]; exact r')

theorem isAgg_run {t : TypeId} {g : Bool} (e : tag P t = some g) : (isAgg t).run P w = .ok g w := by
  unfold tag at e
  cases hd : P.underlying t with
  | none => simp [hd] at e
  | some d =>
    simp only [hd, Option.map_some, Option.some.injEq] at e
    unfold isAgg
    rw [Sem.run_bind, run_underlying hd w]
    cases d <;> simp_all
theorem sizeOf_run {t : TypeId} {n : Nat} (e : tsz P t = some n) : (sizeOf t).run P w = .ok n w := by
  unfold tsz at e
  cases hi : P.info? t with
  | none => simp [hi] at e
  | some i => simp [hi] at e; simp [sizeOf, typeInfo, hi, e]

/-! ### Loads -/
def ldv (g : Bool) (n : Nat) (cs : List PV) (off : Nat) : Option PV :=
  if g then (if off + n ≤ cs.length then some (.agg ((cs.drop off).take n)) else none) else cs[off]?
/-- What a load yields. -/
def ldp (P : Program) (h : Heap) (t : TypeId) (p : PV) : Option PV :=
  match tag P t, tsz P t with
  | some g, some n => match p with
    | .fptr _ cs off => ldv g n cs off
    | .ptr b off => match h.f b with | some cs => (ldv g n cs off).map PV.old | none => none
    | _ => none
  | _, _ => none
theorem load_mem {t : TypeId} {g : Bool} {n b o off : Nat} {cs : List PV} {vs : List Value} {v : PV} (hg : tag P t = some g) (hn : tsz P t = some n)
    (hc : CR w h N cs vs) (hm : Mem w b o vs) (e : ldv g n cs off = some v) :
    ∃ c, (Instr.loadAt t (.pointer (some ⟨b, o + off, none⟩))).run P w = .ok c w ∧ VR w h N v c := by
  unfold ldv at e
  cases g with
  | true =>
    simp only [if_true] at e
    split at e
    · rename_i hl
      cases e
      have hlen := hc.length
      have hl2 : ((vs.drop off).take n).length = n := by simp; omega
      have hrun : (loadCells ⟨b, o + off, none⟩ n).run P w = .ok ((vs.drop off).take n).toArray w := by
        have := run_loadCells_list (P := P) w ⟨b, o + off, none⟩ ((vs.drop off).take n) fun j v hv => by
          rw [Addr.add_mid]
          have hj : j < n := by
            have := (List.getElem?_eq_some_iff.1 hv).1
            omega
          rw [List.getElem?_take, if_pos hj, List.getElem?_drop] at hv
          have := hm (off + j) v hv
          rwa [← Nat.add_assoc] at this
        rwa [hl2] at this
      refine ⟨.agg ((vs.drop off).take n).toArray, ?_, ?_⟩
      · simp [Instr.loadAt, Instr.sureAddr, loadVar, isAgg_run hg, sizeOf_run hn, hrun]
      · simp only [VR]
        exact ⟨_, rfl, by simpa using (hc.drop off).take n⟩
    · cases e
  | false =>
    simp only [Bool.false_eq_true, if_false] at e
    obtain ⟨c, h1, h2⟩ := hc.get off e
    exact ⟨c, by simp [Instr.loadAt, Instr.sureAddr, loadVar, isAgg_run hg, load, Sem.run, hm off c h1], h2⟩
theorem Mem.live {b : Nat} {cells : Array Value} {e : TypeId} {fz : Nat × Nat} (hb : w.heap[b]? = some (.cells cells e fz)) (k : Nat) : Mem w b 0 (cells.toList.take k) := fun i v hi => by
  rw [List.getElem?_take] at hi
  split at hi
  · simpa [World.cell?, hb] using hi
  · cases hi
theorem ld_sound {o : Oper} {ρ : Operand → Value} {t : TypeId} {a : Operand} {p v : PV} (ho : o.op = .load t a) (hp : VR w h N p (ρ a)) (hw : WR w h 0) (e : ldp P h t p = some v) :
    ∃ c, (execOp ρ o).run P w = .ok (.value c) w ∧ VR w h N v c := by
  unfold ldp at e
  split at e
  · rename_i g n hg hn
    have key : ∃ c, (Instr.loadAt t (ρ a)).run P w = .ok c w ∧ VR w h N v c := by
      cases p with
      | fptr fr cs off =>
        simp only [VR] at hp
        obtain ⟨b, o', vs, hv, _, _, _, hc, hm⟩ := hp
        rw [hv]
        exact load_mem hg hn hc hm e
      | ptr b off =>
        simp only [VR] at hp
        rw [hp]
        simp only at e
        cases hb : h.f b with
        | none => simp [hb] at e
        | some cs =>
          simp only [hb] at e
          cases he : ldv g n cs off with
          | none => simp [he] at e
          | some v0 =>
            simp only [he, Option.map_some, Option.some.injEq] at e
            subst e
            obtain ⟨cells, t', hcell, hl, hc⟩ := hw b cs hb
            obtain ⟨c, q1, q2⟩ := load_mem (off := off) hg hn hc (Mem.live hcell cs.length) he
            exact ⟨c, by simpa using q1, VR.old _ q2⟩
      | _ => simp at e
    obtain ⟨c, h1, h2⟩ := key
    exact ⟨c, by simp [execOp, ho, h1], h2⟩
  · cases e

/-! ### Computing -/
/-- Are cells alike? (Whole numbers alone.) -/
def ceq : List PV → List PV → Option Bool
  | [], [] => some true
  | .int k a :: xs, .int k' b :: ys => if k = k' then (ceq xs ys).map fun r => decide (a = b) && r else none
  | _, _ => none
/-- Are cells alike? (Truths alone.) -/
def ceqB : List PV → List PV → Option Bool
  | [], [] => some true
  | .bool a :: xs, .bool b :: ys => (ceqB xs ys).map fun r => (a == b) && r
  | _, _ => none
/-- How many cells a struct's fields have, if they are whole numbers alone. -/
def nIntsF (g : TypeId → Option Nat) (P : Program) : List Field → Nat → Option Nat
  | [], off => some off
  | f :: fs, off => if f.offset = off ∧ (f.name == "_") = false then
      match g f.type, tsz P f.type with | some m, some m' => if m' = m then nIntsF g P fs (off + m) else none | _, _ => none
    else none
def nInts (P : Program) : Nat → TypeId → Option Nat
  | 0, _ => none
  | n + 1, t => match P.underlying t with
    | some (.int _) => some 1
    | some (.struct fs) => if P.stoodInHeld t = false then nIntsF (nInts P n) P fs.toList 0 else none
    | _ => none
/-- May structs of this type be compared: whole numbers alone? -/
def eqt (P : Program) (t : TypeId) : Bool := (match P.underlying t with | some (.struct _) => true | _ => false) && !P.eqGuardType P.depth t && (match nInts P 9 t with | some m => tsz P t == some m | none => false)
/-- May arrays of this type be compared: truths alone? -/
def eqtB (P : Program) (t : TypeId) : Bool := (match P.underlying t with
  | some (.array n e) => (match P.underlying e with | some .bool => true | _ => false) && tsz P e == some 1 && tag P e == some false && tsz P t == some n
  | _ => false) && !P.eqGuardType P.depth t
/-- May arrays of this type be compared: whole numbers alone? -/
def eqtI (P : Program) (t : TypeId) : Bool := (match P.underlying t with
  | some (.array n e) => (match P.underlying e with | some (.int _) => true | _ => false) && tsz P e == some 1 && tag P e == some false && tsz P t == some n
  | _ => false) && !P.eqGuardType P.depth t
def bin (P : Program) (op : BinOp) (t : TypeId) (x y : PV) : Option PV :=
  match x, y with
  | .int k a, .int k' b =>
    match op with
    | .shl => if 0 ≤ b then some (.int k (k.wrap (a * 2 ^ (min b.toNat k.bits)))) else none
    | .shr => if 0 ≤ b then some (.int k (a.fdiv (2 ^ (min b.toNat k.bits)))) else none
    | _ => if k = k' then
      match op with
      | .add => some (.int k (k.wrap (a + b)))
      | .sub => some (.int k (k.wrap (a - b)))
      | .mul => some (.int k (k.wrap (a * b)))
      | .quo => if b = 0 then none else some (.int k (k.wrap (a.tdiv b)))
      | .rem => if b = 0 then none else some (.int k (a.tmod b))
      | .and => some (.int k (k.wrap (BitVec.ofInt k.bits a &&& BitVec.ofInt k.bits b).toNat))
      | .or => some (.int k (k.wrap (BitVec.ofInt k.bits a ||| BitVec.ofInt k.bits b).toNat))
      | .xor => some (.int k (k.wrap (BitVec.ofInt k.bits a ^^^ BitVec.ofInt k.bits b).toNat))
      | .andNot => some (.int k (k.wrap (BitVec.ofInt k.bits a &&& ~~~ BitVec.ofInt k.bits b).toNat))
      | .eql => some (.bool (a == b))
      | .neq => some (.bool (a != b))
      | .lss => some (.bool (decide (a < b)))
      | .leq => some (.bool (decide (a ≤ b)))
      | .gtr => some (.bool (decide (a > b)))
      | .geq => some (.bool (decide (a ≥ b)))
      | _ => none
      else none
  | .str a, .str b =>
    match op with
    | .eql => some (.bool (a.toList == b.toList))
    | .neq => some (.bool !(a.toList == b.toList))
    | _ => none
  | .bool a, .bool b =>
    match P.underlying t with
    | some .bool => match op with
      | .eql => some (.bool (a == b))
      | .neq => some (.bool !(a == b))
      | _ => none
    | _ => none
  | .agg cs, .agg ds => if (eqt P t || eqtI P t) then (if tsz P t = some cs.length then (match ceq cs ds with | some r => (match op with | .eql => some (.bool r) | .neq => some (.bool !r) | _ => none) | none => none) else none)
    else if eqtB P t then (if tsz P t = some cs.length then (match ceqB cs ds with | some r => (match op with | .eql => some (.bool r) | .neq => some (.bool !r) | _ => none) | none => none) else none) else none
  | x, .nilp =>
    match P.underlying t with
    | some (.pointer _) =>
      match x with
      | .nilp => match op with | .eql => some (.bool true) | .neq => some (.bool false) | _ => none
      | .ptr _ _ | .fptr _ _ _ => match op with | .eql => some (.bool false) | .neq => some (.bool true) | _ => none
      | _ => none
    | _ => none
  | x, .nils =>
    match P.underlying t with
    | some (.slice _) =>
      match x with
      | .nils => match op with | .eql => some (.bool true) | .neq => some (.bool false) | _ => none
      | .buf _ _ _ _ => match op with | .eql => some (.bool false) | .neq => some (.bool true) | _ => none
      | .list _ _ n _ => if n = 0 then (match op with | .eql => some .anyb | .neq => some .anyb | _ => none) else match op with | .eql => some (.bool false) | .neq => some (.bool true) | _ => none
      | _ => none
    | _ => none
  | _, _ => none

theorem eqGuard_skip {op : BinOp} {t : TypeId} {x y : Operand} {a b : Value} (ha : ∀ c, a ≠ .agg c) (hn : a ≠ .nilIface) :
    (eqGuard op t x y a b).run P w = .ok () w := by
  cases op <;> cases a <;> first | rfl | exact absurd rfl hn | exact absurd rfl (ha _)
theorem eqIn_ptr_nil {t e : TypeId} (ht : P.underlying t = some (.pointer e)) (a : Option Addr) (d : Nat) : (Op.equalIn (d + 1) t (.pointer a) (.pointer none)).run P w = .ok a.isNone w := by
  cases a <;> simp [Op.equalIn, run_underlying ht]
theorem eq_ptr_nil {t e : TypeId} (ht : P.underlying t = some (.pointer e)) (a : Option Addr) : (Op.equal t (.pointer a) (.pointer none)).run P w = .ok a.isNone w :=
  eqIn_ptr_nil ht a 9999
theorem eqIn_slice_nil {t e : TypeId} (ht : P.underlying t = some (.slice e)) (a : Option Addr) (l c d : Nat) : (Op.equalIn (d + 1) t (.slice a l c) (.slice none 0 0)).run P w = .ok a.isNone w := by
  cases a <;> simp [Op.equalIn, run_underlying ht]
theorem eq_slice_nil {t e : TypeId} (ht : P.underlying t = some (.slice e)) (a : Option Addr) (l c : Nat) : (Op.equal t (.slice a l c) (.slice none 0 0)).run P w = .ok a.isNone w :=
  eqIn_slice_nil ht a l c 9999
theorem eq_bool {t : TypeId} (ht : P.underlying t = some .bool) (a b : Bool) : (Op.equal t (.bool a) (.bool b)).run P w = .ok (a == b) w :=
  run_equal_bool w t a b ht

theorem ceq_len : ∀ {xs ys : List PV} {r : Bool}, ceq xs ys = some r → xs.length = ys.length
  | [], [], _, _ => rfl
  | .int k a :: xs, .int k' b :: ys, r, e => by
    simp only [ceq] at e
    split at e
    · obtain ⟨r', h, _⟩ := Option.map_eq_some_iff.1 e
      simp [ceq_len h]
    · cases e
theorem ceq_split : ∀ (m : Nat) {xs ys : List PV} {r : Bool}, ceq xs ys = some r → ∃ r1 r2, ceq (xs.take m) (ys.take m) = some r1 ∧ ceq (xs.drop m) (ys.drop m) = some r2 ∧ r = (r1 && r2)
  | 0, xs, ys, r, e => ⟨true, r, by simp [ceq], by simpa using e, by simp⟩
  | m + 1, [], [], r, e => by simp only [ceq, Option.some.injEq] at e; subst e; exact ⟨true, true, by simp [ceq], by simp [ceq], rfl⟩
  | m + 1, .int k a :: xs, .int k' b :: ys, r, e => by
    simp only [ceq] at e
    split at e
    · rename_i hk
      obtain ⟨r', h, rfl⟩ := Option.map_eq_some_iff.1 e
      obtain ⟨r1, r2, h1, h2, rfl⟩ := ceq_split m h
      exact ⟨decide (a = b) && r1, r2, by simp [ceq, hk, h1], by simpa using h2, by rw [Bool.and_assoc]⟩
    · cases e
theorem cells_one {v : Value} (e : v.oneCell' = true) : v.cells = #[v] := by cases v <;> simp_all [Value.oneCell', Value.cells]
theorem eq_fields (d : Nat) (g : TypeId → Option Nat) (hg : ∀ t m, g t = some m → tsz P t = some m → ∀ (a b : Value) (cs ds : List PV) (r : Bool), (∃ q, tag P t = some q ∧ (q = true → ∃ vs, a = .agg vs) ∧ (q = true → ∃ vs, b = .agg vs) ∧ (q = false → a.oneCell' = true ∧ b.oneCell' = true)) →
      CR w h N cs a.cells.toList → CR w h N ds b.cells.toList → cs.length = m → ceq cs ds = some r → (Op.equalIn d t a b).run P w = .ok r w) (ht : ∀ t m, g t = some m → ∃ q, tag P t = some q ∧ (q = false → m = 1))
    (vs us : Array Value) : ∀ (fs : List Field) (off m : Nat) (cs ds : List PV) (r : Bool), nIntsF g P fs off = some m → CR w h N cs (vs.toList.drop off) → CR w h N ds (us.toList.drop off) → cs.length = m - off → off ≤ m → ceq cs ds = some r →
      (Op.eqFields d vs us fs).run P w = .ok r w
  | [], off, m, cs, ds, r, e, c1, c2, hl, _, q => by
    simp only [nIntsF, Option.some.injEq] at e; subst e
    have h0 : cs = [] := List.length_eq_zero_iff.1 (by omega)
    have h1 : ds = [] := List.length_eq_zero_iff.1 (by rw [← ceq_len q, h0]; rfl)
    subst h0 h1
    simp only [ceq, Option.some.injEq] at q; subst q
    simp [Op.eqFields]
  | f :: fs, off, m, cs, ds, r, e, c1, c2, hl, hm, q => by
    simp only [nIntsF] at e
    split at e
    case isFalse => cases e
    case isTrue ho =>
    split at e
    case h_2 => cases e
    case h_1 k k' e1 e2 =>
    split at e
    case isFalse => cases e
    case isTrue hk =>
    subst hk
    have hmono : ∀ (fs : List Field) (o m : Nat), nIntsF g P fs o = some m → o ≤ m := by
      intro fs
      induction fs with
      | nil => intro o m e; simp only [nIntsF, Option.some.injEq] at e; omega
      | cons f fs ih =>
        intro o m e
        simp only [nIntsF] at e
        split at e
        case isFalse => cases e
        case isTrue =>
        split at e
        case h_2 => cases e
        case h_1 =>
        split at e
        case isFalse => cases e
        case isTrue => have := ih _ _ e; omega
    have hle := hmono _ _ _ e
    obtain ⟨r1, r2, q1, q2, rfl⟩ := ceq_split k' q
    have rest := eq_fields d g hg ht vs us fs (off + k') m (cs.drop k') (ds.drop k') r2 e (by rw [← List.drop_drop]; exact c1.drop k') (by rw [← List.drop_drop]; exact c2.drop k') (by simp; omega) hle q2
    have hn : f.name ≠ "_" := by simpa using ho.2
    obtain ⟨tg, t1, t2⟩ := ht _ _ e1
    have key : ∃ a b, (part f.type vs f.offset).run P w = .ok a w ∧ (part f.type us f.offset).run P w = .ok b w ∧ (Op.equalIn d f.type a b).run P w = .ok r1 w := by
      rw [ho.1]
      cases tg with
      | true =>
        refine ⟨.agg (vs.extract off (off + k')), .agg (us.extract off (off + k')), by simp [part, isAgg_run t1, sizeOf_run e2], by simp [part, isAgg_run t1, sizeOf_run e2], ?_⟩
        refine hg _ _ e1 e2 _ _ (cs.take k') (ds.take k') r1 ⟨true, t1, fun _ => ⟨_, rfl⟩, fun _ => ⟨_, rfl⟩, fun e => by cases e⟩ ?_ ?_ (by simp; omega) q1
        · simp only [Value.cells, Array.toList_extract, List.extract_eq_take_drop]; simpa using c1.take k'
        · simp only [Value.cells, Array.toList_extract, List.extract_eq_take_drop]; simpa using c2.take k'
      | false =>
        have := t2 rfl
        subst this
        match cs, ds, c1, c2, hl, q, q1 with
        | [], _, _, _, hl, _, _ => simp at hl; omega
        | c :: cs, [], _, _, _, q, _ => exact absurd (ceq_len q) (by simp)
        | c :: cs, x :: ds, c1, c2, hl, q, q1 =>
          simp only [CR] at c1 c2
          obtain ⟨v, vs', e3, o1, v1, _⟩ := c1
          obtain ⟨u, us', e4, o2, v2, _⟩ := c2
          have g1 : vs[off]? = some v := by rw [← Array.getElem?_toList, ← List.head?_drop, e3]; rfl
          have g2 : us[off]? = some u := by rw [← Array.getElem?_toList, ← List.head?_drop, e4]; rfl
          refine ⟨v, u, by simp [part, isAgg_run t1, g1], by simp [part, isAgg_run t1, g2], ?_⟩
          refine hg _ _ e1 e2 _ _ [c] [x] r1 ⟨false, t1, (by simp), (by simp), fun _ => ⟨o1, o2⟩⟩ ?_ ?_ rfl (by simpa using q1)
          · rw [cells_one o1]; exact CR.one o1 v1
          · rw [cells_one o2]; exact CR.one o2 v2
    obtain ⟨a, b, k1, k2, k3⟩ := key
    rw [Op.eqFields]
    simp only [if_pos hn, Sem.run_bind, k1, k2, k3, Result.andThen_ok]
    cases r1
    · simp
    · simpa using rest
theorem nInts_tag : ∀ (n : Nat) (t : TypeId) (m : Nat), nInts P n t = some m → ∃ q, tag P t = some q ∧ (q = false → m = 1)
  | 0, t, m, e => by cases e
  | n + 1, t, m, e => by
    simp only [nInts] at e
    split at e
    case h_1 k hu => cases e; exact ⟨false, by simp [tag, hu], fun _ => rfl⟩
    case h_2 fs hu => exact ⟨true, by simp [tag, hu], fun e => by cases e⟩
    case h_3 => cases e
theorem eq_ints : ∀ (n : Nat) (d : Nat) (t : TypeId) (m : Nat), nInts P n t = some m → ∀ (a b : Value) (cs ds : List PV) (r : Bool), (∃ q, tag P t = some q ∧ (q = true → ∃ vs, a = .agg vs) ∧ (q = true → ∃ vs, b = .agg vs) ∧ (q = false → a.oneCell' = true ∧ b.oneCell' = true)) →
      CR w h N cs a.cells.toList → CR w h N ds b.cells.toList → cs.length = m → ceq cs ds = some r → (Op.equalIn (d + n) t a b).run P w = .ok r w
  | 0, d, t, m, e => by cases e
  | n + 1, d, t, m, e => by
    intro a b cs ds r ⟨q, hq, qa, qb, qo⟩ c1 c2 hl hr
    simp only [nInts] at e
    split at e
    case h_1 k hu =>
      cases e
      have q0 : q = false := by simp [tag, hu] at hq; exact hq
      obtain ⟨o1, o2⟩ := qo q0
      obtain ⟨c, rfl⟩ := List.length_eq_one_iff.1 hl
      obtain ⟨c', rfl⟩ := List.length_eq_one_iff.1 ((ceq_len hr).symm.trans hl)
      cases c <;> cases c' <;> try (simp [ceq] at hr; done)
      · rename_i k1 x k2 y
        simp only [ceq] at hr
        split at hr
        · rename_i hk
          rw [cells_one o1] at c1; rw [cells_one o2] at c2
          simp only [CR] at c1 c2
          obtain ⟨v, vs, e1, _, v1, _⟩ := c1
          obtain ⟨u, us, e2, _, v2, _⟩ := c2
          cases e1; cases e2
          simp only [VR] at v1 v2
          subst v1 v2 hk
          simp at hr
          rw [← hr]
          simp only [← Nat.add_assoc, Op.equalIn, Sem.run_bind, run_underlying hu, Result.andThen_ok]
          simp
          rfl
        · cases hr
    case h_2 fs hu =>
      split at e
      case isFalse => cases e
      case isTrue hp =>
      have q0 : q = true := by simp [tag, hu] at hq; exact hq
      obtain ⟨vs, rfl⟩ := qa q0
      obtain ⟨us, rfl⟩ := qb q0
      have hf : P.fieldsOf t = fs := by simp [Program.fieldsOf, hu]
      rw [← Nat.add_assoc, run_equalIn_struct (P := P) w (d + n) t vs us (by rw [hf]; exact hu) hp, hf]
      exact eq_fields (d + n) (nInts P n) (fun t m e1 _ => eq_ints n d t m e1) (nInts_tag n) vs us fs.toList 0 m cs ds r e (by simpa [Value.cells] using c1) (by simpa [Value.cells] using c2) (by omega) (by omega) hr
    case h_3 => cases e
theorem eqGuard_agg {op : BinOp} {t : TypeId} {x y : Operand} {vs us : Array Value} (hg : P.eqGuardType P.depth t = false) : (eqGuard op t x y (.agg vs) (.agg us)).run P w = .ok () w := by
  cases op <;> simp [eqGuard, hg]
theorem eq_agg {t : TypeId} {vs us : Array Value} {cs ds : List PV} {r : Bool} (e : eqt P t = true) (c1 : CR w h N cs vs.toList) (c2 : CR w h N ds us.toList) (hl : tsz P t = some cs.length) (hr : ceq cs ds = some r) :
    (Op.equal t (.agg vs) (.agg us)).run P w = .ok r w ∧ P.eqGuardType P.depth t = false := by
  simp only [eqt, Bool.and_eq_true, Bool.not_eq_true'] at e
  obtain ⟨⟨e1, e2⟩, e3⟩ := e
  refine ⟨?_, e2⟩
  split at e3
  · rename_i m hm
    have : m = cs.length := by rw [hl] at e3; exact (by simpa using e3 : cs.length = m).symm
    subst this
    split at e1
    · rename_i fs hu
      exact eq_ints 9 9991 t _ hm _ _ cs ds r ⟨true, by simp [tag, hu], fun _ => ⟨_, rfl⟩, fun _ => ⟨_, rfl⟩, fun e => by cases e⟩ (by simpa [Value.cells] using c1) (by simpa [Value.cells] using c2) rfl hr
    · cases e1
  · cases e3

theorem eq_items (d : Nat) {e : TypeId} (hu : P.underlying e = some .bool) (hs : P.cellsOf e = 1) (ht : tag P e = some false) (xs ys : Array Value) : ∀ (cs ds : List PV) (off : Nat) (r : Bool), CR w h N cs (xs.toList.drop off) → CR w h N ds (ys.toList.drop off) → ceqB cs ds = some r →
    (Op.eqItems (d + 1) e (P.cellsOf e) xs ys (List.range' off cs.length)).run P w = .ok r w
  | [], ds, off, r, c1, c2, q => by
    cases ds with
    | nil => simp only [ceqB, Option.some.injEq] at q; subst q; simp [Op.eqItems]
    | cons x ds => simp [ceqB] at q
  | c :: cs, [], off, r, c1, c2, q => by cases c <;> simp [ceqB] at q
  | c :: cs, x :: ds, off, r, c1, c2, q => by
    have n1 := c1.drop 1
    have n2 := c2.drop 1
    rw [List.drop_drop] at n1 n2
    simp only [List.drop_succ_cons, List.drop_zero] at n1 n2
    simp only [CR] at c1 c2
    obtain ⟨v, vs', e3, o1, v1, _⟩ := c1
    obtain ⟨u, us', e4, o2, v2, _⟩ := c2
    cases c <;> try (simp [ceqB] at q; done)
    cases x <;> try (simp [ceqB] at q; done)
    rename_i a b
    simp only [ceqB] at q
    obtain ⟨r', hr, rfl⟩ := Option.map_eq_some_iff.1 q
    have g1 : xs[off]? = some v := by rw [← Array.getElem?_toList, ← List.head?_drop, e3]; rfl
    have g2 : ys[off]? = some u := by rw [← Array.getElem?_toList, ← List.head?_drop, e4]; rfl
    simp only [VR] at v1 v2
    subst v1 v2
    have k1 : (part e xs off).run P w = .ok (.bool a) w := by simp [part, isAgg_run ht, g1]
    have k2 : (part e ys off).run P w = .ok (.bool b) w := by simp [part, isAgg_run ht, g2]
    have k3 : (Op.equalIn (d + 1) e (.bool a) (.bool b)).run P w = .ok (a == b) w := by simp [Op.equalIn, run_underlying hu]
    have rest := eq_items d hu hs ht xs ys cs ds (off + 1) r' n1 n2 hr
    rw [List.length_cons, List.range'_succ]
    rw [Op.eqItems]
    simp only [hs, Nat.mul_one] at rest ⊢
    simp only [Sem.run_bind, k1, k2, k3, Result.andThen_ok]
    cases hab : (a == b)
    · simp
    · simpa using rest
theorem eq_aggB {t : TypeId} {vs us : Array Value} {cs ds : List PV} {r : Bool} (e : eqtB P t = true) (c1 : CR w h N cs vs.toList) (c2 : CR w h N ds us.toList) (hl : tsz P t = some cs.length) (hr : ceqB cs ds = some r) :
    (Op.equal t (.agg vs) (.agg us)).run P w = .ok r w ∧ P.eqGuardType P.depth t = false := by
  simp only [eqtB, Bool.and_eq_true, Bool.not_eq_true'] at e
  obtain ⟨e1, e2⟩ := e
  refine ⟨?_, e2⟩
  split at e1
  · rename_i n el hu
    simp only [Bool.and_eq_true, beq_iff_eq] at e1
    obtain ⟨⟨⟨b1, b2⟩, b3⟩, b4⟩ := e1
    have hb : P.underlying el = some .bool := by
      revert b1; cases P.underlying el with
      | none => simp
      | some d => cases d <;> simp
    have hi : ∃ i, P.info? el = some i ∧ i.size = 1 := by
      unfold tsz at b2; cases q : P.info? el with
      | none => simp [q] at b2
      | some i => exact ⟨i, rfl, by simpa [q] using b2⟩
    obtain ⟨i, hi, hi1⟩ := hi
    have hc : P.cellsOf el = 1 := by simp [Program.cellsOf, hi, hi1]
    have hn : n = cs.length := by rw [hl] at b4; exact (by simpa using b4 : cs.length = n).symm
    subst hn
    have := run_equalIn_array (P := P) w 9999 vs us hu hi
    rw [show Op.equal t (.agg vs) (.agg us) = Op.equalIn (9999 + 1) t (.agg vs) (.agg us) from rfl, this, List.range_eq_range']
    exact eq_items 9998 hb hc b3 vs us cs ds 0 r (by simpa using c1) (by simpa using c2) hr
  · cases e1
theorem eq_itemsI (d : Nat) {e : TypeId} {ki : IntKind} (hu : P.underlying e = some (.int ki)) (hs : P.cellsOf e = 1) (ht : tag P e = some false) (xs ys : Array Value) : ∀ (cs ds : List PV) (off : Nat) (r : Bool), CR w h N cs (xs.toList.drop off) → CR w h N ds (ys.toList.drop off) → ceq cs ds = some r →
    (Op.eqItems (d + 1) e (P.cellsOf e) xs ys (List.range' off cs.length)).run P w = .ok r w
  | [], ds, off, r, c1, c2, q => by
    cases ds with
    | nil => simp only [ceq, Option.some.injEq] at q; subst q; simp [Op.eqItems]
    | cons x ds => simp [ceq] at q
  | c :: cs, [], off, r, c1, c2, q => by cases c <;> simp [ceq] at q
  | c :: cs, x :: ds, off, r, c1, c2, q => by
    have n1 := c1.drop 1
    have n2 := c2.drop 1
    rw [List.drop_drop] at n1 n2
    simp only [List.drop_succ_cons, List.drop_zero] at n1 n2
    simp only [CR] at c1 c2
    obtain ⟨v, vs', e3, o1, v1, _⟩ := c1
    obtain ⟨u, us', e4, o2, v2, _⟩ := c2
    cases c <;> try (simp [ceq] at q; done)
    cases x <;> try (simp [ceq] at q; done)
    rename_i k1 a k2 b
    simp only [ceq] at q
    split at q
    case isFalse => cases q
    case isTrue hk =>
    subst hk
    obtain ⟨r', hr, rfl⟩ := Option.map_eq_some_iff.1 q
    have g1 : xs[off]? = some v := by rw [← Array.getElem?_toList, ← List.head?_drop, e3]; rfl
    have g2 : ys[off]? = some u := by rw [← Array.getElem?_toList, ← List.head?_drop, e4]; rfl
    simp only [VR] at v1 v2
    subst v1 v2
    have p1 : (part e xs off).run P w = .ok (.int k1 a) w := by simp [part, isAgg_run ht, g1]
    have p2 : (part e ys off).run P w = .ok (.int k1 b) w := by simp [part, isAgg_run ht, g2]
    have p3 : (Op.equalIn (d + 1) e (.int k1 a) (.int k1 b)).run P w = .ok (decide (a = b)) w := by
      simp only [Op.equalIn, Sem.run_bind, run_underlying hu, Result.andThen_ok]
      simp
      rfl
    have rest := eq_itemsI d hu hs ht xs ys cs ds (off + 1) r' n1 n2 hr
    rw [List.length_cons, List.range'_succ]
    rw [Op.eqItems]
    simp only [hs, Nat.mul_one] at rest ⊢
    simp only [Sem.run_bind, p1, p2, p3, Result.andThen_ok]
    cases hab : decide (a = b)
    · simp
    · simpa using rest
theorem eq_aggI {t : TypeId} {vs us : Array Value} {cs ds : List PV} {r : Bool} (e : eqtI P t = true) (c1 : CR w h N cs vs.toList) (c2 : CR w h N ds us.toList) (hl : tsz P t = some cs.length) (hr : ceq cs ds = some r) :
    (Op.equal t (.agg vs) (.agg us)).run P w = .ok r w ∧ P.eqGuardType P.depth t = false := by
  simp only [eqtI, Bool.and_eq_true, Bool.not_eq_true'] at e
  obtain ⟨e1, e2⟩ := e
  refine ⟨?_, e2⟩
  split at e1
  · rename_i n el hu
    simp only [Bool.and_eq_true, beq_iff_eq] at e1
    obtain ⟨⟨⟨b1, b2⟩, b3⟩, b4⟩ := e1
    have hb : ∃ ki, P.underlying el = some (.int ki) := by
      revert b1; cases P.underlying el with
      | none => simp
      | some d => cases d <;> simp
    obtain ⟨ki, hb⟩ := hb
    have hi : ∃ i, P.info? el = some i ∧ i.size = 1 := by
      unfold tsz at b2; cases q : P.info? el with
      | none => simp [q] at b2
      | some i => exact ⟨i, rfl, by simpa [q] using b2⟩
    obtain ⟨i, hi, hi1⟩ := hi
    have hc : P.cellsOf el = 1 := by simp [Program.cellsOf, hi, hi1]
    have hn : n = cs.length := by rw [hl] at b4; exact (by simpa using b4 : cs.length = n).symm
    subst hn
    have := run_equalIn_array (P := P) w 9999 vs us hu hi
    rw [show Op.equal t (.agg vs) (.agg us) = Op.equalIn (9999 + 1) t (.agg vs) (.agg us) from rfl, this, List.range_eq_range']
    exact eq_itemsI 9998 hb hc b3 vs us cs ds 0 r (by simpa using c1) (by simpa using c2) hr
  · cases e1
theorem eq_aggX {t : TypeId} {vs us : Array Value} {cs ds : List PV} {r : Bool} (e : (eqt P t || eqtI P t) = true) (c1 : CR w h N cs vs.toList) (c2 : CR w h N ds us.toList) (hl : tsz P t = some cs.length) (hr : ceq cs ds = some r) :
    (Op.equal t (.agg vs) (.agg us)).run P w = .ok r w ∧ P.eqGuardType P.depth t = false := by
  rcases Bool.or_eq_true_iff.1 e with e | e
  · exact eq_agg e c1 c2 hl hr
  · exact eq_aggI e c1 c2 hl hr
theorem bin_sound {op : BinOp} {t : TypeId} {x y v : PV} {a b : Value} (hx : VR w h N x a) (hy : VR w h N y b) (e : bin P op t x y = some v) :
    (∀ X Y, (eqGuard op t X Y a b).run P w = .ok () w) ∧ ∃ c, (binOp op t a b).run P w = .ok c w ∧ VR w h N v c := by
  unfold bin at e
  split at e
  · -- ints
    rename_i k a' k' b'
    simp only [VR] at hx hy
    subst hx hy
    refine ⟨fun X Y => eqGuard_skip (fun _ => by simp) (by simp), ?_⟩
    cases op <;> simp only at e
    case shl =>
      split at e
      · cases e; rename_i hb
        exact ⟨_, by simp [binOp, Op.shift, Int.not_lt.2 hb]; rfl, by simp only [VR]⟩
      · cases e
    case shr =>
      split at e
      · cases e; rename_i hb
        exact ⟨_, by simp [binOp, Op.shift, Int.not_lt.2 hb]; rfl, by simp only [VR]⟩
      · cases e
    all_goals
      split at e
      · rename_i hk
        subst hk
        first
          | (cases e; exact ⟨_, by simp only [binOp, ne_eq, not_true_eq_false, if_false, Op.intArith, Op.intDiv, Op.intBits, Op.intCmp]; rfl, by simp only [VR]⟩)
          | (split at e
             · cases e
             · cases e; rename_i hb; exact ⟨_, by simp [binOp, Op.intDiv, hb]; rfl, by simp only [VR]⟩)
      · cases e
  · -- strings
    simp only [VR] at hx hy
    subst hx hy
    refine ⟨fun X Y => eqGuard_skip (fun _ => by simp) (by simp), ?_⟩
    cases op <;> simp only [reduceCtorEq] at e <;> cases e <;> exact ⟨_, by simp [binOp, Op.stringOp]; rfl, by simp only [VR]⟩
  · -- bools
    simp only [VR] at hx hy
    subst hx hy
    refine ⟨fun X Y => eqGuard_skip (fun _ => by simp) (by simp), ?_⟩
    split at e
    · rename_i ht
      cases op <;> simp only [reduceCtorEq] at e <;> cases e <;> exact ⟨_, by simp [binOp, eq_bool ht]; rfl, by simp only [VR]⟩
    · cases e
  · -- structs
    simp only [VR] at hx hy
    obtain ⟨vs, rfl, c1⟩ := hx
    obtain ⟨us, rfl, c2⟩ := hy
    split at e
    · rename_i he
      split at e
      · rename_i hl
        split at e
        · rename_i r hr
          obtain ⟨q1, q2⟩ := eq_aggX he c1 c2 hl hr
          refine ⟨fun X Y => eqGuard_agg q2, ?_⟩
          cases op <;> simp only [reduceCtorEq] at e <;> cases e <;> exact ⟨_, by simp [binOp, q1]; rfl, by simp only [VR]⟩
        · cases e
      · cases e
    · split at e
      · rename_i he
        split at e
        · rename_i hl
          split at e
          · rename_i r hr
            obtain ⟨q1, q2⟩ := eq_aggB he c1 c2 hl hr
            refine ⟨fun X Y => eqGuard_agg q2, ?_⟩
            cases op <;> simp only [reduceCtorEq] at e <;> cases e <;> exact ⟨_, by simp [binOp, q1]; rfl, by simp only [VR]⟩
          · cases e
        · cases e
      · cases e
  · -- pointers
    simp only [VR] at hy
    subst hy
    split at e
    · rename_i ht
      split at e
      · simp only [VR] at hx
        subst hx
        refine ⟨fun X Y => eqGuard_skip (fun _ => by simp) (by simp), ?_⟩
        cases op <;> simp only [reduceCtorEq] at e <;> cases e <;> exact ⟨_, by simp [binOp, eq_ptr_nil ht]; rfl, by simp only [VR]⟩
      · simp only [VR] at hx
        subst hx
        refine ⟨fun X Y => eqGuard_skip (fun _ => by simp) (by simp), ?_⟩
        cases op <;> simp only [reduceCtorEq] at e <;> cases e <;> exact ⟨_, by simp [binOp, eq_ptr_nil ht]; rfl, by simp only [VR]⟩
      · simp only [VR] at hx
        obtain ⟨_, _, _, hx, _⟩ := hx
        subst hx
        refine ⟨fun X Y => eqGuard_skip (fun _ => by simp) (by simp), ?_⟩
        cases op <;> simp only [reduceCtorEq] at e <;> cases e <;> exact ⟨_, by simp [binOp, eq_ptr_nil ht]; rfl, by simp only [VR]⟩
      · cases e
    · cases e
  · -- slices
    simp only [VR] at hy
    subst hy
    split at e
    · rename_i ht
      split at e
      · simp only [VR] at hx
        subst hx
        refine ⟨fun X Y => eqGuard_skip (fun _ => by simp) (by simp), ?_⟩
        cases op <;> simp only [reduceCtorEq] at e <;> cases e <;> exact ⟨_, by simp [binOp, eq_slice_nil ht]; rfl, by simp only [VR]⟩
      · simp only [VR] at hx
        obtain ⟨_, hx, _⟩ := hx
        subst hx
        refine ⟨fun X Y => eqGuard_skip (fun _ => by simp) (by simp), ?_⟩
        cases op <;> simp only [reduceCtorEq] at e <;> cases e <;> exact ⟨_, by simp [binOp, eq_slice_nil ht]; rfl, by simp only [VR]⟩
      · simp only [VR] at hx
        split at e
        · obtain ⟨a', c, vs, hx, _⟩ := hx
          subst hx
          refine ⟨fun X Y => eqGuard_skip (fun _ => by simp) (by simp), ?_⟩
          cases op <;> simp only [reduceCtorEq] at e <;> cases e <;> exact ⟨_, by simp [binOp, eq_slice_nil ht]; rfl, by simp only [VR]; exact ⟨_, rfl⟩⟩
        · rename_i hn
          obtain ⟨a', c, vs, hx, _, _, _, h4⟩ := hx
          rcases h4 with h4 | ⟨b, o, rfl, _⟩
          · exact absurd h4 hn
          subst hx
          refine ⟨fun X Y => eqGuard_skip (fun _ => by simp) (by simp), ?_⟩
          cases op <;> simp only [reduceCtorEq] at e <;> cases e <;> exact ⟨_, by simp [binOp, eq_slice_nil ht]; rfl, by simp only [VR]⟩
      · cases e
    · cases e
  · cases e
end
end Go.Pm

/-
  An abstract machine over pure values, part D: addresses, parts, slices, what is built.
  Conditions: none.
-/
namespace Go.Pm
set_option linter.unusedVariables false
set_option linter.unusedSimpArgs false

def un (op : UnOp) (x : PV) : Option PV :=
  match x with
  | .bool b => match op with | .not => some (.bool !b) | _ => none
  | .int k n => match op with | .neg => some (.int k (k.wrap (0 - n))) | _ => none
  | _ => none
def cv (P : Program) (s d : TypeId) (x : PV) : Option PV :=
  match (P.underlying s).isSome, P.underlying d, x with
  | true, some (.int k), .int _ n => some (.int k (k.wrap n))
  | _, _, _ => none
def fa (P : Program) (t : TypeId) (x : PV) (f : Nat) : Option PV :=
  match fld P t f with
  | some (o, _, n) => if n = 0 then none else match x with
    | .ptr b off => some (.ptr b (off + o))
    | .fptr fr cs off => some (.fptr fr cs (off + o))
    | _ => none
  | none => none
def fd (P : Program) (t : TypeId) (x : PV) (f : Nat) : Option PV :=
  match fld P t f, x with
  | some (o, g, n), .agg cs => ldv g n cs o
  | _, _ => none
def ixa (P : Program) (t : TypeId) (x i : PV) : Option PV :=
  match i with
  | .int _ j => match x with
    | .list fr E n cs => if 0 ≤ j ∧ j < n then (if (elt P t).bind (tsz P) = some E then some (.fptr fr cs (j.toNat * E)) else none) else none
    | .buf b E off n => if 0 ≤ j ∧ j < n then (if (elt P t).bind (tsz P) = some E then some (.ptr b (off + j.toNat * E)) else none) else none
    | .ptr b off => match arr P t with
      | some (n, e) => match tsz P e with
        | some E => if 0 ≤ j ∧ j < n then some (.ptr b (off + j.toNat * E)) else none
        | none => none
      | none => none
    | .fptr fr cs off => match arr P t with
      | some (n, e) => match tsz P e with
        | some E => if 0 ≤ j ∧ j < n then some (.fptr fr cs (off + j.toNat * E)) else none
        | none => none
      | none => none
    | _ => none
  | _ => none
def ixv (P : Program) (t : TypeId) (x i : PV) : Option PV :=
  match i with
  | .int _ j => match x with
    | .agg cs => match arr P t with
      | some (n, e) => match tag P e, tsz P e with
        | some g, some E => if 0 ≤ j ∧ j < n then ldv g E cs (j.toNat * E) else none
        | _, _ => none
      | none => none
    | .str s => match P.underlying t with
      | some .string => if 0 ≤ j then (s[j.toNat]?).map fun b => .int .u8 b.toNat else none
      | _ => none
    | _ => none
  | _ => none
/-- The bounds of a cut, with none above. -/
def cutB (n : Nat) (lo hi : Option PV) : Option (Nat × Nat) :=
  match lo, hi with
  | none, none => some (0, n)
  | some (.int _ l), none => if 0 ≤ l ∧ l ≤ n then some (l.toNat, n) else none
  | none, some (.int _ k) => if 0 ≤ k ∧ k ≤ n then some (0, k.toNat) else none
  | some (.int _ l), some (.int _ k) => if 0 ≤ l ∧ l ≤ k ∧ k ≤ n then some (l.toNat, k.toNat) else none
  | _, _ => none
def slc (P : Program) (t : TypeId) (x : PV) (lo hi : Option PV) : Option PV :=
  match x with
  | .str s => match P.underlying t with
    | some .string => (cutB s.size lo hi).map fun p => .str (s.extract p.1 p.2)
    | _ => none
  | .nils => if ((elt P t).bind (tsz P)).isSome then (cutB 0 lo hi).map fun _ => .nils else none
  | .list fr E n cs => if (elt P t).bind (tsz P) = some E then (cutB n lo hi).map fun p => .list fr E (p.2 - p.1) ((cs.drop (p.1 * E)).take ((p.2 - p.1) * E)) else none
  | .buf b E off n => if (elt P t).bind (tsz P) = some E then (cutB n lo hi).bind fun p =>
      if p.1 = 0 then some (.buf b E off p.2) else if p.1 < p.2 then some (.buf b E (off + p.1 * E) (p.2 - p.1)) else some (.list true E 0 []) else none
  | _ => none
def pfill (place : Nat → Option (Nat × Nat)) (cells : List PV) : List (Nat × PV) → Option (List PV)
  | [] => some cells
  | (i, v) :: rest => match place i, flat v with
    | some (off, size), some vs => if vs.length = size ∧ off + size ≤ cells.length then pfill place (wr cells off vs) rest else none
    | _, _ => none
def bld (P : Program) (t : TypeId) (parts : List (Nat × PV)) : Option PV :=
  match plc P t, zc P t with
  | some pl, some z => (pfill pl z parts).map .agg
  | _, _ => none
def lenv (x : PV) : Option PV :=
  match x with
  | .str s => some (.int .i64 s.size)
  | .nils => some (.int .i64 0)
  | .list _ _ n _ => some (.int .i64 n)
  | .buf _ _ _ n => some (.int .i64 n)
  | _ => none
/-- The capacity of what is nil (of nothing else is it told). -/
def capv (P : Program) (t : TypeId) (x : PV) : Option PV :=
  match x with
  | .nils => if (elt P t).isSome then some (.int .i64 0) else none
  | _ => none
def lenOk (P : Program) (t : TypeId) (x : PV) : Bool :=
  match P.underlying t, x with
  | some .string, .str _ => true
  | some (.slice _), .nils | some (.slice _), .list _ _ _ _ | some (.slice _), .buf _ _ _ _ => true
  | _, _ => false
def minv : List PV → Option PV
  | [.int k a, .int _ b] => some (.int k (if b < a then b else a))
  | _ => none
def maxv : List PV → Option PV
  | [.int k a, .int _ b] => some (.int k (if b > a then b else a))
  | _ => none

section
variable {P : Program} {w : World} {h : Heap} {N : Nat}

theorem un_sound {op : UnOp} {x v : PV} {a : Value} (hx : VR w h N x a) (e : un op x = some v) : ∃ c, (Op.unary op a).run P w = .ok c w ∧ VR w h N v c := by
  unfold un at e
  split at e
  · simp only [VR] at hx; subst hx
    cases op <;> simp only [reduceCtorEq] at e <;> cases e
    exact ⟨_, rfl, by simp only [VR]⟩
  · simp only [VR] at hx; subst hx
    cases op <;> simp only [reduceCtorEq] at e <;> cases e
    exact ⟨_, rfl, by simp only [VR]⟩
  · cases e
theorem cv_sound {s d : TypeId} {x v : PV} {a : Value} (hx : VR w h N x a) (e : cv P s d x = some v) : ∃ c, (convert s d a).run P w = .ok c w ∧ VR w h N v c := by
  unfold cv at e
  split at e
  · rename_i k _ n hs hd
    simp only [VR] at hx; subst hx
    cases e
    cases hs' : P.underlying s with
    | none => simp [hs'] at hs
    | some ds => exact ⟨_, by simp [convert, run_underlying hs', run_underlying hd, Conv.intToInt]; rfl, by simp only [VR]⟩
  · cases e
theorem fld_spec {t : TypeId} {f o n : Nat} {g : Bool} (e : fld P t f = some (o, g, n)) :
    ∃ fs x, P.underlying t = some (.struct fs) ∧ fs[f]? = some x ∧ x.offset = o ∧ tag P x.type = some g ∧ tsz P x.type = some n := by
  unfold fld at e
  split at e
  · rename_i fs hf
    split at e
    · rename_i x hx
      split at e
      · rename_i g' n' hg hn
        cases e
        exact ⟨fs, x, hf, hx, rfl, hg, hn⟩
      · cases e
    · cases e
  · cases e
theorem fa_sound {t : TypeId} {x v : PV} {f : Nat} {a : Value} (hx : VR w h N x a) (e : fa P t x f = some v) : ∃ c, (Instr.fieldAt t a f).run P w = .ok c w ∧ VR w h N v c := by
  unfold fa at e
  split at e
  · rename_i o g n hf
    obtain ⟨fs, y, h1, h2, rfl, h4, h5⟩ := fld_spec hf
    split at e
    · cases e
    · rename_i hn
      have key : ∀ (ad : Addr), (Instr.fieldAt t (.pointer (some ad)) f).run P w = .ok (.pointer (some (ad.add y.offset))) w := fun ad => by
        simp [Instr.fieldAt, run_underlying h1, h2, Instr.sureAddr, fieldPlace, sizeOf_run h5, hn]
      split at e
      · simp only [VR] at hx; subst hx; cases e
        exact ⟨_, key _, by simp only [VR, Addr.add_mid]⟩
      · simp only [VR] at hx
        obtain ⟨b, o, vs, rfl, q1, q2, q3, q4, q5⟩ := hx
        cases e
        exact ⟨_, key _, by simp only [VR, Addr.add_mid]; exact ⟨b, o, vs, by rw [Nat.add_assoc], q1, q2, q3, q4, q5⟩⟩
      · cases e
  · cases e
theorem part_sound {t : TypeId} {g : Bool} {n o : Nat} {cs : List PV} {vs : Array Value} {v : PV} (hg : tag P t = some g) (hn : tsz P t = some n) (hc : CR w h N cs vs.toList) (e : ldv g n cs o = some v) :
    ∃ c, (part t vs o).run P w = .ok c w ∧ VR w h N v c := by
  unfold ldv at e
  cases g with
  | true =>
    simp only [if_true] at e
    split at e
    · cases e
      refine ⟨.agg (vs.extract o (o + n)), by simp [part, isAgg_run hg, sizeOf_run hn], ?_⟩
      simp only [VR]
      refine ⟨_, rfl, ?_⟩
      have := (hc.drop o).take n
      rw [Array.toList_extract, List.extract_eq_take_drop]
      simpa using this
    · cases e
  | false =>
    simp only [Bool.false_eq_true, if_false] at e
    obtain ⟨c, h1, h2⟩ := hc.get o e
    have h1' : vs[o]? = some c := by simpa using h1
    exact ⟨c, by simp [part, isAgg_run hg, h1'], h2⟩
theorem fd_sound {t : TypeId} {x v : PV} {f : Nat} {a : Value} (hx : VR w h N x a) (e : fd P t x f = some v) : ∃ c, (Instr.field t a f).run P w = .ok c w ∧ VR w h N v c := by
  unfold fd at e
  split at e
  · rename_i o g n cs hf
    obtain ⟨fs, y, h1, h2, rfl, h4, h5⟩ := fld_spec hf
    simp only [VR] at hx
    obtain ⟨vs, rfl, hc⟩ := hx
    obtain ⟨c, q1, q2⟩ := part_sound h4 h5 hc e
    exact ⟨c, by simp [Instr.field, run_underlying h1, h2, asAgg, q1], q2⟩
  · cases e
theorem elt_spec {t : TypeId} {E : Nat} (e : (elt P t).bind (tsz P) = some E) : ∃ el, P.underlying t = some (.slice el) ∧ tsz P el = some E := by
  unfold elt at e
  split at e
  · rename_i el hu
    exact ⟨el, hu, by simpa using e⟩
  · simp at e
theorem arr_spec {t e : TypeId} {n : Nat} (q : arr P t = some (n, e)) : P.underlying t = some (.array n e) := by
  unfold arr at q
  split at q
  · rename_i n' e' hu; cases q; exact hu
  · cases q
theorem ixa_sound {t : TypeId} {x i v : PV} {a b : Value} (hx : VR w h N x a) (hi : VR w h N i b) (e : ixa P t x i = some v) : ∃ c, (Instr.indexAt t a b).run P w = .ok c w ∧ VR w h N v c := by
  unfold ixa at e
  split at e
  · rename_i k j
    simp only [VR] at hi; subst hi
    split at e
    · rename_i fr E n cs
      split at e
      · rename_i hj
        split at e
        · rename_i hE
          cases e
          obtain ⟨el, hu, hs⟩ := elt_spec hE
          simp only [VR] at hx
          obtain ⟨a', c, vs, rfl, q1, q2, q3, q4⟩ := hx
          rcases q4 with q4 | ⟨b', o, rfl, q5, q6, q7, q8⟩
          · omega
          refine ⟨.pointer (some ⟨b', o + j.toNat * E, none⟩), ?_, ?_⟩
          · simp [Instr.indexAt, asIntOf, run_underlying hu, hj, sizeOf_run hs, Addr.add_mid]
          · simp only [VR]
            exact ⟨b', o, vs, rfl, q5, q6, q7, q3, q8⟩
        · cases e
      · cases e
    · rename_i b' E off n
      split at e
      · rename_i hj
        split at e
        · rename_i hE
          cases e
          obtain ⟨el, hu, hs⟩ := elt_spec hE
          simp only [VR] at hx
          obtain ⟨c, rfl, q1, q2, q3⟩ := hx
          refine ⟨.pointer (some ⟨b', off + j.toNat * E, none⟩), ?_, ?_⟩
          · simp [Instr.indexAt, asIntOf, run_underlying hu, hj, sizeOf_run hs, Addr.add_mid]
          · simp only [VR]
        · cases e
      · cases e
    · split at e
      · rename_i b' off _ n el ha
        have hu := arr_spec ha
        split at e
        · rename_i E hs
          split at e
          · rename_i hj
            cases e
            simp only [VR] at hx; subst hx
            refine ⟨.pointer (some ⟨b', off + j.toNat * E, none⟩), ?_, by simp only [VR]⟩
            simp [Instr.indexAt, asIntOf, run_underlying hu, hj, sizeOf_run hs, Addr.add_mid, Instr.sureAddr]
          · cases e
        · cases e
      · cases e
    · split at e
      · rename_i fr cs off _ n el ha
        have hu := arr_spec ha
        split at e
        · rename_i E hs
          split at e
          · rename_i hj
            cases e
            simp only [VR] at hx
            obtain ⟨b', o, vs, rfl, q1, q2, q3, q4, q5⟩ := hx
            refine ⟨.pointer (some ⟨b', o + off + j.toNat * E, none⟩), ?_, ?_⟩
            · simp [Instr.indexAt, asIntOf, run_underlying hu, hj, sizeOf_run hs, Addr.add_mid, Instr.sureAddr]
            · simp only [VR]; exact ⟨b', o, vs, by rw [Nat.add_assoc], q1, q2, q3, q4, q5⟩
          · cases e
        · cases e
      · cases e
    · cases e
  · cases e
theorem ixv_sound {t : TypeId} {x i v : PV} {a b : Value} (hx : VR w h N x a) (hi : VR w h N i b) (e : ixv P t x i = some v) : ∃ c, (Instr.index t a b).run P w = .ok c w ∧ VR w h N v c := by
  unfold ixv at e
  split at e
  · rename_i k j
    simp only [VR] at hi; subst hi
    split at e
    · rename_i cs
      split at e
      · rename_i n el ha
        have hu := arr_spec ha
        split at e
        · rename_i g E hg hs
          split at e
          · rename_i hj
            simp only [VR] at hx
            obtain ⟨vs, rfl, hc⟩ := hx
            obtain ⟨c, q1, q2⟩ := part_sound hg hs hc e
            exact ⟨c, by simp [Instr.index, asIntOf, run_underlying hu, hj, sizeOf_run hs, q1], q2⟩
          · cases e
        · cases e
      · cases e
    · rename_i s
      split at e
      · rename_i hu
        split at e
        · rename_i hj
          simp only [VR] at hx; subst hx
          cases hb : s[j.toNat]? with
          | none => simp [hb] at e
          | some c =>
            simp only [hb, Option.map_some, Option.some.injEq] at e
            subst e
            exact ⟨_, by simp [Instr.index, asIntOf, run_underlying hu, hj, hb]; rfl, by simp only [VR]⟩
        · cases e
      · cases e
    · cases e
  · cases e
end
end Go.Pm

/-
  An abstract machine over pure values, part E: cuts, what is built, lengths.
  Conditions: none.
-/
namespace Go.Pm
set_option linter.unusedVariables false
set_option linter.unusedSimpArgs false
section
variable {P : Program} {w : World} {h : Heap} {N : Nat}

/-- A part of a cut that may be absent. -/
def OR (w : World) (h : Heap) (N : Nat) : Option PV → Option Value → Prop
  | none, none => True
  | some c, some v => VR w h N c v
  | _, _ => False

theorem cutB_sound {n c : Nat} {isS : Bool} {lo hi : Option PV} {l k : Option Value} {p : Nat × Nat} (hl : OR w h N lo l) (hk : OR w h N hi k) (hc : n ≤ c) (e : cutB n lo hi = some p) :
    (Instr.sliceBounds isS n c l k none).run P w = .ok (p.1, p.2, c) w ∧ p.1 ≤ p.2 ∧ p.2 ≤ n := by
  unfold cutB at e
  split at e
  · cases e
    cases l <;> cases k <;> simp only [OR] at hl hk
    exact ⟨by simp [Instr.sliceBounds], by simp, by simp⟩
  · rename_i kk i
    cases l <;> cases k <;> simp only [OR, VR] at hl hk
    subst hl
    split at e
    · cases e
      rename_i q
      exact ⟨by simp [Instr.sliceBounds, Instr.sliceBound, asIntOf, q], by simp; omega, by simp⟩
    · cases e
  · rename_i kk i
    cases l <;> cases k <;> simp only [OR, VR] at hl hk
    subst hk
    split at e
    · cases e
      rename_i q
      have q2 : i ≤ (c : Int) := by omega
      exact ⟨by simp [Instr.sliceBounds, Instr.sliceBound, asIntOf, q, q2], by simp, by simp; omega⟩
    · cases e
  · rename_i k1 i k2 j
    cases l <;> cases k <;> simp only [OR, VR] at hl hk
    subst hl hk
    split at e
    · cases e
      rename_i q
      have q2 : j ≤ (c : Int) := by omega
      have q3 : 0 ≤ j := by omega
      have q4 : i ≤ j.toNat := by omega
      have q5 : ¬ (max j 0 < i) := by omega
      exact ⟨by simp [Instr.sliceBounds, Instr.sliceBound, asIntOf, q.1, q2, q3, q4, q5], by simp; omega, by simp; omega⟩
    · cases e
  · cases e

theorem slc_sound {t : TypeId} {x v : PV} {lo hi : Option PV} {a : Value} {l k : Option Value} (hx : VR w h N x a) (hl : OR w h N lo l) (hk : OR w h N hi k) (e : slc P t x lo hi = some v) :
    ∃ c, (Instr.sliceAt t a l k none).run P w = .ok c w ∧ VR w h N v c := by
  unfold slc at e
  split at e
  · -- a string
    rename_i s
    split at e
    · rename_i hu
      simp only [VR] at hx; subst hx
      cases hp : cutB s.size lo hi with
      | none => simp [hp] at e
      | some p =>
        simp only [hp, Option.map_some, Option.some.injEq] at e
        subst e
        obtain ⟨q1, q2, q3⟩ := cutB_sound (P := P) (isS := false) hl hk (Nat.le_refl _) hp
        exact ⟨_, by simp [Instr.sliceAt, Instr.slice, run_underlying hu, q1]; rfl, by simp only [VR]⟩
    · cases e
  · -- nil
    split at e
    · rename_i hu
      simp only [VR] at hx; subst hx
      cases hp : cutB 0 lo hi with
      | none => simp [hp] at e
      | some p =>
        simp only [hp, Option.map_some, Option.some.injEq] at e
        subst e
        obtain ⟨q1, q2, q3⟩ := cutB_sound (P := P) (isS := true) hl hk (Nat.le_refl _) hp
        obtain ⟨E, hE⟩ := Option.isSome_iff_exists.1 hu
        obtain ⟨el, hd, hs⟩ := elt_spec hE
        refine ⟨.slice none 0 0, ?_, by simp only [VR]⟩
        have hp2 : p.2 = 0 := by omega
        have hp1 : p.1 = 0 := by omega
        simp [Instr.sliceAt, Instr.slice, run_underlying hd, q1, sizeOf_run hs, hp1, hp2]
    · cases e
  · -- a list
    rename_i fr E n cs
    split at e
    · rename_i hE
      obtain ⟨el, hu, hs⟩ := elt_spec hE
      simp only [VR] at hx
      obtain ⟨a', c, vs, rfl, r1, r2, r3, r4⟩ := hx
      cases hp : cutB n lo hi with
      | none => simp [hp] at e
      | some p =>
        simp only [hp, Option.map_some, Option.some.injEq] at e
        subst e
        obtain ⟨q1, q2, q3⟩ := cutB_sound (P := P) (isS := true) hl hk r1 hp
        refine ⟨.slice (if c = p.1 then a' else a'.map (·.add (p.1 * E))) (p.2 - p.1) (c - p.1), by simp [Instr.sliceAt, Instr.slice, run_underlying hu, q1, sizeOf_run hs], ?_⟩
        simp only [VR]
        refine ⟨_, _, (vs.drop (p.1 * E)).take ((p.2 - p.1) * E), rfl, by omega, ?_, (r3.drop _).take _, ?_⟩
        · simp only [List.length_take, List.length_drop, r2]
          have : p.1 * E + (p.2 - p.1) * E ≤ n * E := by rw [← Nat.add_mul]; exact Nat.mul_le_mul_right _ (by omega)
          omega
        · by_cases hz : p.2 - p.1 = 0
          · exact .inl hz
          · rcases r4 with r4 | ⟨b, o, rfl, r5, r6, r7, r8⟩
            · omega
            · refine .inr ⟨b, o + p.1 * E, ?_, r5, r6, r7, ?_⟩
              · rw [if_neg (by omega)]; simp [Addr.add_mid]
              · intro i v hi
                rw [List.getElem?_take] at hi
                split at hi
                · rw [List.getElem?_drop] at hi
                  have := r8 _ _ hi
                  rwa [← Nat.add_assoc] at this
                · cases hi
    · cases e
  · -- a live block
    rename_i b E off n
    split at e
    · rename_i hE
      obtain ⟨el, hu, hs⟩ := elt_spec hE
      simp only [VR] at hx
      obtain ⟨c, rfl, r1, r2, r3⟩ := hx
      cases hp : cutB n lo hi with
      | none => simp [hp] at e
      | some p =>
        simp only [hp, Option.bind_some] at e
        obtain ⟨q1, q2, q3⟩ := cutB_sound (P := P) (isS := true) hl hk r1 hp
        have hrun : (Instr.sliceAt t (.slice (some ⟨b, off, none⟩) n c) l k none).run P w = .ok (.slice (if c = p.1 then some ⟨b, off, none⟩ else some ⟨b, off + p.1 * E, none⟩) (p.2 - p.1) (c - p.1)) w := by
          simp [Instr.sliceAt, Instr.slice, run_underlying hu, q1, sizeOf_run hs, Addr.add_mid]
        obtain ⟨cells, t', fz, s1, s2⟩ := r3
        refine ⟨_, hrun, ?_⟩
        by_cases h0 : p.1 = 0
        · simp only [h0, if_true, Option.some.injEq] at e
          subst e
          simp only [VR, h0, Nat.sub_zero, Nat.zero_mul, Nat.add_zero, ite_self]
          exact ⟨c, rfl, by omega, r2, cells, t', fz, s1, s2⟩
        · simp only [h0, if_false] at e
          by_cases h1 : p.1 < p.2
          · simp only [h1, if_true, Option.some.injEq] at e
            subst e
            simp only [VR]
            rw [if_neg (by omega)]
            refine ⟨c - p.1, rfl, by omega, by omega, cells, t', fz, s1, ?_⟩
            rw [s2, Nat.add_assoc, ← Nat.add_mul]
            congr 2
            omega
          · simp only [h1, if_false, Option.some.injEq] at e
            subst e
            simp only [VR]
            have : p.2 - p.1 = 0 := by omega
            rw [this]
            exact ⟨_, c - p.1, [], rfl, by omega, by simp, by simp [CR], .inl trivial⟩
    · cases e
  · cases e

/-! ### What is built -/
theorem arr_wr {cells : List PV} {arr : Array Value} {off : Nat} {vs : List PV} {us : Array Value} (hc : CR w h N cells arr.toList) (hv : CR w h N vs us.toList) (hl : off + vs.length ≤ cells.length) :
    ∃ arr' : Array Value, us.zipIdx.foldl (fun cs (c, j) => cs.setIfInBounds (off + j) c) arr = arr' ∧ CR w h N (wr cells off vs) arr'.toList := by
  refine ⟨_, rfl, ?_⟩
  rw [← Array.foldl_toList, Array.toList_zipIdx]
  have key : ∀ (us : List Value) (vs : List PV) (k : Nat) (cells : List PV) (arr : Array Value), CR w h N cells arr.toList → CR w h N vs us → off + k + vs.length ≤ cells.length →
      CR w h N (wr cells (off + k) vs) ((us.zipIdx k).foldl (fun (cs : Array Value) (x : Value × Nat) => cs.setIfInBounds (off + x.2) x.1) arr).toList := by
    intro us
    induction us with
    | nil =>
      intro vs k cells arr hc hv hl
      cases vs with
      | nil => simpa [wr] using hc
      | cons v vs => simp [CR] at hv
    | cons u us ih =>
      intro vs k cells arr hc hv hl
      cases vs with
      | nil => simp [CR] at hv
      | cons v vs =>
        simp only [CR, List.cons.injEq] at hv
        obtain ⟨v', vs', ⟨rfl, rfl⟩, h0, h1, h2⟩ := hv
        simp only [List.length_cons] at hl
        have hset : CR w h N (cells.set (off + k) v) (arr.setIfInBounds (off + k) u).toList := by
          rw [Array.toList_setIfInBounds]; exact hc.set _ h0 h1
        have := ih vs (k + 1) _ _ hset h2 (by simp; omega)
        simp only [List.zipIdx_cons, List.foldl_cons]
        have e : wr cells (off + k) (v :: vs) = wr (cells.set (off + k) v) (off + (k + 1)) vs := by
          apply List.ext_getElem?
          intro i
          simp only [wr, List.append_assoc, List.getElem?_append, List.length_take, List.length_set, List.length_cons, List.getElem?_take, List.getElem?_drop, List.getElem?_set, List.getElem?_cons]
          repeat' split
          all_goals first | omega | (congr 1; omega) | simp_all | skip
          all_goals (congr 1; omega)
        rw [e]
        exact this
  have := key us.toList vs 0 cells arr hc hv (by omega)
  simpa using this

inductive PartsR (w : World) (h : Heap) (N : Nat) : List (Nat × PV) → List (Nat × Value) → Prop
  | nil : PartsR w h N [] []
  | cons {i : Nat} {c : PV} {v : Value} {ps : List (Nat × PV)} {qs : List (Nat × Value)} (hc : VR w h N c v) (ht : PartsR w h N ps qs) : PartsR w h N ((i, c) :: ps) ((i, v) :: qs)

theorem pfill_sound {place : Nat → Option (Nat × Nat)} : ∀ (ps : List (Nat × PV)) (qs : List (Nat × Value)) (cells : List PV) (arr : Array Value) (r : List PV), PartsR w h N ps qs → CR w h N cells arr.toList →
    pfill place cells ps = some r → ∃ arr', Instr.fill place arr qs = some arr' ∧ CR w h N r arr'.toList
  | _, _, cells, arr, r, .nil, hc, e => by simp only [pfill, Option.some.injEq] at e; subst e; exact ⟨arr, rfl, hc⟩
  | _, _, cells, arr, r, .cons (i := i) (c := c) (v := v) (ps := ps) (qs := qs) hv ht, hc, e => by
    simp only [pfill] at e
    split at e
    · rename_i off size vs hp hf
      split at e
      · rename_i hl
        have hcr := hv.flat_CR hf
        have hlen := hcr.length
        have hlc := hc.length
        obtain ⟨arr1, q1, q2⟩ := arr_wr hc hcr (by omega : off + vs.length ≤ cells.length)
        obtain ⟨arr2, q3, q4⟩ := pfill_sound ps qs _ arr1 r ht q2 e
        refine ⟨arr2, ?_, q4⟩
        simp only [Instr.fill, hp]
        have hsz : v.cells.size = size := by simp at hlen; omega
        have hsz2 : arr.size = cells.length := by simp at hlc; omega
        rw [if_neg (by simp [hsz]; omega)]
        rw [q1]
        exact q3
      · cases e
    · cases e

theorem zc_spec {t : TypeId} {z : List PV} (e : zc P t = some z) : ∃ i zv, P.info? t = some i ∧ i.zero = some zv ∧ CR w h N z zv.cells.toList := by
  unfold zc at e
  split at e
  · rename_i i hi
    cases hz : i.zero with
    | none => simp [hz] at e
    | some zv =>
      simp only [hz, Option.bind_some] at e
      exact ⟨i, zv, hi, hz, (VR.cval zv).flat_CR e⟩
  · cases e
theorem bld_sound {t : TypeId} {ps : List (Nat × PV)} {qs : Array (Nat × Value)} {v : PV} (hp : PartsR w h N ps qs.toList) (e : bld P t ps = some v) :
    ∃ c, (Instr.build t qs).run P w = .ok c w ∧ VR w h N v c := by
  unfold bld at e
  split at e
  · rename_i pl z hpl hz
    obtain ⟨it, zv, hi, hz2, hzc⟩ := zc_spec (w := w) (h := h) (N := N) hz
    cases hf : pfill pl z ps with
    | none => simp [hf] at e
    | some r =>
      simp only [hf, Option.map_some, Option.some.injEq] at e
      subst e
      obtain ⟨arr', q1, q2⟩ := pfill_sound ps qs.toList z zv.cells r hp hzc hf
      refine ⟨.agg arr', run_build w t qs arr' ?_, by simp only [VR]; exact ⟨arr', rfl, q2⟩⟩
      unfold plc at hpl
      unfold Program.built
      cases hu : P.underlying t with
      | none => simp [hu] at hpl
      | some d =>
        cases d <;> simp only [hu, reduceCtorEq] at hpl
        case array n el =>
          unfold tsz at hpl
          cases hie : P.info? el with
          | none => simp [hie] at hpl
          | some ie =>
            simp only [hie, Option.map_some, Option.some.injEq] at hpl
            subst hpl
            simp [hi, hz2, hie, q1]
        case struct fields =>
          split at hpl
          · rename_i l hl
            cases hpl
            simp [hi, hz2, hl, q1]
          · cases hpl
  · cases e

theorem len_sound {t ty : TypeId} {x v : PV} {a : Value} (hx : VR w h N x a) (ok : lenOk P t x = true) (e : lenv x = some v) : ∃ c, (Builtin.len_ #[t] ty #[a]).run P w = .ok c w ∧ VR w h N v c := by
  unfold lenOk at ok
  split at ok
  · rename_i hu
    simp only [VR] at hx; subst hx
    cases e
    exact ⟨_, by simp [Builtin.len_, run_underlying hu]; rfl, by simp only [VR, goInt]⟩
  · rename_i hu
    simp only [VR] at hx; subst hx
    cases e
    exact ⟨_, by simp [Builtin.len_, run_underlying hu]; rfl, by simp [VR, goInt]⟩
  · rename_i hu
    simp only [VR] at hx
    obtain ⟨a', c, vs, rfl, _⟩ := hx
    cases e
    exact ⟨_, by simp [Builtin.len_, run_underlying hu]; rfl, by simp only [VR, goInt]⟩
  · rename_i hu
    simp only [VR] at hx
    obtain ⟨c, rfl, _⟩ := hx
    cases e
    exact ⟨_, by simp [Builtin.len_, run_underlying hu]; rfl, by simp only [VR, goInt]⟩
  · cases ok
theorem cap_sound {t ty : TypeId} {x v : PV} {a : Value} (hx : VR w h N x a) (e : capv P t x = some v) : ∃ c, (Builtin.cap_ #[t] ty #[a]).run P w = .ok c w ∧ VR w h N v c := by
  unfold capv at e
  split at e
  · split at e
    · rename_i q
      cases e
      simp only [VR] at hx; subst hx
      have : ∃ e', P.underlying t = some (.slice e') := by
        unfold elt at q
        split at q
        · rename_i e' he; exact ⟨e', he⟩
        · cases q
      obtain ⟨e', he⟩ := this
      exact ⟨_, by simp [Builtin.cap_, run_underlying he]; rfl, by simp [VR, goInt]⟩
    · cases e
  · cases e
theorem min_sound {ts : Array TypeId} {ty : TypeId} {xs : List PV} {v : PV} {as : Array Value} (hx : TR w h N xs as.toList) (e : minv xs = some v) : ∃ c, (Builtin.min_ ts ty as).run P w = .ok c w ∧ VR w h N v c := by
  unfold minv at e
  split at e
  · simp only [TR, VR] at hx
    obtain ⟨_, _, h1, rfl, _, _, rfl, rfl, rfl⟩ := hx
    cases e
    exact ⟨_, by simp [Builtin.min_, h1, Builtin.min2]; rfl, by simp only [VR]⟩
  · cases e
theorem max_sound {ts : Array TypeId} {ty : TypeId} {xs : List PV} {v : PV} {as : Array Value} (hx : TR w h N xs as.toList) (e : maxv xs = some v) : ∃ c, (Builtin.max_ ts ty as).run P w = .ok c w ∧ VR w h N v c := by
  unfold maxv at e
  split at e
  · simp only [TR, VR] at hx
    obtain ⟨_, _, h1, rfl, _, _, rfl, rfl, rfl⟩ := hx
    cases e
    exact ⟨_, by simp [Builtin.max_, h1, Builtin.max2]; rfl, by simp only [VR]⟩
  · cases e
end
end Go.Pm

/-
  An abstract machine over pure values, part F: what makes memory, or writes it.
  Conditions: none.
-/
namespace Go.Pm
set_option linter.unusedVariables false
set_option linter.unusedSimpArgs false
open Go.RowKit

/-! ### New blocks -/
section
variable {P : Program} {w : World} {h : Heap} {N : Nat}

theorem new_frozen {cs : List PV} {arr : Array Value} {t : TypeId} (hw : WR w h 0) (hN : N ≤ w.heap.size) (hc : CR w h N cs arr.toList) :
    St w h (w.alloc (.cells arr t)) h ∧ WR (w.alloc (.cells arr t)) h 0 ∧ VR (w.alloc (.cells arr t)) h N (.fptr true cs 0) (.pointer (some ⟨w.heap.size, 0, none⟩)) ∧
      ∀ E n, cs.length = n * E → VR (w.alloc (.cells arr t)) h N (.list true E n cs) (.slice (some ⟨w.heap.size, 0, none⟩) n n) := by
  have st := St.alloc w h h (.cells arr t) fun _ _ => rfl
  have hf := hw.free (Nat.le_refl w.heap.size)
  have hcr := CR.step st.kp (Nat.le_refl N) cs hc
  refine ⟨st, hw.alloc _, ?_, fun E n hl => ?_⟩
  · simp only [VR]
    exact ⟨w.heap.size, 0, arr.toList, rfl, by simp, hf, fun _ => hN, hcr, Mem.new w arr t⟩
  · simp only [VR]
    exact ⟨_, n, arr.toList, rfl, Nat.le_refl _, hl, hcr, .inr ⟨w.heap.size, 0, rfl, by simp, hf, fun _ => hN, Mem.new w arr t⟩⟩
theorem new_live {cs : List PV} {arr : Array Value} {t : TypeId} (hw : WR w h 0) (hl : cs.length ≤ arr.size) (hc : CR w h 0 cs (arr.toList.take cs.length)) :
    St w h (w.alloc (.cells arr t)) (h.set w.heap.size cs) ∧ WR (w.alloc (.cells arr t)) (h.set w.heap.size cs) 0 ∧ h.f w.heap.size = none ∧
      VR (w.alloc (.cells arr t)) (h.set w.heap.size cs) N (.ptr w.heap.size 0) (.pointer (some ⟨w.heap.size, 0, none⟩)) ∧
      ∀ E n c, arr.size = c * E → n ≤ c → c ≤ maxLen → VR (w.alloc (.cells arr t)) (h.set w.heap.size cs) N (.buf w.heap.size E 0 n) (.slice (some ⟨w.heap.size, 0, none⟩) n c) := by
  refine ⟨St.alloc w h _ _ fun b hb => h.set_ne cs hb, hw.alloc_live arr t cs hl hc, hw.free (Nat.le_refl _), by simp only [VR], fun E n c e1 e2 e3 => ?_⟩
  simp only [VR]
  exact ⟨c, rfl, e2, e3, arr, t, (0, 0), heap_new w _, by rw [e1]; omega⟩

theorem CR.zero {cs : List PV} {vs : List Value} (hc : CR w h N cs vs) : CR w h 0 cs vs :=
  CR.step ⟨Nat.le_refl _, fun _ _ _ => rfl, fun _ _ e => e, fun _ c _ fz e => ⟨c, fz, e, rfl⟩⟩ (Nat.zero_le _) cs hc
theorem VR.zero {c : PV} {v : Value} (hc : VR w h N c v) : VR w h 0 c v :=
  VR.step ⟨Nat.le_refl _, fun _ _ _ => rfl, fun _ _ e => e, fun _ c _ fz e => ⟨c, fz, e, rfl⟩⟩ (Nat.zero_le _) c hc
theorem TR.zero {cs : List PV} {vs : List Value} (hc : TR w h N cs vs) : TR w h 0 cs vs :=
  TR.step ⟨Nat.le_refl _, fun _ _ _ => rfl, fun _ _ e => e, fun _ c _ fz e => ⟨c, fz, e, rfl⟩⟩ (Nat.zero_le _) cs hc

/-! ### Rows of zeros -/
def rep (n : Nat) (z : List PV) : List PV := (List.replicate n z).flatten
theorem rep_one (n : Nat) (z : PV) : rep n [z] = List.replicate n z := by
  induction n with
  | zero => rfl
  | succ n ih => simp only [rep, List.replicate_succ, List.flatten_cons] at ih ⊢; simp [ih]
theorem rep_length (n : Nat) (z : List PV) : (rep n z).length = n * z.length := by simp [rep]
theorem flatten_get (l : List Value) : ∀ (n i : Nat), (List.replicate n l).flatten[i]? = if i < n * l.length then l[i % l.length]? else none
  | 0, i => by simp
  | n + 1, i => by
    rw [List.replicate_succ, List.flatten_cons, List.getElem?_append]
    by_cases h1 : i < l.length
    · rw [if_pos h1, if_pos (by rw [Nat.add_mul]; omega), Nat.mod_eq_of_lt h1]
    · rw [if_neg h1, flatten_get l n]
      have h2 : i % l.length = (i - l.length) % l.length := by rw [Nat.mod_eq_sub_mod (by omega)]
      rw [h2, Nat.add_mul]
      by_cases h3 : i - l.length < n * l.length
      · rw [if_pos h3, if_pos (by omega)]
      · rw [if_neg h3, if_neg (by omega)]
theorem made_list (z : Array Value) (n : Nat) : (madeCells z (n * z.size)).toList = (List.replicate n z.toList).flatten := by
  apply List.ext_getElem?
  intro i
  rw [flatten_get]
  simp only [madeCells, Array.length_toList]
  by_cases hi : i < n * z.size
  · rw [if_pos hi]
    have hz : 0 < z.size := by
      rcases Nat.eq_zero_or_pos z.size with h | h
      · rw [h] at hi; omega
      · exact h
    have hm : i % z.size < z.size := Nat.mod_lt _ hz
    simp [hi, hm]
  · rw [if_neg hi]
    simp [hi]
theorem CR.flatten {z : List PV} {zv : List Value} (hc : CR w h N z zv) : ∀ n, CR w h N (rep n z) (List.replicate n zv).flatten
  | 0 => by simp [rep, CR]
  | n + 1 => by
    have := CR.flatten hc n
    simp only [rep, List.replicate_succ, List.flatten_cons] at this ⊢
    exact hc.append this
end

/-! ### Stores -/
def stp (P : Program) (h : Heap) (t : TypeId) (p x : PV) : Option Heap :=
  match p, tsz P t, flat x with
  | .ptr b off, some n, some new => match h.f b with
    | some cs => if new.length = n ∧ off + n ≤ cs.length then some (h.set b (wr cs off new)) else none
    | none => none
  | _, _, _ => none

section
variable {P : Program} {w : World} {h : Heap} {N : Nat}

theorem st_sound {t : TypeId} {p x : PV} {a v : Value} {h' : Heap} (hp : VR w h N p a) (hx : VR w h N x v) (hw : WR w h 0) (e : stp P h t p x = some h') :
    ∃ w', (Instr.storeAt t a v).run P w = .ok () w' ∧ St w h w' h' ∧ WR w' h' 0 := by
  unfold stp at e
  split at e
  · rename_i b off n new hn hf
    split at e
    · rename_i cs hb
      split at e
      · rename_i hl
        cases e
        simp only [VR] at hp
        subst hp
        have hcr := (hx.flat_CR hf).zero
        have hlen := hcr.length
        obtain ⟨cells, t', hcell, hcl, hcc⟩ := hw b cs hb
        have hl2 : v.cells.toList.length = n := by omega
        have hrun := run_storeCells_cells (P := P) b off v.cells.toList 0 w
          (fun j hj => by simp [World.cell?, hcell]; omega) (fun j hj => by simp [World.frozen?, hcell]) (fun u hu => hcr.one_of u hu)
        simp only [Nat.add_zero] at hrun
        refine ⟨w.setCells b off v.cells.toList, ?_, ?_⟩
        · simp only [Instr.storeAt, Instr.sureAddr, storeVar, Sem.run_bind, Sem.run_pure, Result.andThen_ok, sizeOf_run hn]
          rw [if_neg (by simp at hl2; omega)]
          exact hrun
        · exact store_live hw hb hcell (by omega) hcr hcl hcc (by omega) rfl
      · cases e
    · cases e
  · cases e

/-- What lives may be told of less far. -/
theorem WR.shrink {b : Nat} {cs cs' : List PV} {h' : Heap} (hw : WR w h' 0) (hb : h'.f b = some cs) (hs : ∃ k, cs' = cs.take k) : WR w (h'.set b cs') 0 ∧ St w h' w (h'.set b cs') := by
  obtain ⟨k, rfl⟩ := hs
  have st : St w h' w (h'.set b (cs.take k)) := ⟨rfl, rfl, rfl, Nat.le_refl _, fun _ _ _ => rfl, fun x hx hd => by
    rw [h'.set_ne _ fun ee => by rw [ee, hb] at hd; cases hd]; exact hd, fun _ c _ fz e => ⟨c, fz, e, rfl⟩⟩
  refine ⟨hw.step st.kp (Nat.le_refl _) fun x ds hx => ?_, st⟩
  by_cases ee : x = b
  · subst ee
    rw [h'.set_same] at hx
    cases hx
    obtain ⟨cells, t, h1, h2, h3⟩ := hw x cs hb
    refine .inr ⟨cells, t, h1, by simp; omega, ?_⟩
    have := CR.step st.kp (Nat.le_refl _) _ (h3.take k)
    rw [List.take_take] at this
    simpa [List.length_take] using this
  · rw [h'.set_ne _ ee] at hx
    exact .inl ⟨hx, rfl⟩

/-! ### Append -/
def srcv (P : Program) (h : Heap) (E : Nat) (tx : TypeId) (x : PV) : Option (Nat × List PV) :=
  match x with
  | .nils => if (elt P tx).isSome then some (0, []) else none
  | .list _ E' m cs => if E' = E ∧ (elt P tx).isSome then some (m, cs) else none
  | .buf b E' off m => match h.f b with
    | some cs => if E' = E ∧ (elt P tx).isSome ∧ off + m * E ≤ cs.length then some (m, (cs.drop off).take (m * E)) else none
    | none => none
  | _ => none

theorem Mem.range {b o : Nat} {vs : List Value} (m : Mem w b o vs) (j : Nat) (u : Value) (hu : vs[j]? = some u) : w.cell? ((⟨b, o, none⟩ : Addr).add j) = some u := by
  rw [Addr.add_mid]; exact m j u hu
theorem src_sound {E m : Nat} {tx : TypeId} {x : PV} {a : Value} {cs : List PV} (hx : VR w h N x a) (hw : WR w h 0) (e : srcv P h E tx x = some (m, cs)) :
    ∃ vs, Src P E tx a m vs w ∧ CR w h 0 cs vs := by
  have elt' : (elt P tx).isSome = true → ∃ e', P.underlying tx = some (.slice e') := fun q => by
    unfold elt at q
    split at q
    · rename_i e' he; exact ⟨e', he⟩
    · cases q
  unfold srcv at e
  split at e
  · split at e
    · rename_i q
      cases e
      simp only [VR] at hx; subst hx
      exact ⟨[], ⟨.inl (elt' q), fun _ => rfl, rfl, rfl, by simp, fun u hu => by cases hu⟩, by simp [CR]⟩
    · cases e
  · rename_i fr E' m' cs'
    split at e
    · rename_i q
      cases e
      obtain ⟨rfl, q⟩ := q
      simp only [VR] at hx
      obtain ⟨ad, c, vs, rfl, r1, r2, r3, r4⟩ := hx
      have hl := r3.length
      rcases r4 with r4 | ⟨b, o, rfl, r5, r6, r7, r8⟩
      · subst r4
        have : vs = [] := by simp at r2; subst r2; simpa [CR] using r3
        subst this
        refine ⟨[], ⟨.inl (elt' q), fun _ => rfl, ?_, ?_, by simp, fun u hu => by cases hu⟩, r3.zero⟩
        · cases ad <;> simp [Builtin.firstCells, loadCells, loadCellsFrom]
        · cases ad <;> simp [Builtin.firstCells, loadCells, loadCellsFrom]
      · obtain ⟨e', he⟩ := elt' q
        exact ⟨vs, Src.ofSlice (w := w) he _ _ c vs (by omega) (r8.range) (fun u hu => r3.one_of u hu), r3.zero⟩
    · cases e
  · rename_i b E' off m'
    split at e
    · rename_i cs' hb
      split at e
      · rename_i q
        cases e
        obtain ⟨rfl, q, q2⟩ := q
        simp only [VR] at hx
        obtain ⟨c, rfl, r1, r2, r3⟩ := hx
        obtain ⟨cells, t', hcell, hcl, hcc⟩ := hw b cs' hb
        obtain ⟨e', he⟩ := elt' q
        have hc2 := (hcc.drop off).take (m * E')
        have hl := hc2.length
        have hl2 : ((cs'.drop off).take (m * E')).length = m * E' := by simp; omega
        refine ⟨_, Src.ofSlice (w := w) he _ _ c _ (by omega) (fun j u hu => ?_) (fun u hu => hc2.one_of u hu), hc2⟩
        rw [Addr.add_mid]
        rw [List.getElem?_take] at hu
        split at hu
        · rw [List.getElem?_drop] at hu
          have := Mem.live hcell cs'.length (off + j) u hu
          simpa using this
        · cases hu
      · cases e
    · cases e
  · cases e

theorem zeroCells_size {z : List PV} {zv : Value} {E : Nat} (hc : CR w h N z zv.cells.toList) (hE : z.length = E) (n : Nat) : (Builtin.zeroCells zv.cells n).size = n * E := by
  have := hc.length
  rw [size_zeroCells]
  congr 1
  simp at this
  omega

/-- A row that is nil or lives, with what is put behind it. -/
theorem app_grow {t tx ty el : TypeId} {i : TypeInfo} {zv : Value} {z : List PV} {E n m c : Nat} {base : Option Addr} {a : Value} {old new : List PV} {ovs vs : List Value} {h0 : Heap}
    (ht : P.underlying t = some (.slice el)) (hi : P.info? el = some i) (hz : i.zero = some zv) (hsz : i.size = E) (hzc : CR w h 0 z zv.cells.toList) (hzl : z.length = E)
    (hw : WR w h 0) (hsrc : Src P E tx a m vs w) (hnew : CR w h 0 new vs) (hold : CR w h 0 old ovs) (hol : old.length = n * E)
    (hfirst : (Builtin.firstCells i.size n (.slice base n c)).run P w.drew = .ok ovs.toArray w.drew)
    (hg : c < n + m) (hb : (n + m) * i.bytes ≤ 140737488355328) (h63 : n + m ≤ maxLen) (hkill : ∀ b cs, h0.f b = some cs → h.f b = some cs) :
    ∃ v w', (Builtin.append_ #[t, tx] ty #[.slice base n c, a]).run P w = .ok v w' ∧ St w h w' (h0.set w.heap.size (old ++ new)) ∧ WR w' (h0.set w.heap.size (old ++ new)) 0 ∧
      VR w' (h0.set w.heap.size (old ++ new)) N (.buf w.heap.size E 0 (n + m)) v ∧ h0.f w.heap.size = none := by
  subst hsz
  have hsmall : ((n + m : Nat) : Int) ≤ 9223372036854775807 := by simp only [maxLen] at h63; omega
  have hr := run_append_grow_src (P := P) w t tx ty el i zv ht hi hz base n c ovs hfirst a m vs hsrc hg hsmall (growslice_fits hg hb)
  have hl1 := hnew.length
  have hl2 := hold.length
  have hvl := hsrc.newsLen
  have hge := grownCap_ge w (n + m) c el
  have hcm := grownCap_le_maxLen w (n + m) c el h63
  -- the world behind the draw, with fewer that live
  have hwd : WR w.drew h0 0 := (hw.drew).kill hkill
  have s1 : St w h w.drew h0 := (St.drew w h).trans (St.kill w.drew h h0 hkill)
  have hcat : CR w.drew h0 0 (old ++ new) (ovs ++ vs) := CR.step s1.kp (Nat.le_refl _) _ (hold.append hnew)
  have hcl : (old ++ new).length = (n + m) * i.size := by simp [hol, Nat.add_mul]; omega
  have hzs := zeroCells_size hzc hzl (grownCap w (n + m) c el - (n + m))
  have hasz : (((ovs ++ vs).toArray ++ Builtin.zeroCells zv.cells (grownCap w (n + m) c el - (n + m)))).size = grownCap w (n + m) c el * i.size := by
    rw [Array.size_append, hzs, ← Nat.add_sub_cancel' hge, Nat.add_mul]
    simp only [Nat.add_sub_cancel_left]
    have : (ovs ++ vs).toArray.size = (old ++ new).length := by simp; omega
    rw [this, hcl, ← Nat.add_mul]
  obtain ⟨n1, n2, n3, n4, n5⟩ := new_live (w := w.drew) (h := h0) (N := N) (cs := old ++ new) (arr := (ovs ++ vs).toArray ++ Builtin.zeroCells zv.cells (grownCap w (n + m) c el - (n + m))) (t := el) hwd
    (by rw [hasz, hcl]; exact Nat.mul_le_mul_right _ hge) (by
      have : ((ovs ++ vs).toArray ++ Builtin.zeroCells zv.cells (grownCap w (n + m) c el - (n + m))).toList.take (old ++ new).length = ovs ++ vs := by
        simp only [Array.toList_append, List.toList_toArray]
        rw [hcat.length, List.take_left]
      rw [this]; exact hcat)
  exact ⟨_, _, hr, s1.trans n1, n2, n5 i.size (n + m) _ hasz hge hcm, n3⟩

theorem app_room {t tx ty el : TypeId} {i : TypeInfo} {E n m c b : Nat} {a : Value} {cs new : List PV} {vs : List Value}
    (ht : P.underlying t = some (.slice el)) (hi : P.info? el = some i) (hsz : i.size = E)
    (hw : WR w h 0) (hsrc : Src P E tx a m vs w) (hnew : CR w h 0 new vs) (hb : h.f b = some cs) (hn : n * E ≤ cs.length) (hroom : Room w b (0 + c * E)) (hg : n + m ≤ c) (hcm : c ≤ maxLen) :
    ∃ w', (Builtin.append_ #[t, tx] ty #[.slice (some ⟨b, 0, none⟩) n c, a]).run P w = .ok (.slice (some ⟨b, 0, none⟩) (n + m) c) w' ∧ St w h w' (h.set b (cs.take (n * E) ++ new)) ∧ WR w' (h.set b (cs.take (n * E) ++ new)) 0 ∧
      VR w' (h.set b (cs.take (n * E) ++ new)) N (.buf b E 0 (n + m)) (.slice (some ⟨b, 0, none⟩) (n + m) c) := by
  subst hsz
  obtain ⟨cells, t', hcell, hcl, hcc⟩ := hw b cs hb
  obtain ⟨cells2, t2, fz2, hcell2, hsz2⟩ := hroom
  rw [hcell] at hcell2
  cases hcell2
  have hl1 := hnew.length
  have hvl := hsrc.newsLen
  have hle : (n + m) * i.size ≤ c * i.size := Nat.mul_le_mul_right _ hg
  rw [Nat.add_mul] at hle
  have hr := run_append_room_src (P := P) w t tx ty el i ht hi b 0 n c a m vs hsrc hg
    (fun j hj => by simp [World.cell?, hcell]; omega) (fun j hj => by simp [World.frozen?, hcell])
  rw [Nat.zero_add] at hr
  obtain ⟨s1, s2⟩ := store_live (cs' := cs.take (n * i.size) ++ new ++ cs.drop (n * i.size + new.length)) hw hb hcell (by omega) hnew hcl hcc hn rfl
  have e1 : cs.take (n * i.size) ++ new = (cs.take (n * i.size) ++ new ++ cs.drop (n * i.size + new.length)).take (n * i.size + new.length) := by
    have hlen : (cs.take (n * i.size) ++ new).length = n * i.size + new.length := by rw [List.length_append, List.length_take]; omega
    exact (List.take_left' hlen).symm
  obtain ⟨s3, s4⟩ := WR.shrink s2 (h.set_same b _) ⟨_, e1⟩
  rw [h.set_set] at s3 s4
  refine ⟨_, hr, s1.trans s4, s3, ?_⟩
  simp only [VR]
  obtain ⟨c', q1, q2, q3⟩ := setCells_block b t' (0, 0) vs (n * i.size) w cells hcell (by omega)
  exact ⟨c, rfl, hg, hcm, c', t', (0, 0), q1, by rw [q2, hsz2]⟩
/-! ### Copy -/
/-- What the first `k` elements of a source are. -/
theorem src_first {E m k : Nat} {tx : TypeId} {x : PV} {a : Value} {cs : List PV} (hx : VR w h N x a) (hw : WR w h 0) (e : srcv P h E tx x = some (m, cs)) (hk : k ≤ m) :
    ∃ vs, (Builtin.firstCells E k a).run P w = .ok vs.toArray w ∧ (Builtin.lenOf a).run P w = .ok m w ∧ CR w h 0 (cs.take (k * E)) vs ∧ vs.length = k * E ∧ ∀ u ∈ vs, u.oneCell' = true := by
  have hkE : k * E ≤ m * E := Nat.mul_le_mul_right _ hk
  unfold srcv at e
  split at e
  · split at e
    · cases e
      simp only [VR] at hx; subst hx
      have : k = 0 := by omega
      subst this
      exact ⟨[], by simp [Builtin.firstCells], rfl, by simp [CR], by simp, fun u hu => by cases hu⟩
    · cases e
  · rename_i fr E' m' cs'
    split at e
    · rename_i q
      cases e
      obtain ⟨rfl, q⟩ := q
      simp only [VR] at hx
      obtain ⟨ad, c, vs, rfl, r1, r2, r3, r4⟩ := hx
      have hl := r3.length
      rcases r4 with r4 | ⟨b, o, rfl, r5, r6, r7, r8⟩
      · subst r4
        have : k = 0 := by omega
        subst this
        refine ⟨[], ?_, rfl, by simp [CR], by simp, fun u hu => by cases hu⟩
        cases ad <;> simp [Builtin.firstCells, loadCells, loadCellsFrom]
      · have c2 := r3.take (k * E')
        have hl2 := c2.length
        have hl3 : (vs.take (k * E')).length = k * E' := by rw [List.length_take]; omega
        refine ⟨vs.take (k * E'), ?_, rfl, c2.zero, hl3, fun u hu => c2.one_of u hu⟩
        exact run_firstCells_some (P := P) w E' k ⟨b, o, none⟩ m c _ hl3 fun j u hu => by
          rw [List.getElem?_take] at hu
          split at hu
          · exact r8.range j u hu
          · cases hu
    · cases e
  · rename_i b E' off m'
    split at e
    · rename_i cs' hb
      split at e
      · rename_i q
        cases e
        obtain ⟨rfl, q, q2⟩ := q
        simp only [VR] at hx
        obtain ⟨c, rfl, r1, r2, r3⟩ := hx
        obtain ⟨cells, t', hcell, hcl, hcc⟩ := hw b cs' hb
        have hc2 := ((hcc.drop off).take (m * E')).take (k * E')
        have hl := hc2.length
        have hl2 : (((cs'.drop off).take (m * E')).take (k * E')).length = k * E' := by simp only [List.length_take, List.length_drop]; omega
        rw [hl2] at hl
        refine ⟨_, ?_, rfl, hc2, hl.symm, fun u hu => hc2.one_of u hu⟩
        exact run_firstCells_some (P := P) w E' k ⟨b, off, none⟩ m c _ hl.symm fun j u hu => by
          rw [Addr.add_mid]
          rw [List.getElem?_take] at hu
          split at hu
          · rw [List.getElem?_take] at hu
            split at hu
            · rw [List.getElem?_drop] at hu
              have := Mem.live hcell cs'.length (off + j) u hu
              simpa using this
            · cases hu
          · cases hu
      · cases e
    · cases e
  · cases e
/-- Elements copied into a live row. -/
theorem copy_into {t tx ty el : TypeId} {i : TypeInfo} {E n m c b off : Nat} {x : PV} {a : Value} {cs new : List PV}
    (ht : P.underlying t = some (.slice el)) (hi : P.info? el = some i) (hsz : i.size = E) (hx : VR w h N x a) (hw : WR w h 0) (e : srcv P h E tx x = some (m, new)) (hb : h.f b = some cs) (hn : off + n * E ≤ cs.length) (hnew : new.length = m * E) :
    ∃ w', (Builtin.copy_ #[t, tx] ty #[.slice (some ⟨b, off, none⟩) n c, a]).run P w = .ok (goInt ((min m n : Nat) : Int)) w' ∧ St w h w' (h.set b (wr cs off (new.take (min m n * E)))) ∧ WR w' (h.set b (wr cs off (new.take (min m n * E)))) 0 := by
  subst hsz
  obtain ⟨vs, s1, s2, s3, s4, s5⟩ := src_first (k := min m n) hx hw e (Nat.min_le_left _ _)
  obtain ⟨cells, t', hcell, hcl, hcc⟩ := hw b cs hb
  have hle : min m n * i.size ≤ n * i.size := Nat.mul_le_mul_right _ (Nat.min_le_right _ _)
  have hst := run_storeCells_cells (P := P) b off vs 0 w (fun j hj => by simp [World.cell?, hcell]; omega) (fun j hj => by simp [World.frozen?, hcell]) s5
  simp only [Nat.add_zero] at hst
  have hl := s3.length
  obtain ⟨r1, r2⟩ := store_live (cs' := wr cs off (new.take (min m n * i.size))) hw hb hcell (by omega) s3 hcl hcc (by omega) rfl
  refine ⟨_, ?_, r1, r2⟩
  have e2 : Nat.min m n = min m n := rfl
  simp [Builtin.copy_, run_underlying ht, sizeOf, typeInfo, hi, s1, s2, e2, hst]
/-- Nothing is copied into what has no place. -/
theorem copy_none {t tx ty el : TypeId} {i : TypeInfo} {m : Nat} {ad : Option Addr} {c : Nat} {x : PV} {a : Value} {new : List PV}
    (ht : P.underlying t = some (.slice el)) (hi : P.info? el = some i) (hx : VR w h N x a) (hw : WR w h 0) (e : srcv P h i.size tx x = some (m, new)) :
    (Builtin.copy_ #[t, tx] ty #[.slice ad 0 c, a]).run P w = .ok (goInt 0) w := by
  obtain ⟨vs, s1, s2, s3, s4, s5⟩ := src_first (k := 0) hx hw e (Nat.zero_le _)
  have : vs = [] := List.length_eq_zero_iff.1 (by omega)
  subst this
  cases ad <;> simp [Builtin.copy_, run_underlying ht, sizeOf, typeInfo, hi, s1, s2, storeCells]
end
end Go.Pm

/-
  An abstract machine over pure values, part G: one operation, and calls.
  Conditions: none.
-/
namespace Go.Pm
set_option linter.unusedVariables false
set_option linter.unusedSimpArgs false
open Go.RowKit

/-- A call of `f` comes back with what `K` tells of, whatever the memory is that the arguments are read in. -/
def CanP (P : Program) (f : FuncId) (args : List PV) (h : Heap) (K : PV → Heap → Prop) : Prop :=
  (∃ fn, P.funcs[f]? = some fn ∧ (fn.name == "runtime.NumGoroutine") = false ∧ fn.body.isNone = false) ∧
  ∀ (w : World) (cargs : Array Value), WR w h 0 → TR w h 0 args cargs.toList →
    Calls P f cargs w fun e w' => ∃ v c h', e = .returned c ∧ St w h w' h' ∧ WR w' h' 0 ∧ VR w' h' w.heap.size v c ∧ K v h'

theorem CanP.mono {P : Program} {f : FuncId} {args : List PV} {h : Heap} {K K' : PV → Heap → Prop} (c : CanP P f args h K) (hk : ∀ v h', K v h' → K' v h') : CanP P f args h K' :=
  ⟨c.1, fun w cargs hw ha => (c.2 w cargs hw ha).mono fun e w' ⟨v, x, h', q1, q2, q3, q4, q5⟩ => ⟨v, x, h', q1, q2, q3, q4, hk v h' q5⟩⟩

/-- What an operation that only computes yields. -/
def dv (P : Program) (o : Op) (σ : Nat → PV) : Option PV :=
  match o with
  | .move x | .assign x => some (ev σ x)
  | .pick c a b => match ev σ c with | .bool t => some (if t then ev σ a else ev σ b) | _ => none
  | .nilCheck x => match ev σ x with | .ptr b o => some (.ptr b o) | .fptr fr cs o => some (.fptr fr cs o) | _ => none
  | .binOp op t x y _ => bin P op t (ev σ x) (ev σ y)
  | .unOp op _ x => un op (ev σ x)
  | .convert s d x => cv P s d (ev σ x)
  | .fieldAddr t x f => fa P t (ev σ x) f
  | .field t x f => fd P t (ev σ x) f
  | .indexAddr t x i => ixa P t (ev σ x) (ev σ i)
  | .index t x i => ixv P t (ev σ x) (ev σ i)
  | .slice t x lo hi none => slc P t (ev σ x) (lo.map (ev σ)) (hi.map (ev σ))
  | .extract x i => match ev σ x with | .tup cs => cs[i]? | _ => none
  | .makeFunc (.func f) first caps => some (.fn f (first.toList.map (ev σ)) (caps.toList.map (ev σ)))
  | .build t ps => bld P t (ps.toList.map fun p => (p.1, ev σ p.2))
  | .call ⟨.builtin .len, args, ts⟩ => match ts.toList, args.toList with
    | [t], [x] => if lenOk P t (ev σ x) then lenv (ev σ x) else none
    | _, _ => none
  | .call ⟨.builtin .cap, args, ts⟩ => match ts.toList, args.toList with
    | [t], [x] => capv P t (ev σ x)
    | _, _ => none
  | .call ⟨.builtin .min, args, _⟩ => minv (args.toList.map (ev σ))
  | .call ⟨.builtin .max, args, _⟩ => maxv (args.toList.map (ev σ))
  | _ => none

section
variable {P : Program} {w : World} {h : Heap} {N : Nat}

theorem TR.map {σ : Nat → PV} {ρ : Operand → Value} : ∀ (l : List Operand), (∀ x ∈ l, VR w h N (ev σ x) (ρ x)) → TR w h N (l.map (ev σ)) (l.map ρ)
  | [], _ => by simp [TR]
  | x :: l, hl => by
    simp only [List.map_cons, TR]
    exact ⟨_, _, rfl, hl x (by simp), TR.map l fun y hy => hl y (by simp [hy])⟩
theorem PartsR.map {σ : Nat → PV} {ρ : Operand → Value} : ∀ (l : List (Nat × Operand)), (∀ p ∈ l, VR w h N (ev σ p.2) (ρ p.2)) → PartsR w h N (l.map fun p => (p.1, ev σ p.2)) (l.map fun p => (p.1, ρ p.2))
  | [], _ => .nil
  | p :: l, hl => .cons (hl p (by simp)) (PartsR.map l fun y hy => hl y (by simp [hy]))

theorem dv_sound {o : Oper} {ρ : Operand → Value} {σ : Nat → PV} {v : PV} (hx : ∀ x ∈ o.op.operands, VR w h N (ev σ x) (ρ x)) (e : dv P o.op σ = some v) :
    ∃ c, (execOp ρ o).run P w = .ok (.value c) w ∧ VR w h N v c := by
  obtain ⟨dst, op, type, pos, after, guard⟩ := o
  simp only at hx e
  unfold dv at e
  split at e
  · cases e; exact ⟨_, by simp [execOp], hx _ (by simp [Op.operands])⟩
  · cases e; exact ⟨_, by simp [execOp], hx _ (by simp [Op.operands])⟩
  · rename_i c a b
    have hc := hx c (by simp [Op.operands])
    split at e
    · rename_i t ht
      cases e
      rw [ht] at hc
      simp only [VR] at hc
      refine ⟨if t then ρ a else ρ b, by simp [execOp, hc, asBool], ?_⟩
      cases t
      · exact hx b (by simp [Op.operands])
      · exact hx a (by simp [Op.operands])
    · cases e
  · rename_i x
    have hc := hx x (by simp [Op.operands])
    split at e
    · rename_i b o ht
      cases e
      rw [ht] at hc
      have hc' := hc
      simp only [VR] at hc
      exact ⟨ρ x, by simp [execOp, hc], hc'⟩
    · rename_i fr cs o ht
      cases e
      rw [ht] at hc
      have hc' := hc
      simp only [VR] at hc
      obtain ⟨b, o', vs, hc, _⟩ := hc
      exact ⟨ρ x, by simp [execOp, hc], hc'⟩
    · cases e
  · rename_i op' t x y yt
    obtain ⟨q1, c, q2, q3⟩ := bin_sound (hx x (by simp [Op.operands])) (hx y (by simp [Op.operands])) e
    exact ⟨c, by simp [execOp, q1, q2], q3⟩
  · rename_i op' t x
    obtain ⟨c, q2, q3⟩ := un_sound (P := P) (hx x (by simp [Op.operands])) e
    exact ⟨c, by simp [execOp, q2], q3⟩
  · rename_i s d x
    obtain ⟨c, q2, q3⟩ := cv_sound (hx x (by simp [Op.operands])) e
    exact ⟨c, by simp [execOp, q2], q3⟩
  · rename_i t x f
    obtain ⟨c, q2, q3⟩ := fa_sound (hx x (by simp [Op.operands])) e
    exact ⟨c, by simp [execOp, q2], q3⟩
  · rename_i t x f
    obtain ⟨c, q2, q3⟩ := fd_sound (hx x (by simp [Op.operands])) e
    exact ⟨c, by simp [execOp, q2], q3⟩
  · rename_i t x i
    obtain ⟨c, q2, q3⟩ := ixa_sound (hx x (by simp [Op.operands])) (hx i (by simp [Op.operands])) e
    exact ⟨c, by simp [execOp, q2], q3⟩
  · rename_i t x i
    obtain ⟨c, q2, q3⟩ := ixv_sound (hx x (by simp [Op.operands])) (hx i (by simp [Op.operands])) e
    exact ⟨c, by simp [execOp, q2], q3⟩
  · rename_i t x lo hi
    have o1 : OR w h N (lo.map (ev σ)) (lo.map ρ) := by
      cases lo with
      | none => simp [OR]
      | some y => simp only [Option.map_some, OR]; exact hx y (by simp [Op.operands])
    have o2 : OR w h N (hi.map (ev σ)) (hi.map ρ) := by
      cases hi with
      | none => simp [OR]
      | some y => simp only [Option.map_some, OR]; exact hx y (by simp [Op.operands])
    obtain ⟨c, q2, q3⟩ := slc_sound (hx x (by simp [Op.operands])) o1 o2 e
    exact ⟨c, by simp [execOp, q2], q3⟩
  · rename_i x i
    have hc := hx x (by simp [Op.operands])
    split at e
    · rename_i cs ht
      rw [ht] at hc
      simp only [VR] at hc
      obtain ⟨vs, hv, ht⟩ := hc
      obtain ⟨c, q1, q2⟩ := ht.get i e
      have q1' : vs[i]? = some c := by simpa using q1
      exact ⟨c, by simp [execOp, Instr.extract, hv, q1'], q2⟩
    · cases e
  · rename_i f first caps
    cases e
    refine ⟨.func (.func f) (first.map ρ) (caps.map ρ), by simp [execOp, Instr.makeFunc], ?_⟩
    simp only [VR]
    exact ⟨_, _, rfl, by simpa using TR.map first.toList fun x hm => hx x (by simp [Op.operands]; exact .inl (by simpa using hm)), by simpa using TR.map caps.toList fun x hm => hx x (by simp [Op.operands]; exact .inr (by simpa using hm))⟩
  · rename_i t ps
    have hp : PartsR w h N (ps.toList.map fun p => (p.1, ev σ p.2)) ((ps.map fun p => (p.1, ρ p.2)).toList) := by
      rw [Array.toList_map]
      exact PartsR.map ps.toList fun p hm => hx p.2 (by simp [Op.operands]; exact ⟨p.1, by simpa using hm⟩)
    obtain ⟨c, q2, q3⟩ := bld_sound hp e
    exact ⟨c, by simp [execOp, q2], q3⟩
  · rename_i args ts
    split at e
    · rename_i t x ht hxs
      split at e
      · rename_i hok
        have ea : args = #[x] := by apply Array.ext'; simpa using hxs
        have et : ts = #[t] := by apply Array.ext'; simpa using ht
        subst ea et
        obtain ⟨c, q2, q3⟩ := len_sound (ty := type) (hx x (by simp [Op.operands, Call.operands])) hok e
        exact ⟨c, by simp [execOp, resolve, invoke, builtin, q2], q3⟩
      · cases e
    · cases e
  · rename_i args ts
    split at e
    · rename_i t x ht hxs
      have ea : args = #[x] := by apply Array.ext'; simpa using hxs
      have et : ts = #[t] := by apply Array.ext'; simpa using ht
      subst ea et
      obtain ⟨c, q2, q3⟩ := cap_sound (ty := type) (hx x (by simp [Op.operands, Call.operands])) e
      exact ⟨c, by simp [execOp, resolve, invoke, builtin, q2], q3⟩
    · cases e
  · rename_i args ts
    obtain ⟨c, q2, q3⟩ := min_sound (P := P) (ts := ts) (ty := type) (as := args.map ρ) (by rw [Array.toList_map]; exact TR.map args.toList fun x hm => hx x (by simpa [Op.operands, Call.operands] using hm)) e
    exact ⟨c, by simp [execOp, resolve, invoke, builtin, q2], q3⟩
  · rename_i args ts
    obtain ⟨c, q2, q3⟩ := max_sound (P := P) (ts := ts) (ty := type) (as := args.map ρ) (by rw [Array.toList_map]; exact TR.map args.toList fun x hm => hx x (by simpa [Op.operands, Call.operands] using hm)) e
    exact ⟨c, by simp [execOp, resolve, invoke, builtin, q2], q3⟩
  · cases e
end

/-- What a slice literal holds. -/
def bsl (P : Program) (t : TypeId) (n : Nat) (ps : List (Nat × PV)) : Option (Nat × List PV) :=
  match elt P t with
  | some el => match tsz P el, zc P el with
    | some E, some z => if z.length = E ∧ n * E ≤ 16777216 ∧ n ≤ 16777216 then (pfill (fun i => some (i * E, E)) (rep n z) ps).map fun cs => (E, cs) else none
    | _, _ => none
  | none => none
/-- An element type's size, bytes, zero. -/
def eli (P : Program) (t : TypeId) : Option (Nat × Nat × List PV) :=
  match elt P t with
  | some el => match P.info? el, zc P el with
    | some i, some z => if z.length = i.size then some (i.size, i.bytes, z) else none
    | _, _ => none
  | none => none

/-- What a copy of `m` elements does. -/
def cpv (d : PV) (E m : Nat) (new : List PV) (K : PV → Heap → Prop) (h : Heap) : Prop :=
  match d with
  | .nils => K (.int .i64 0) h
  | .list _ _ n _ => n = 0 ∧ K (.int .i64 0) h
  | .buf b E' off n => E' = E ∧ new.length = m * E ∧ ∃ cs, h.f b = some cs ∧ off + n * E ≤ cs.length ∧ K (.int .i64 (min m n : Nat)) (h.set b (wr cs off (new.take (min m n * E))))
  | _ => False
theorem cpv_mono {d : PV} {E m : Nat} {new : List PV} {K K' : PV → Heap → Prop} {h : Heap} (hk : ∀ v h', K v h' → K' v h') (hp : cpv d E m new K h) : cpv d E m new K' h := by
  unfold cpv at hp ⊢
  split <;> simp only at hp
  · exact hk _ _ hp
  · exact ⟨hp.1, hk _ _ hp.2⟩
  · obtain ⟨a, b, cs, c, d, e⟩ := hp; exact ⟨a, b, cs, c, d, hk _ _ e⟩
theorem cpv_some {d : PV} {E m : Nat} {new : List PV} {K : PV → Heap → Prop} {h : Heap} (hp : cpv d E m new K h) : ∃ v h', K v h' := by
  unfold cpv at hp
  split at hp
  · exact ⟨_, _, hp⟩
  · exact ⟨_, _, hp.2⟩
  · obtain ⟨a, b, cs, c, d, e⟩ := hp; exact ⟨_, _, e⟩
  · exact hp.elim
/-- One operation, as it is carried out in a region that does not draw its order. -/
def popv (P : Program) (o : Op) (σ : Nat → PV) (h : Heap) (K : PV → Heap → Prop) : Prop :=
  match o with
  | .load t a => ∃ v, ldp P h t (ev σ a) = some v ∧ K v h
  | .store t a x => ∃ h', stp P h t (ev σ a) (ev σ x) = some h' ∧ K .undef h'
  | .box t x => ∃ cs, flat (ev σ x) = some cs ∧ (K (.fptr true cs 0) h ∨ ∀ b, h.f b = none → K (.ptr b 0) (h.set b cs))
  | .alloc t => ∃ z, zc P t = some z ∧ (K (.fptr true z 0) h ∨ ∀ b, h.f b = none → K (.ptr b 0) (h.set b z))
  | .buildSlice t n ps => ∃ r, bsl P t n (ps.toList.map fun p => (p.1, ev σ p.2)) = some r ∧
      (K (.list true r.1 n r.2) h ∨ ∀ b, h.f b = none → K (.buf b r.1 0 n) (h.set b r.2))
  | .makeSlice t l c => ∃ r kl nl kc nc, eli P t = some r ∧ ev σ l = .int kl nl ∧ ev σ c = .int kc nc ∧ 0 ≤ nl ∧ nl ≤ nc ∧ (r.2.1 : Int) * nc ≤ 281474976710656 ∧ nc ≤ 9223372036854775807 ∧
      ∀ b, h.f b = none → K (.buf b r.1 0 nl.toNat) (h.set b (rep nl.toNat r.2.2))
  | .call ⟨.value f, args, _⟩ => match ev σ f with
    | .fn g first caps => CanP P g (first ++ args.toList.map (ev σ) ++ caps) h K
    | _ => False
  | .call ⟨.builtin .append, args, ts⟩ => match args.toList, ts.toList with
    | [s, x], [t, tx] => ∃ r m new, eli P t = some r ∧ srcv P h r.1 tx (ev σ x) = some (m, new) ∧
        match ev σ s with
        | .nils => m * r.2.1 ≤ 140737488355328 ∧ m ≤ maxLen ∧ if m = 0 then K .nils h else ∀ b, h.f b = none → K (.buf b r.1 0 m) (h.set b new)
        | .buf b E off n => E = r.1 ∧ off = 0 ∧ (n + m) * r.2.1 ≤ 140737488355328 ∧ n + m ≤ maxLen ∧ ∃ cs, h.f b = some cs ∧ n * E ≤ cs.length ∧
            ∀ b', (b' = b ∨ h.f b' = none) → K (.buf b' E 0 (n + m)) ((h.kill b).set b' (cs.take (n * E) ++ new))
        | _ => False
    | _, _ => False
  | .call ⟨.builtin .copy, args, ts⟩ => match args.toList, ts.toList with
    | [d, x], [t, tx] => ∃ E m new, (elt P t).bind (tsz P) = some E ∧ srcv P h E tx (ev σ x) = some (m, new) ∧ cpv (ev σ d) E m new K h
    | _, _ => False
  | o => ∃ v, dv P o σ = some v ∧ K v h
end Go.Pm

/-
  An abstract machine over pure values, part H: that one operation does in the machine what it does over pure values.
  Conditions: none.
-/
namespace Go.Pm
set_option linter.unusedVariables false
set_option linter.unusedSimpArgs false
open Go.RowKit
section
variable {P : Program} {w : World} {h : Heap} {N : Nat}

theorem bsl_sound {t : TypeId} {n : Nat} {ps : List (Nat × PV)} {qs : Array (Nat × Value)} {r : Nat × List PV} (hp : PartsR w h N ps qs.toList) (e : bsl P t n ps = some r) :
    ∃ el arr, (Instr.buildSlice t n qs).run P w = .ok (.slice (some ⟨w.heap.size, 0, none⟩) n n) (w.alloc (.cells arr el)) ∧ CR w h N r.2 arr.toList ∧ r.2.length = n * r.1 ∧ arr.size = n * r.1 ∧ n ≤ 16777216 := by
  unfold bsl at e
  split at e
  · rename_i el hel
    split at e
    · rename_i E z hE hz
      split at e
      · rename_i hl
        cases hf : pfill (fun i => some (i * E, E)) (rep n z) ps with
        | none => simp [hf] at e
        | some cs =>
          simp only [hf, Option.map_some, Option.some.injEq] at e
          subst e
          obtain ⟨it, zv, hi, hz2, hzc⟩ := zc_spec (w := w) (h := h) (N := N) hz
          have hzl := hzc.length
          have hu : P.underlying t = some (.slice el) := by
            unfold elt at hel
            split at hel
            · rename_i e' he; cases hel; exact he
            · cases hel
          have hs : zv.cells.size = E := by simp at hzl; omega
          have hbase : CR w h N (rep n z) (madeCells zv.cells (n * E)).toList := by
            rw [← hs, made_list]; exact hzc.flatten n
          obtain ⟨arr, q1, q2⟩ := pfill_sound ps qs.toList (rep n z) _ cs hp hbase hf
          have hplen : ∀ (ps : List (Nat × PV)) (c0 c1 : List PV), pfill (fun i => some (i * E, E)) c0 ps = some c1 → c1.length = c0.length := by
            intro ps
            induction ps with
            | nil => intro c0 c1 q; simp only [pfill, Option.some.injEq] at q; rw [q]
            | cons p ps ih =>
              intro c0 c1 q
              obtain ⟨i, v⟩ := p
              simp only [pfill] at q
              split at q
              · rename_i off size vs q0 q1
                split at q
                · rename_i q2
                  rw [ih _ _ q, wr_length]
                  omega
                · cases q
              · cases q
          have hcl := hplen ps _ _ hf
          rw [rep_length, hl.1] at hcl
          have hal := q2.length
          refine ⟨el, arr, ?_, q2, hcl, by show arr.size = n * E; simp at hal; omega, hl.2.2⟩
          have n1 : ¬ (16777216 < n * E) := by omega
          simp only [Instr.buildSlice, Sem.run_bind, run_underlying hu, Result.andThen_ok, sizeOf_run hE]
          have q1' : Instr.fill (fun i => some (i * E, E)) ((Array.range (n * E)).map (zv.cells[· % zv.cells.size]!)) qs.toList = some arr := q1
          rw [if_neg n1]
          by_cases h0 : n * E = 0
          · have e0 : (Array.range (n * E)).map (zv.cells[· % zv.cells.size]!) = (Array.range (n * E)).map ((#[] : Array Value)[· % (#[] : Array Value).size]!) := by
              simp only [h0, Array.range_zero', List.map_toArray, List.map_nil, Array.map_empty]
            rw [e0] at q1'
            simp only [h0, if_true, Sem.run_pure, Sem.run_bind, Result.andThen_ok] at q1' ⊢
            rw [q1']
            simp [newRow]
          · simp only [h0, if_false, zeroValue, typeInfo, hi, hz2, Sem.run_bind, Sem.run_pure, Result.andThen_ok]
            simp [q1', newRow, hi, hz2]
      · cases e
    · cases e
  · cases e

theorem eli_spec {t : TypeId} {r : Nat × Nat × List PV} (e : eli P t = some r) :
    ∃ el i zv, P.underlying t = some (.slice el) ∧ P.info? el = some i ∧ i.size = r.1 ∧ i.bytes = r.2.1 ∧ i.zero = some zv ∧ r.2.2.length = r.1 ∧ ∀ (w : World) (h : Heap) (N : Nat), CR w h N r.2.2 zv.cells.toList := by
  unfold eli at e
  split at e
  · rename_i el hel
    split at e
    · rename_i i z hi hz
      split at e
      · rename_i hl
        cases e
        have hu : P.underlying t = some (.slice el) := by
          unfold elt at hel
          split at hel
          · rename_i e' he; cases hel; exact he
          · cases hel
        unfold zc at hz
        rw [hi] at hz
        simp only at hz
        cases hz2 : i.zero with
        | none => simp [hz2] at hz
        | some zv =>
          simp only [hz2, Option.bind_some] at hz
          exact ⟨el, i, zv, hu, hi, rfl, rfl, hz2, hl, fun w h N => (VR.cval zv).flat_CR hz⟩
      · cases e
    · cases e
  · cases e

/-- What the machine comes to behind one operation. -/
def Nx (P : Program) (w : World) (h : Heap) (N : Nat) (K : PV → Heap → Prop) (next : Value → World → Prop) : Prop :=
  ∀ v c h' w', K v h' → St w h w' h' → WR w' h' 0 → VR w' h' N v c → next c w'

theorem pop_sound {o : Oper} {a : Act} {σ : Nat → PV} {K : PV → Heap → Prop} {next : Act → World → Prop} {Q : Exit → Act → World → Prop}
    (hx : ∀ x ∈ o.op.operands, VR w h N (ev σ x) (a.eval x)) (hw : WR w h 0) (hN : N ≤ w.heap.size) (hp : popv P o.op σ h K)
    (hk : Nx P w h N K fun c w' => next (a.put o.dst c) w') : o.wp P a w next Q := by
  unfold Oper.wp
  have dcase : (∃ v, dv P o.op σ = some v ∧ K v h) → o.upon P a next Q ((execOp a.eval o).run P w) := by
    rintro ⟨v, e, hkv⟩
    obtain ⟨c, q1, q2⟩ := dv_sound hx e
    rw [q1]
    exact hk v c h w hkv (St.refl w h) hw q2
  unfold popv at hp
  split at hp
  · -- load
    rename_i t x ho
    obtain ⟨v, e, hkv⟩ := hp
    obtain ⟨c, q1, q2⟩ := ld_sound (o := o) (ρ := a.eval) ho (hx x (by simp [ho, Op.operands])) hw e
    rw [q1]
    exact hk v c h w hkv (St.refl w h) hw q2
  · -- store
    rename_i t x y ho
    obtain ⟨h', e, hkv⟩ := hp
    obtain ⟨w', q1, q2, q3⟩ := st_sound (hx x (by simp [ho, Op.operands])) (hx y (by simp [ho, Op.operands])) hw e
    have : (execOp a.eval o).run P w = .ok .skip w' := by unfold execOp; simp only [ho]; simp [q1]
    rw [this]
    exact hk .undef undef h' w' hkv q2 q3 (by simp only [VR])
  · -- box
    rename_i t x ho
    obtain ⟨cs, e, hkv⟩ := hp
    have hc := (hx x (by simp [ho, Op.operands])).flat_CR e
    have hrun : (execOp a.eval o).run P w = .ok (.value (.pointer (some ⟨w.heap.size, 0, none⟩))) (w.alloc (.cells (a.eval x).cells t)) := by
      unfold execOp; simp only [ho]; simp [Instr.box, newVar, newRow]
    rw [hrun]
    rcases hkv with hkv | hkv
    · obtain ⟨q1, q2, q3, _⟩ := new_frozen (t := t) hw hN hc
      exact hk _ _ _ _ hkv q1 q2 q3
    · have hl := hc.length
      have hc0 : CR w h 0 cs ((a.eval x).cells.toList.take cs.length) := by rw [hl, List.take_length]; exact hc.zero
      obtain ⟨q1, q2, q3, q4, _⟩ := new_live (N := N) (t := t) hw (by simp at hl; omega) hc0
      exact hk _ _ _ _ (hkv _ q3) q1 q2 q4
  · -- alloc
    rename_i t ho
    obtain ⟨z, e, hkv⟩ := hp
    obtain ⟨it, zv, hi, hz2, hc⟩ := zc_spec (w := w) (h := h) (N := N) e
    have hrun : (execOp a.eval o).run P w = .ok (.value (.pointer (some ⟨w.heap.size, 0, none⟩))) (w.alloc (.cells zv.cells t)) := by
      unfold execOp; simp only [ho]; simp [Instr.alloc, zeroValue, typeInfo, hi, hz2, newVar, newRow]
    rw [hrun]
    rcases hkv with hkv | hkv
    · obtain ⟨q1, q2, q3, _⟩ := new_frozen (t := t) hw hN hc
      exact hk _ _ _ _ hkv q1 q2 q3
    · have hl := hc.length
      have hc0 : CR w h 0 z (zv.cells.toList.take z.length) := by rw [hl, List.take_length]; exact hc.zero
      obtain ⟨q1, q2, q3, q4, _⟩ := new_live (N := N) (t := t) hw (by simp at hl; omega) hc0
      exact hk _ _ _ _ (hkv _ q3) q1 q2 q4
  · -- a slice's literal
    rename_i t n ps ho
    obtain ⟨r, e, hkv⟩ := hp
    have hps : PartsR w h N (ps.toList.map fun p => (p.1, ev σ p.2)) ((ps.map fun p => (p.1, a.eval p.2)).toList) := by
      rw [Array.toList_map]
      exact PartsR.map ps.toList fun p hm => hx p.2 (by simp [ho, Op.operands]; exact ⟨p.1, by simpa using hm⟩)
    obtain ⟨el, arr, q1, q2, q3, q4, q5⟩ := bsl_sound hps e
    have hrun : (execOp a.eval o).run P w = .ok (.value (.slice (some ⟨w.heap.size, 0, none⟩) n n)) (w.alloc (.cells arr el)) := by
      unfold execOp; simp only [ho]; simp [q1]
    rw [hrun]
    rcases hkv with hkv | hkv
    · obtain ⟨s1, s2, s3, s4⟩ := new_frozen (t := el) hw hN q2
      exact hk _ _ _ _ hkv s1 s2 (s4 _ _ q3)
    · have hc0 : CR w h 0 r.2 (arr.toList.take r.2.length) := by rw [q2.length, List.take_length]; exact q2.zero
      obtain ⟨s1, s2, s3, s4, s5⟩ := new_live (N := N) (t := el) hw (by omega) hc0
      exact hk _ _ _ _ (hkv _ s3) s1 s2 (s5 r.1 n n q4 (Nat.le_refl _) (by simp only [maxLen]; omega))
  · -- make
    rename_i t l c ho
    obtain ⟨r, kl, nl, kc, nc, e, el, ec, h0, h1, h2, h3, hkv⟩ := hp
    obtain ⟨elm, i, zv, hu, hi, hs, hb, hz, hzl, hzc⟩ := eli_spec e
    have hl := hx l (by simp [ho, Op.operands])
    have hc := hx c (by simp [ho, Op.operands])
    rw [el] at hl
    rw [ec] at hc
    simp only [VR] at hl hc
    have hrun : (execOp a.eval o).run P w = .ok (.value (.slice (some ⟨w.heap.size, 0, none⟩) nl.toNat nc.toNat)) (w.alloc (.cells (madeCells zv.cells (nc.toNat * r.1)) elm)) := by
      have := run_make (P := P) w t elm i zv hu hi hz kl kc nl nc h0 h1 (by rw [hb]; exact h2) h3
      unfold execOp; simp only [ho]; simp [hl, hc, this, hs]
    rw [hrun]
    have hzc' := hzc w h 0
    have hzs : zv.cells.size = r.1 := by have := hzc'.length; simp at this; omega
    have hle : nl.toNat * r.1 ≤ nc.toNat * r.1 := Nat.mul_le_mul_right _ (by omega)
    have hrl : (rep nl.toNat r.2.2).length = nl.toNat * r.1 := by rw [rep_length, hzl]
    have hcr : CR w h 0 (rep nl.toNat r.2.2) ((madeCells zv.cells (nc.toNat * r.1)).toList.take (rep nl.toNat r.2.2).length) := by
      have e1 : (madeCells zv.cells (nc.toNat * r.1)).toList.take (rep nl.toNat r.2.2).length = (List.replicate nl.toNat zv.cells.toList).flatten := by
        rw [hrl, ← hzs, made_list]
        apply List.ext_getElem?
        intro j
        rw [List.getElem?_take, flatten_get, flatten_get]
        have hlen : zv.cells.toList.length = zv.cells.size := by simp
        rw [hlen]
        rw [← hzs] at hle
        by_cases hj : j < nl.toNat * zv.cells.size
        · rw [if_pos hj, if_pos hj, if_pos (by omega)]
        · rw [if_neg hj, if_neg hj]
      rw [e1]
      exact hzc'.flatten _
    obtain ⟨s1, s2, s3, s4, s5⟩ := new_live (N := N) (t := elm) hw (by rw [hrl, size_madeCells]; exact hle) hcr
    exact hk _ _ _ _ (hkv _ s3) s1 s2 (s5 r.1 nl.toNat nc.toNat (by rw [size_madeCells]) (by omega) (by simp only [maxLen]; omega))
  · -- a call
    rename_i f args ts ho
    have hf := hx f (by simp [ho, Op.operands, Call.operands])
    split at hp
    · rename_i g first caps hfe
      rw [hfe] at hf
      simp only [VR] at hf
      obtain ⟨fs, cvs, hf, h1, h2⟩ := hf
      obtain ⟨⟨fn, hfn, hname, hbody⟩, hcalls⟩ := hp
      have hargs : TR w h N (args.toList.map (ev σ)) (args.toList.map a.eval) := TR.map args.toList fun x hm => hx x (by simp [ho, Op.operands, Call.operands]; exact .inr (by simpa using hm))
      have hrun : (execOp a.eval o).run P w = .ok (.enter g (fs ++ args.map a.eval ++ cvs)) w := by
        unfold execOp; simp only [ho]
        have hname' : ¬ fn.name = "runtime.NumGoroutine" := by simpa using hname
        have hbody' : ¬ fn.body = none := fun e => by rw [e] at hbody; cases hbody
        simp [resolve, hf, Deferred.ofValue, invoke, callFunc, hfn, hname', hbody']
      rw [hrun, Oper.upon_enter]
      have hall : TR w h 0 (first ++ args.toList.map (ev σ) ++ caps) (fs ++ args.map a.eval ++ cvs).toList := by
        simp only [Array.toList_append, Array.toList_map]
        exact ((h1.append hargs).append h2).zero
      refine (hcalls w _ hw hall).mono fun e w' ⟨v, c, h', q1, q2, q3, q4, q5⟩ => ?_
      subst q1
      exact hk v c h' w' q5 q2 q3 (VR.step ⟨Nat.le_refl _, fun _ _ _ => rfl, fun _ _ e => e, fun _ c _ fz e => ⟨c, fz, e, rfl⟩⟩ hN _ q4)
    · exact hp.elim
  · -- append
    rename_i args ts ho
    split at hp
    · rename_i s x t tx hargs hts
      have ea : args = #[s, x] := by apply Array.ext'; simpa using hargs
      have et : ts = #[t, tx] := by apply Array.ext'; simpa using hts
      subst ea et
      have hs := hx s (by simp [ho, Op.operands, Call.operands])
      have hxx := hx x (by simp [ho, Op.operands, Call.operands])
      obtain ⟨r, m, new, e1, e2, hp⟩ := hp
      obtain ⟨elm, i, zv, hu, hi, hsz, hb, hz, hzl, hzc⟩ := eli_spec e1
      obtain ⟨vs, hsrc, hnew⟩ := src_sound hxx hw e2
      have hop : ∀ (v : Value) (w' : World), (Builtin.append_ #[t, tx] o.type #[a.eval s, a.eval x]).run P w = .ok v w' → (execOp a.eval o).run P w = .ok (.value v) w' := fun v w' hr => by
        unfold execOp; simp only [ho]
        simp [resolve, invoke, builtin, hr]
      split at hp
      · rename_i hse
        obtain ⟨hb1, hb2, hp⟩ := hp
        rw [hse] at hs
        simp only [VR] at hs
        by_cases hm : m = 0
        · rw [if_pos hm] at hp
          subst hm
          have hvl := hsrc.newsLen
          have hv0 : vs = [] := List.length_eq_zero_iff.1 (by omega)
          have hr : (Builtin.append_ #[t, tx] o.type #[a.eval s, a.eval x]).run P w = .ok (.slice none 0 0) w := by
            rw [hs]
            have hc := hsrc.cells
            have hl := hsrc.len
            rcases hsrc.kind with ⟨e', hk'⟩ | hk' <;>
              simp [Builtin.append_, run_underlying hu, run_underlying hk', sizeOf, typeInfo, hi, hl, hsz, hc]
          rw [hop _ _ hr]
          exact hk _ _ _ _ hp (St.refl w h) hw (by simp only [VR])
        · rw [if_neg hm] at hp
          obtain ⟨v, w', q1, q2, q3, q4, q5⟩ := app_grow (N := N) (ty := o.type) (base := none) (n := 0) (c := 0) (old := []) (ovs := []) (h0 := h) hu hi hz hsz (hzc w h 0) hzl hw hsrc hnew (by simp [CR]) (by simp) rfl (by omega) (by rw [hb]; simpa using hb1) (by simpa using hb2) (fun _ _ e => e)
          rw [← hs] at q1
          rw [hop _ _ q1]
          simp only [List.nil_append, Nat.zero_add] at q2 q3 q4
          exact hk _ _ _ _ (hp _ q5) q2 q3 q4
      · rename_i b E off n hse
        obtain ⟨rfl, rfl, hb1, hb2, cs, hbc, hnl, hp⟩ := hp
        rw [hse] at hs
        simp only [VR] at hs
        obtain ⟨c, hs, hnc, hcm, hroom⟩ := hs
        by_cases hg : n + m ≤ c
        · obtain ⟨w', q1, q2, q3, q4⟩ := app_room (N := N) (ty := o.type) hu hi hsz hw hsrc hnew hbc hnl hroom hg hcm
          rw [← hs] at q1
          rw [hop _ _ q1]
          have e : (h.kill b).set b (cs.take (n * r.1) ++ new) = h.set b (cs.take (n * r.1) ++ new) := by
            apply Heap.ext'; intro y; by_cases hy : y = b <;> simp [Heap.kill, Heap.set, hy]
          rw [← e] at q2 q3 q4
          exact hk _ _ _ _ (hp b (.inl rfl)) q2 q3 q4
        · obtain ⟨cells, t', hcell, hcl, hcc⟩ := hw b cs hbc
          have hov := hcc.take (n * r.1)
          have hovl := hov.length
          have hol : (cs.take (n * r.1)).length = n * r.1 := by simp; omega
          have hfirst : (Builtin.firstCells i.size n (.slice (some ⟨b, 0, none⟩) n c)).run P w.drew = .ok ((cells.toList.take cs.length).take (n * r.1)).toArray w.drew := by
            refine run_firstCells_some (P := P) w.drew i.size n ⟨b, 0, none⟩ n c _ (by rw [hsz]; omega) fun j u hu => ?_
            rw [Addr.add_mid]
            have hj : j < n * r.1 := by have := (List.getElem?_eq_some_iff.1 hu).1; omega
            rw [List.getElem?_take, if_pos hj] at hu
            have := Mem.live hcell cs.length j u hu
            simpa using this
          obtain ⟨v, w', q1, q2, q3, q4, q5⟩ := app_grow (N := N) (ty := o.type) (base := some ⟨b, 0, none⟩) (n := n) (c := c) (h0 := h.kill b) hu hi hz hsz (hzc w h 0) hzl hw hsrc hnew hov hol hfirst (by omega) (by rw [hb]; exact hb1) hb2 (fun y ds hy => by
            by_cases e : y = b
            · rw [e, h.kill_same] at hy; cases hy
            · rwa [h.kill_ne e] at hy)
          rw [← hs] at q1
          rw [hop _ _ q1]
          exact hk _ _ _ _ (hp _ (.inr (hw.free (Nat.le_refl _)))) q2 q3 q4
      · exact hp.elim
    · exact hp.elim
  · -- copy
    rename_i args ts ho
    split at hp
    · rename_i d x t tx hargs hts
      have ea : args = #[d, x] := by apply Array.ext'; simpa using hargs
      have et : ts = #[t, tx] := by apply Array.ext'; simpa using hts
      subst ea et
      have hd := hx d (by simp [ho, Op.operands, Call.operands])
      have hxx := hx x (by simp [ho, Op.operands, Call.operands])
      obtain ⟨E, m, new, e1, e2, hp⟩ := hp
      obtain ⟨elm, hu, hs⟩ := elt_spec e1
      have hi : ∃ i, P.info? elm = some i ∧ i.size = E := by
        unfold tsz at hs; cases q : P.info? elm with
        | none => simp [q] at hs
        | some i => exact ⟨i, rfl, by simpa [q] using hs⟩
      obtain ⟨i, hi, hsz⟩ := hi
      have hop : ∀ (v : Value) (w' : World), (Builtin.copy_ #[t, tx] o.type #[a.eval d, a.eval x]).run P w = .ok v w' → (execOp a.eval o).run P w = .ok (.value v) w' := fun v w' hr => by
        unfold execOp; simp only [ho]
        simp [resolve, invoke, builtin, hr]
      unfold cpv at hp
      split at hp
      · rename_i hde
        rw [hde] at hd
        simp only [VR] at hd
        subst hsz
        have hr := copy_none (ty := o.type) (ad := none) (c := 0) hu hi hxx hw e2
        rw [← hd] at hr
        rw [hop _ _ hr]
        exact hk _ _ _ _ hp (St.refl w h) hw (by simp only [VR, goInt])
      · rename_i fr E' n cs hde
        obtain ⟨rfl, hp⟩ := hp
        rw [hde] at hd
        simp only [VR] at hd
        obtain ⟨ad, c, vs, hd, _⟩ := hd
        subst hsz
        have hr := copy_none (ty := o.type) (ad := ad) (c := c) hu hi hxx hw e2
        rw [← hd] at hr
        rw [hop _ _ hr]
        exact hk _ _ _ _ hp (St.refl w h) hw (by simp only [VR, goInt])
      · rename_i b E' off n hde
        obtain ⟨rfl, hnl, cs, hbc, hol, hp⟩ := hp
        rw [hde] at hd
        simp only [VR] at hd
        obtain ⟨c, hd, hnc, hcm, hroom⟩ := hd
        obtain ⟨w', q1, q2, q3⟩ := copy_into (ty := o.type) (c := c) hu hi hsz hxx hw e2 hbc hol hnl
        rw [← hd] at q1
        rw [hop _ _ q1]
        exact hk _ _ _ _ hp q2 q3 (by simp only [VR, goInt])
      · exact hp.elim
    · exact hp.elim
  · exact dcase hp
end
end Go.Pm
