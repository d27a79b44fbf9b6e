/-
  An abstract machine over pure values, part A: values, the small heap of what is live, and how they stand to the machine's memory.
  Conditions: none; nothing of any program stands here.
-/
import Derived.Calls
import Derived.Orders
import Derived.WalkKit
import Derived.Below
import Derived.Laws.Rows
namespace Go.Pm
set_option linter.unusedVariables false
set_option linter.unusedSimpArgs false

/-- A pure value. `list`, `fptr`: what lies in memory that nobody writes any more. `anyb`: a truth that is not known. `buf`, `ptr`: what leads to a live block. -/
inductive PV where
  | int (k : IntKind) (n : Int)
  | bool (b : Bool)
  | str (s : ByteArray)
  | agg (cs : List PV)
  | tup (cs : List PV)
  | nils
  | list (fr : Bool) (E n : Nat) (cs : List PV)
  | buf (b E off n : Nat)
  | nilp
  | ptr (b off : Nat)
  | fptr (fr : Bool) (cs : List PV) (off : Nat)
  | fn (f : FuncId) (first caps : List PV)
  | nilf
  | undef
  | anyb

/-- The live blocks, and their first cells. -/
structure Heap where
  f : Nat → Option (List PV)
  fin : ∃ n, ∀ b, n ≤ b → f b = none

theorem Heap.ext' {h g : Heap} (e : ∀ b, h.f b = g.f b) : h = g := by
  cases h; cases g; congr; exact funext e

def Heap.nil : Heap := ⟨fun _ => none, 0, fun _ _ => rfl⟩
def Heap.set (h : Heap) (b : Nat) (cs : List PV) : Heap :=
  ⟨fun x => if x = b then some cs else h.f x, by
    obtain ⟨n, hn⟩ := h.fin
    exact ⟨max n (b + 1), fun x hx => by rw [if_neg (by omega)]; exact hn x (by omega)⟩⟩
def Heap.kill (h : Heap) (b : Nat) : Heap :=
  ⟨fun x => if x = b then none else h.f x, by
    obtain ⟨n, hn⟩ := h.fin
    exact ⟨n, fun x hx => by split; rfl; exact hn x hx⟩⟩
theorem Heap.set_same (h : Heap) (b : Nat) (cs : List PV) : (h.set b cs).f b = some cs := by simp [Heap.set]
theorem Heap.set_ne (h : Heap) {b x : Nat} (cs : List PV) (e : x ≠ b) : (h.set b cs).f x = h.f x := by simp [Heap.set, e]
theorem Heap.kill_same (h : Heap) (b : Nat) : (h.kill b).f b = none := by simp [Heap.kill]
theorem Heap.kill_ne (h : Heap) {b x : Nat} (e : x ≠ b) : (h.kill b).f x = h.f x := by simp [Heap.kill, e]
theorem Heap.set_set (h : Heap) (b : Nat) (cs ds : List PV) : (h.set b cs).set b ds = h.set b ds := by
  apply Heap.ext'; intro x; by_cases e : x = b <;> simp [Heap.set, e]
theorem Heap.kill_set (h : Heap) (b : Nat) (cs : List PV) (e : h.f b = none) : (h.set b cs).kill b = h := by
  apply Heap.ext'; intro x; by_cases e' : x = b
  · subst e'; simp [Heap.kill, e]
  · simp [Heap.kill, Heap.set, e']
theorem Heap.fresh (h : Heap) : ∃ b, h.f b = none := by obtain ⟨n, hn⟩ := h.fin; exact ⟨n, hn n (Nat.le_refl _)⟩
theorem Heap.set_comm (h : Heap) {a b : Nat} (cs ds : List PV) (e : a ≠ b) : (h.set a cs).set b ds = (h.set b ds).set a cs := by
  apply Heap.ext'; intro x; simp only [Heap.set]
  by_cases e1 : x = a
  · subst e1; simp [e]
  · by_cases e2 : x = b
    · subst e2; simp [Ne.symm e]
    · simp [e1, e2]
/-- What of one heap lives lives in the other as well. -/
def Heap.le (h g : Heap) : Prop := ∀ b cs, h.f b = some cs → g.f b = some cs
theorem Heap.le_refl (h : Heap) : h.le h := fun _ _ e => e
theorem Heap.le_set {h g : Heap} {b : Nat} {cs : List PV} (l : h.le g) (e : h.f b = none) : h.le (g.set b cs) := fun x ds hx => by
  have : x ≠ b := fun ee => by rw [ee, e] at hx; cases hx
  rw [Heap.set_ne _ _ this]; exact l x ds hx
theorem Heap.le_kill {h g : Heap} {b : Nat} (l : h.le g) (e : h.f b = none) : h.le (g.kill b) := fun x ds hx => by
  have : x ≠ b := fun ee => by rw [ee, e] at hx; cases hx
  rw [Heap.kill_ne _ this]; exact l x ds hx

/-- Cells in memory. -/
def Mem (w : World) (b o : Nat) (vs : List Value) : Prop := ∀ i v, vs[i]? = some v → w.cell? ⟨b, o + i, none⟩ = some v
def Room (w : World) (b n : Nat) : Prop := ∃ cells e fz, w.heap[b]? = some (.cells cells e fz) ∧ cells.size = n

mutual
/-- A pure value tells what a machine's value is. `N`: what is fresh lies at N or above. -/
def VR (w : World) (h : Heap) (N : Nat) : PV → Value → Prop
  | .int k n, v => v = .int k n
  | .bool b, v => v = .bool b
  | .str s, v => v = .string s
  | .agg cs, v => ∃ vs, v = .agg vs ∧ CR w h N cs vs.toList
  | .tup cs, v => ∃ vs, v = .tuple vs ∧ TR w h N cs vs.toList
  | .nils, v => v = .slice none 0 0
  | .list fr E n cs, v => ∃ a c vs, v = .slice a n c ∧ n ≤ c ∧ cs.length = n * E ∧ CR w h N cs vs ∧
      (n = 0 ∨ ∃ b o, a = some ⟨b, o, none⟩ ∧ b < w.heap.size ∧ h.f b = none ∧ (fr = true → N ≤ b) ∧ Mem w b o vs)
  | .buf b E off n, v => ∃ c, v = .slice (some ⟨b, off, none⟩) n c ∧ n ≤ c ∧ c ≤ maxLen ∧ Room w b (off + c * E)
  | .nilp, v => v = .pointer none
  | .ptr b off, v => v = .pointer (some ⟨b, off, none⟩)
  | .fptr fr cs off, v => ∃ b o vs, v = .pointer (some ⟨b, o + off, none⟩) ∧ b < w.heap.size ∧ h.f b = none ∧ (fr = true → N ≤ b) ∧ CR w h N cs vs ∧ Mem w b o vs
  | .fn f first caps, v => ∃ fs cv, v = .func (.func f) fs cv ∧ TR w h N first fs.toList ∧ TR w h N caps cv.toList
  | .nilf, v => v = .nilFunc
  | .undef, _ => True
  | .anyb, v => ∃ b : Bool, v = .bool b
def CR (w : World) (h : Heap) (N : Nat) : List PV → List Value → Prop
  | [], vs => vs = []
  | c :: cs, vs => ∃ v vs', vs = v :: vs' ∧ v.oneCell' = true ∧ VR w h N c v ∧ CR w h N cs vs'
def TR (w : World) (h : Heap) (N : Nat) : List PV → List Value → Prop
  | [], vs => vs = []
  | c :: cs, vs => ∃ v vs', vs = v :: vs' ∧ VR w h N c v ∧ TR w h N cs vs'
end

theorem CR.length {w : World} {h : Heap} {N : Nat} : ∀ {cs : List PV} {vs : List Value}, CR w h N cs vs → cs.length = vs.length
  | [], vs, e => by simp only [CR] at e; simp [e]
  | c :: cs, vs, e => by
    simp only [CR] at e
    obtain ⟨v, vs', rfl, _, _, h2⟩ := e
    simp [CR.length h2]
theorem CR.get {w : World} {h : Heap} {N : Nat} : ∀ {cs : List PV} {vs : List Value} (i : Nat) {c : PV}, CR w h N cs vs → cs[i]? = some c → ∃ v, vs[i]? = some v ∧ VR w h N c v
  | [], vs, i, c, e, hi => by simp at hi
  | c0 :: cs, vs, i, c, e, hi => by
    simp only [CR] at e
    obtain ⟨v, vs', rfl, h0, h1, h2⟩ := e
    cases i with
    | zero => simp at hi; subst hi; exact ⟨v, rfl, h1⟩
    | succ i => simp at hi ⊢; exact CR.get i h2 hi
theorem CR.append {w : World} {h : Heap} {N : Nat} : ∀ {as bs : List PV} {us vs : List Value}, CR w h N as us → CR w h N bs vs → CR w h N (as ++ bs) (us ++ vs)
  | [], bs, us, vs, e, e' => by simp only [CR] at e; subst e; simpa using e'
  | c :: cs, bs, us, vs, e, e' => by
    simp only [CR] at e
    obtain ⟨v, vs', rfl, h0, h1, h2⟩ := e
    simp only [List.cons_append, CR]
    exact ⟨v, _, rfl, h0, h1, CR.append h2 e'⟩
theorem CR.take {w : World} {h : Heap} {N : Nat} : ∀ (n : Nat) {as : List PV} {us : List Value}, CR w h N as us → CR w h N (as.take n) (us.take n)
  | 0, as, us, e => by simp [CR]
  | n + 1, [], us, e => by simp only [CR] at e; subst e; simp [CR]
  | n + 1, c :: cs, us, e => by
    simp only [CR] at e
    obtain ⟨v, vs', rfl, h0, h1, h2⟩ := e
    simp only [List.take_succ_cons, CR]
    exact ⟨v, _, rfl, h0, h1, CR.take n h2⟩
theorem CR.drop {w : World} {h : Heap} {N : Nat} : ∀ (n : Nat) {as : List PV} {us : List Value}, CR w h N as us → CR w h N (as.drop n) (us.drop n)
  | 0, as, us, e => by simpa using e
  | n + 1, [], us, e => by simp only [CR] at e; subst e; simp [CR]
  | n + 1, c :: cs, us, e => by
    simp only [CR] at e
    obtain ⟨v, vs', rfl, h0, h1, h2⟩ := e
    simpa using CR.drop n h2
theorem CR.set {w : World} {h : Heap} {N : Nat} : ∀ (i : Nat) {as : List PV} {us : List Value} {c : PV} {v : Value}, CR w h N as us → v.oneCell' = true → VR w h N c v → CR w h N (as.set i c) (us.set i v)
  | i, [], us, c, v, e, ho, hv => by simp only [CR] at e; subst e; simp [CR]
  | 0, c0 :: cs, us, c, v, e, ho, hv => by
    simp only [CR] at e
    obtain ⟨v0, vs', rfl, h0, h1, h2⟩ := e
    simp only [List.set_cons_zero, CR]
    exact ⟨v, vs', rfl, ho, hv, h2⟩
  | i + 1, c0 :: cs, us, c, v, e, ho, hv => by
    simp only [CR] at e
    obtain ⟨v0, vs', rfl, h0, h1, h2⟩ := e
    simp only [List.set_cons_succ, CR]
    exact ⟨v0, _, rfl, h0, h1, CR.set i h2 ho hv⟩
theorem CR.one {w : World} {h : Heap} {N : Nat} {c : PV} {v : Value} (o : v.oneCell' = true) (e : VR w h N c v) : CR w h N [c] [v] := by
  simp only [CR]; exact ⟨v, [], rfl, o, e, rfl⟩
theorem CR.replicate {w : World} {h : Heap} {N : Nat} {c : PV} {v : Value} (o : v.oneCell' = true) (e : VR w h N c v) : ∀ n, CR w h N (List.replicate n c) (List.replicate n v)
  | 0 => by simp [CR]
  | n + 1 => by simp only [List.replicate_succ, CR]; exact ⟨v, _, rfl, o, e, CR.replicate o e n⟩

theorem CR.one_of {w : World} {h : Heap} {N : Nat} : ∀ {cs : List PV} {vs : List Value}, CR w h N cs vs → ∀ u ∈ vs, u.oneCell' = true
  | [], vs, e, u, hu => by simp only [CR] at e; subst e; cases hu
  | c :: cs, vs, e, u, hu => by
    simp only [CR] at e
    obtain ⟨v, vs', rfl, h0, h1, h2⟩ := e
    rcases List.mem_cons.1 hu with rfl | hu
    · exact h0
    · exact CR.one_of h2 u hu
theorem TR.length {w : World} {h : Heap} {N : Nat} : ∀ {cs : List PV} {vs : List Value}, TR w h N cs vs → cs.length = vs.length
  | [], vs, e => by simp only [TR] at e; simp [e]
  | c :: cs, vs, e => by
    simp only [TR] at e
    obtain ⟨v, vs', rfl, _, h2⟩ := e
    simp [TR.length h2]
theorem TR.get {w : World} {h : Heap} {N : Nat} : ∀ {cs : List PV} {vs : List Value} (i : Nat) {c : PV}, TR w h N cs vs → cs[i]? = some c → ∃ v, vs[i]? = some v ∧ VR w h N c v
  | [], vs, i, c, e, hi => by simp at hi
  | c0 :: cs, vs, i, c, e, hi => by
    simp only [TR] at e
    obtain ⟨v, vs', rfl, h1, h2⟩ := e
    cases i with
    | zero => simp at hi; subst hi; exact ⟨v, rfl, h1⟩
    | succ i => simp at hi ⊢; exact TR.get i h2 hi
theorem TR.append {w : World} {h : Heap} {N : Nat} : ∀ {as bs : List PV} {us vs : List Value}, TR w h N as us → TR w h N bs vs → TR w h N (as ++ bs) (us ++ vs)
  | [], bs, us, vs, e, e' => by simp only [TR] at e; subst e; simpa using e'
  | c :: cs, bs, us, vs, e, e' => by
    simp only [TR] at e
    obtain ⟨v, vs', rfl, h1, h2⟩ := e
    simp only [List.cons_append, TR]
    exact ⟨v, _, rfl, h1, TR.append h2 e'⟩
/-- The live blocks hold what the heap tells. -/
def WR (w : World) (h : Heap) (N : Nat) : Prop :=
  ∀ b cs, h.f b = some cs → ∃ cells e, w.heap[b]? = some (.cells cells e (0, 0)) ∧ cs.length ≤ cells.size ∧ CR w h N cs (cells.toList.take cs.length)

/-- From one world to a later one: what is not live stays as it is. -/
structure St (w : World) (h : Heap) (w' : World) (h' : Heap) : Prop where
  os : w'.os = w.os
  tape : w'.tape = w.tape
  output : w'.output = w.output
  size : w.heap.size ≤ w'.heap.size
  keep : ∀ b, b < w.heap.size → h.f b = none → w'.heap[b]? = w.heap[b]?
  dead : ∀ b, b < w.heap.size → h.f b = none → h'.f b = none
  shape : ∀ (b : Nat) (cells : Array Value) (e : TypeId) (fz : Nat × Nat), w.heap[b]? = some (Obj.cells cells e fz) → ∃ cells' fz', w'.heap[b]? = some (Obj.cells cells' e fz') ∧ cells'.size = cells.size

theorem St.refl (w : World) (h : Heap) : St w h w h := ⟨rfl, rfl, rfl, Nat.le_refl _, fun _ _ _ => rfl, fun _ _ e => e, fun _ c _ fz e => ⟨c, fz, e, rfl⟩⟩
theorem St.trans {w0 w1 w2 : World} {h0 h1 h2 : Heap} (a : St w0 h0 w1 h1) (b : St w1 h1 w2 h2) : St w0 h0 w2 h2 where
  os := b.os.trans a.os
  tape := b.tape.trans a.tape
  output := b.output.trans a.output
  size := Nat.le_trans a.size b.size
  keep x hx e := (b.keep x (Nat.lt_of_lt_of_le hx a.size) (a.dead x hx e)).trans (a.keep x hx e)
  dead x hx e := b.dead x (Nat.lt_of_lt_of_le hx a.size) (a.dead x hx e)
  shape x c e fz hx := by
    obtain ⟨c1, f1, h1, s1⟩ := a.shape x c e fz hx
    obtain ⟨c2, f2, h2, s2⟩ := b.shape x c1 e f1 h1
    exact ⟨c2, f2, h2, s2.trans s1⟩

theorem Mem.of_block {w w' : World} {b o : Nat} {vs : List Value} (hb : w'.heap[b]? = w.heap[b]?) (m : Mem w b o vs) : Mem w' b o vs := fun i v hi => by
  rw [← m i v hi]; simp [World.cell?, hb]
theorem Room.step {w w' : World} {b n : Nat} (hs : ∀ (b : Nat) (cells : Array Value) (e : TypeId) (fz : Nat × Nat), w.heap[b]? = some (Obj.cells cells e fz) → ∃ cells' fz', w'.heap[b]? = some (Obj.cells cells' e fz') ∧ cells'.size = cells.size) (r : Room w b n) : Room w' b n := by
  obtain ⟨c, e, fz, h1, h2⟩ := r
  obtain ⟨c', fz', h3, h4⟩ := hs b c e fz h1
  exact ⟨c', e, fz', h3, by omega⟩

/-- What a value's relation hangs on: old blocks that are not live read alike, and live ones keep their shape. -/
structure Kp (w : World) (h : Heap) (w' : World) (h' : Heap) : Prop where
  size : w.heap.size ≤ w'.heap.size
  keep : ∀ b, b < w.heap.size → h.f b = none → w'.heap[b]? = w.heap[b]?
  dead : ∀ b, b < w.heap.size → h.f b = none → h'.f b = none
  shape : ∀ (b : Nat) (cells : Array Value) (e : TypeId) (fz : Nat × Nat), w.heap[b]? = some (Obj.cells cells e fz) → ∃ cells' fz', w'.heap[b]? = some (Obj.cells cells' e fz') ∧ cells'.size = cells.size
theorem St.kp {w w' : World} {h h' : Heap} (s : St w h w' h') : Kp w h w' h' := ⟨s.size, s.keep, s.dead, s.shape⟩

mutual
theorem VR.step {w w' : World} {h h' : Heap} {N N' : Nat} (s : Kp w h w' h') (hN : N' ≤ N) : ∀ (c : PV) {v : Value}, VR w h N c v → VR w' h' N' c v
  | .int k n, v, e => by simpa only [VR] using e
  | .bool b, v, e => by simpa only [VR] using e
  | .str b, v, e => by simpa only [VR] using e
  | .nils, v, e => by simpa only [VR] using e
  | .nilp, v, e => by simpa only [VR] using e
  | .nilf, v, e => by simpa only [VR] using e
  | .undef, v, e => by simp only [VR]
  | .anyb, v, e => by simpa only [VR] using e
  | .ptr b o, v, e => by simpa only [VR] using e
  | .agg cs, v, e => by
    simp only [VR] at e ⊢
    obtain ⟨vs, rfl, h1⟩ := e
    exact ⟨vs, rfl, CR.step s hN cs h1⟩
  | .tup cs, v, e => by
    simp only [VR] at e ⊢
    obtain ⟨vs, rfl, h1⟩ := e
    exact ⟨vs, rfl, TR.step s hN cs h1⟩
  | .fn f first caps, v, e => by
    simp only [VR] at e ⊢
    obtain ⟨fs, cv, rfl, h1, h2⟩ := e
    exact ⟨fs, cv, rfl, TR.step s hN first h1, TR.step s hN caps h2⟩
  | .buf b E off n, v, e => by
    simp only [VR] at e ⊢
    obtain ⟨c, rfl, h1, h0, h2⟩ := e
    exact ⟨c, rfl, h1, h0, h2.step s.shape⟩
  | .list fr E n cs, v, e => by
    simp only [VR] at e ⊢
    obtain ⟨a, c, vs, rfl, h1, h2, h3, h4⟩ := e
    refine ⟨a, c, vs, rfl, h1, h2, CR.step s hN cs h3, ?_⟩
    rcases h4 with h4 | ⟨b, o, ha, hb, hd, hf, hm⟩
    · exact .inl h4
    · exact .inr ⟨b, o, ha, Nat.lt_of_lt_of_le hb s.size, s.dead b hb hd, fun q => Nat.le_trans hN (hf q), hm.of_block (s.keep b hb hd)⟩
  | .fptr fr cs off, v, e => by
    simp only [VR] at e ⊢
    obtain ⟨b, o, vs, rfl, hb, hd, hf, h3, hm⟩ := e
    exact ⟨b, o, vs, rfl, Nat.lt_of_lt_of_le hb s.size, s.dead b hb hd, fun q => Nat.le_trans hN (hf q), CR.step s hN cs h3, hm.of_block (s.keep b hb hd)⟩
theorem CR.step {w w' : World} {h h' : Heap} {N N' : Nat} (s : Kp w h w' h') (hN : N' ≤ N) : ∀ (cs : List PV) {vs : List Value}, CR w h N cs vs → CR w' h' N' cs vs
  | [], vs, e => by simpa only [CR] using e
  | c :: cs, vs, e => by
    simp only [CR] at e ⊢
    obtain ⟨v, vs', rfl, h0, h1, h2⟩ := e
    exact ⟨v, vs', rfl, h0, VR.step s hN c h1, CR.step s hN cs h2⟩
theorem TR.step {w w' : World} {h h' : Heap} {N N' : Nat} (s : Kp w h w' h') (hN : N' ≤ N) : ∀ (cs : List PV) {vs : List Value}, TR w h N cs vs → TR w' h' N' cs vs
  | [], vs, e => by simpa only [TR] using e
  | c :: cs, vs, e => by
    simp only [TR] at e ⊢
    obtain ⟨v, vs', rfl, h1, h2⟩ := e
    exact ⟨v, vs', rfl, VR.step s hN c h1, TR.step s hN cs h2⟩
end

mutual
/-- All flags of freshness off. -/
def PV.old : PV → PV
  | .agg cs => .agg (olds cs)
  | .tup cs => .tup (olds cs)
  | .list _ E n cs => .list false E n (olds cs)
  | .fptr _ cs o => .fptr false (olds cs) o
  | .fn f a b => .fn f (olds a) (olds b)
  | x => x
def olds : List PV → List PV
  | [] => []
  | c :: cs => c.old :: olds cs
end
theorem olds_eq : ∀ cs : List PV, olds cs = cs.map PV.old
  | [] => rfl
  | c :: cs => by simp [olds, olds_eq cs]

mutual
theorem VR.old {w : World} {h : Heap} {N N' : Nat} : ∀ (c : PV) {v : Value}, VR w h N c v → VR w h N' c.old v
  | .int k n, v, e => by simpa only [PV.old, VR] using e
  | .bool b, v, e => by simpa only [PV.old, VR] using e
  | .str b, v, e => by simpa only [PV.old, VR] using e
  | .nils, v, e => by simpa only [PV.old, VR] using e
  | .nilp, v, e => by simpa only [PV.old, VR] using e
  | .nilf, v, e => by simpa only [PV.old, VR] using e
  | .undef, v, e => by simp only [PV.old, VR]
  | .anyb, v, e => by simpa only [PV.old, VR] using e
  | .ptr b o, v, e => by simpa only [PV.old, VR] using e
  | .buf b E off n, v, e => by simpa only [PV.old, VR] using e
  | .agg cs, v, e => by
    simp only [PV.old, VR] at e ⊢
    obtain ⟨vs, rfl, h1⟩ := e
    exact ⟨vs, rfl, CR.olds cs h1⟩
  | .tup cs, v, e => by
    simp only [PV.old, VR] at e ⊢
    obtain ⟨vs, rfl, h1⟩ := e
    exact ⟨vs, rfl, TR.olds cs h1⟩
  | .fn f first caps, v, e => by
    simp only [PV.old, VR] at e ⊢
    obtain ⟨fs, cv, rfl, h1, h2⟩ := e
    exact ⟨fs, cv, rfl, TR.olds first h1, TR.olds caps h2⟩
  | .list fr E n cs, v, e => by
    simp only [PV.old, VR] at e ⊢
    obtain ⟨a, c, vs, rfl, h1, h2, h3, h4⟩ := e
    refine ⟨a, c, vs, rfl, h1, by rw [olds_eq, List.length_map]; exact h2, CR.olds cs h3, ?_⟩
    rcases h4 with h4 | ⟨b, o, ha, hb, hd, hf, hm⟩
    · exact .inl h4
    · exact .inr ⟨b, o, ha, hb, hd, (fun q => by cases q), hm⟩
  | .fptr fr cs off, v, e => by
    simp only [PV.old, VR] at e ⊢
    obtain ⟨b, o, vs, rfl, hb, hd, hf, h3, hm⟩ := e
    exact ⟨b, o, vs, rfl, hb, hd, (fun q => by cases q), CR.olds cs h3, hm⟩
theorem CR.olds {w : World} {h : Heap} {N N' : Nat} : ∀ (cs : List PV) {vs : List Value}, CR w h N cs vs → CR w h N' (Pm.olds cs) vs
  | [], vs, e => by simpa only [CR, Pm.olds] using e
  | c :: cs, vs, e => by
    simp only [CR, Pm.olds] at e ⊢
    obtain ⟨v, vs', rfl, h0, h1, h2⟩ := e
    exact ⟨v, vs', rfl, h0, VR.old c h1, CR.olds cs h2⟩
theorem TR.olds {w : World} {h : Heap} {N N' : Nat} : ∀ (cs : List PV) {vs : List Value}, TR w h N cs vs → TR w h N' (Pm.olds cs) vs
  | [], vs, e => by simpa only [TR, Pm.olds] using e
  | c :: cs, vs, e => by
    simp only [TR, Pm.olds] at e ⊢
    obtain ⟨v, vs', rfl, h1, h2⟩ := e
    exact ⟨v, vs', rfl, VR.old c h1, TR.olds cs h2⟩
end
end Go.Pm
