/-
  An abstract machine over pure values, part M: code told in short, and its rule.
  Conditions: none.
-/
import Derived.Test.YtcgaphmndnmfdaaGreatPmL
namespace Go.Pm
set_option linter.unusedVariables false
set_option linter.unusedSimpArgs false

/-- A step: the slot that is written, the operation, the slot of the guard and what it must be. -/
inductive PS where
  | mk (d : Option Nat) (op : Op) (g : Option (Nat × Bool))
  | frz (d : Nat)
  | frzc (d i : Nat)
inductive PC where
  | skip | ret
  | exit (id : Nat)
  | reg (dr : Bool) (l : List PS)
  | seq (a b : PC)
  | cond (c : Operand) (a b : PC)
  | block (id : Nat) (a : PC)
  | loop (a : PC)

def prepl (ops : Array Oper) : List Oper → Option (List PS)
  | [] => some []
  | o :: rest => match prepl ops rest with
    | none => none
    | some l => match o.guard with
      | none => some (.mk o.dst o.op none :: l)
      | some (g, want) => match (ops[g]?).bind (·.dst) with
        | some d => some (.mk o.dst o.op (some (d, want)) :: l)
        | none => none
def strip (n : Nat) (L : List Nat) : Code → Option PC
  | .skip => some .skip
  | .ret => some .ret
  | .exit id => some (.exit id)
  | .region _ ops dr => if okR n ops && (!dr || okDraw L ops) then (prepl ops ops.toList).map (.reg dr) else none
  | .seq a b => match strip n L a, strip n L b with
    | some x, some y => some (.seq x y)
    | _, _ => none
  | .cond c a b => if okOp n c then match strip n L a, strip n L b with
    | some x, some y => some (.cond c x y)
    | _, _ => none else none
  | .block id a => (strip n L a).map (.block id)
  | .loop a => (strip n L a).map .loop
  | _ => none

/-- What is told without the proof's own steps ('frz': from here on a live block is only read). -/
def eraS : List PS → List PS
  | [] => []
  | .frz _ :: l => eraS l
  | .frzc _ _ :: l => eraS l
  | .mk d op g :: l => .mk d op g :: eraS l
def PC.era : PC → PC
  | .skip => .skip
  | .ret => .ret
  | .exit id => .exit id
  | .reg dr l => .reg dr (eraS l)
  | .seq a b => .seq a.era b.era
  | .cond c a b => .cond c a.era b.era
  | .block id a => .block id a.era
  | .loop a => .loop a.era
/-- A live block that is only read from here on. -/
def frzV (h : Heap) : PV → Option (PV × Option Nat)
  | .ptr b off => (h.f b).map fun cs => (.fptr false (olds cs) off, some b)
  | .buf b E off n => match h.f b with
    | some cs => if off + n * E ≤ cs.length then some (.list false E n (olds ((cs.drop off).take (n * E))), some b) else none
    | none => none
  | .list fr E n cs => some (.list fr E n cs, none)
  | .nils => some (.nils, none)
  | _ => none
/-- A live row that a cell of a live block holds is only read from here on. -/
def frzC (h : Heap) (p : PV) (i : Nat) : Option (Nat × Nat × List PV) := match p with
  | .ptr b off => match h.f b with
    | some cs => match cs[off + i]? with
      | some c => match frzV h c with
        | some (v, some m) => if m = b then none else some (b, m, cs.set (off + i) v)
        | _ => none
      | none => none
    | none => none
  | _ => none
def Heap.killO (h : Heap) : Option Nat → Heap
  | some b => h.kill b
  | none => h


/-- One step's rule. `live`: what is made is to live. -/
def pv0 (P : Program) (dr live : Bool) (o : Op) (σ : Sl) (h : Heap) (K : PV → Heap → Prop) : Prop :=
  match o with
  | .box t x => ∃ cs, flat (ev σ x) = some cs ∧ if live then (dr = false ∧ ∀ b, h.f b = none → K (.ptr b 0) (h.set b cs)) else K (.fptr true cs 0) h
  | .alloc t => ∃ z, zc P t = some z ∧ if live then ∀ b, h.f b = none → K (.ptr b 0) (h.set b z) else K (.fptr true z 0) h
  | .buildSlice t n ps => ∃ r, bsl P t n (ps.toList.map fun p => (p.1, ev σ p.2)) = some r ∧
      if live then (dr = false ∧ ∀ b, h.f b = none → K (.buf b r.1 0 n) (h.set b r.2)) else K (.list true r.1 n r.2) h
  | .call ⟨.value f, args, _⟩ => match ev σ f with
    | .fn g first caps => if dr then (if live then ∃ S : PV → Heap → Prop, (∃ v h', S v h') ∧ CanP P g (first ++ args.toList.map (ev σ) ++ caps) h S ∧ ∀ v h', S v h' → K v h' else ∃ r, CanP P g (first ++ args.toList.map (ev σ) ++ caps) h (fun r' h' => r' = r ∧ h' = h) ∧ K r h) else CanP P g (first ++ args.toList.map (ev σ) ++ caps) h K
    | _ => False
  | .load t a => (dr = true → live = true → ∃ fr cs off, ev σ a = .fptr fr cs off) ∧ popv P (.load t a) σ h K
  | o => popv P o σ h K
section
variable {P : Program} {L : List Nat} {n : Nat}
theorem pv0_popv {live : Bool} {o : Op} {σ : Sl} {h : Heap} {K : PV → Heap → Prop} (hp : pv0 P false live o σ h K) : popv P o σ h K := by
  unfold pv0 at hp
  split at hp
  · obtain ⟨cs, e, q⟩ := hp
    refine ⟨cs, e, ?_⟩
    split at q
    · exact .inr q.2
    · exact .inl q
  · obtain ⟨cs, e, q⟩ := hp
    refine ⟨cs, e, ?_⟩
    split at q
    · exact .inr q
    · exact .inl q
  · obtain ⟨cs, e, q⟩ := hp
    refine ⟨cs, e, ?_⟩
    split at q
    · exact .inr q.2
    · exact .inl q
  · unfold popv
    simp only at hp ⊢
    exact hp
  · exact hp.2
  · exact hp
theorem pv0_popD {live : Bool} {o : Op} {σ : Sl} {h : Heap} {K : PV → Heap → Prop} (hp : pv0 P true live o σ h K) : popD P live o σ h K := by
  unfold pv0 at hp
  split at hp
  · obtain ⟨cs, e, q⟩ := hp
    split at q
    · cases q.1
    · exact ⟨_, by simp only [dD, e, Option.map_some], q⟩
  · obtain ⟨cs, e, q⟩ := hp
    obtain ⟨b0, hb0⟩ := h.fresh
    split at q
    · exact ⟨⟨_, _, q b0 hb0⟩, cs, e, .inr q⟩
    · exact ⟨⟨_, _, q⟩, cs, e, .inl q⟩
  · obtain ⟨r, e, q⟩ := hp
    split at q
    · cases q.1
    · exact ⟨_, by simp only [dD, e, Option.map_some], q⟩
  · rename_i f args ts
    split at hp
    · rename_i g first caps hf
      simp only [if_true] at hp
      cases live with
      | true =>
        simp only [if_true] at hp
        obtain ⟨S, ⟨v, h', q1⟩, q2, q3⟩ := hp
        refine ⟨⟨v, h', q3 _ _ q1⟩, ?_⟩
        unfold popv
        simp only [hf]
        exact q2.mono q3
      | false =>
        simp only [Bool.false_eq_true, if_false] at hp
        obtain ⟨r, q1, q2⟩ := hp
        exact ⟨r, by simp only [rD, hf]; exact q1, q2⟩
    · exact hp.elim
  · rename_i t a
    obtain ⟨q, v, e, k⟩ := hp
    cases live with
    | true =>
      obtain ⟨fr, cs, off, hx⟩ := q rfl rfl
      exact ⟨v, by simp only [dD, hx]; rw [hx] at e; exact e, k⟩
    | false => exact ⟨v, e, k⟩
  · rename_i h1 h2 h3 h4 h5
    unfold popD
    cases hc : cls live o <;> simp only
    · unfold popv at hp
      split at hp <;> first | exact (h1 _ _ rfl).elim | exact (h2 _ rfl).elim | exact (h3 _ _ _ rfl).elim | exact (h4 _ _ _ rfl).elim | exact (h5 _ _ rfl).elim | (simp [cls] at hc; done) | skip
      obtain ⟨v, e, q⟩ := hp
      refine ⟨v, ?_, q⟩
      unfold dD
      split <;> first | exact (h1 _ _ rfl).elim | exact (h3 _ _ _ rfl).elim | exact (h5 _ _ rfl).elim | exact e
    · unfold popv at hp
      split at hp <;> first | exact (h1 _ _ rfl).elim | exact (h2 _ rfl).elim | exact (h3 _ _ _ rfl).elim | exact (h4 _ _ _ rfl).elim | exact (h5 _ _ rfl).elim | (simp [cls] at hc; done) | skip
    · exact hp
    · exact ⟨popv_some (.inl hc) (fun f a t e => (h4 f a t e).elim) hp, hp⟩

end

def und (P : Program) (t : TypeId) : Bool := (P.underlying t).isSome
def ik (P : Program) (t : TypeId) : Option IntKind := match P.underlying t with | some (.int k) => some k | _ => none
def esz (P : Program) (t : TypeId) : Option Nat := (elt P t).bind (tsz P)
/-- 0: a string, 1: a slice, 2: a pointer, 3: a bool; what a comparison, a length, a cut ask. -/
def kd (P : Program) (t : TypeId) : Option Nat := match P.underlying t with
  | some .string => some 0 | some (.slice _) => some 1 | some (.pointer _) => some 2 | some .bool => some 3 | some (.struct _) => if eqt P t then (tsz P t).map (fun n => 2 * n + 10) else none | some (.array _ _) => if eqtB P t then (tsz P t).map (fun n => 2 * n + 11) else if eqtI P t then (tsz P t).map (fun n => 2 * n + 10) else none | _ => none
/-- An array's length, its elements' size, whether they are rows. -/
def ars (P : Program) (t : TypeId) : Option (Nat × Nat × Bool) := match arr P t with
  | some (n, e) => match tsz P e, tag P e with | some s, some g => some (n, s, g) | _, _ => none
  | none => none

/-- What comes next: kept as data, so that nothing is worked out before its value stands. -/
abbrev Kt := PV → Heap → Prop
def pickK (c a b : PV) (K : Kt) (h : Heap) : Prop := match c with | .bool t => K (if t then a else b) h | _ => False
def nilK (x : PV) (K : Kt) (h : Heap) : Prop := match x with | .ptr b o => K (.ptr b o) h | .fptr fr cs o => K (.fptr fr cs o) h | _ => False
def cvK (u : Bool) (k : Option IntKind) (x : PV) (K : Kt) (h : Heap) : Prop := match u, k, x with | true, some k, .int _ n => K (.int k (k.wrap n)) h | _, _, _ => False
def faK (r : Option (Nat × Bool × Nat)) (x : PV) (K : Kt) (h : Heap) : Prop := match r, x with
  | some (o, _, n), .ptr b off => n ≠ 0 ∧ K (.ptr b (off + o)) h
  | some (o, _, n), .fptr fr cs off => n ≠ 0 ∧ K (.fptr fr cs (off + o)) h
  | _, _ => False
def getK (o : Bool) (x : Option PV) (K : Kt) (h : Heap) : Prop := match x with | some v => K (if o then v.old else v) h | none => False
def ldvK (o : Bool) (g : Bool) (n : Nat) (cs : List PV) (off : Nat) (K : Kt) (h : Heap) : Prop := match g with
  | true => off + n ≤ cs.length ∧ K (if o then (PV.agg ((cs.drop off).take n)).old else .agg ((cs.drop off).take n)) h
  | false => getK o cs[off]? K h
def fdK (r : Option (Nat × Bool × Nat)) (x : PV) (K : Kt) (h : Heap) : Prop := match r, x with
  | some (o, g, n), .agg cs => ldvK false g n cs o K h
  | _, _ => False
def ixaK (e : Option Nat) (r : Option (Nat × Nat × Bool)) (x i : PV) (K : Kt) (h : Heap) : Prop := match x, i with
  | .list fr E n cs, .int _ j => e = some E ∧ 0 ≤ j ∧ j < n ∧ K (.fptr fr cs (j.toNat * E)) h
  | .buf b E off n, .int _ j => e = some E ∧ 0 ≤ j ∧ j < n ∧ K (.ptr b (off + j.toNat * E)) h
  | .ptr b off, .int _ j => match r with | some (n, E, _) => 0 ≤ j ∧ j < n ∧ K (.ptr b (off + j.toNat * E)) h | none => False
  | .fptr fr cs off, .int _ j => match r with | some (n, E, _) => 0 ≤ j ∧ j < n ∧ K (.fptr fr cs (off + j.toNat * E)) h | none => False
  | _, _ => False
def ixvK (r : Option (Nat × Nat × Bool)) (k : Option Nat) (x i : PV) (K : Kt) (h : Heap) : Prop := match x, i with
  | .agg cs, .int _ j => match r with | some (n, E, g) => 0 ≤ j ∧ j < n ∧ ldvK false g E cs (j.toNat * E) K h | none => False
  | .str s, .int _ j => k = some 0 ∧ 0 ≤ j ∧ getK false (s[j.toNat]?.map fun b => .int .u8 b.toNat) K h
  | _, _ => False
def slcK (k : Option Nat) (e : Option Nat) (x : PV) (lo hi : Option PV) (K : Kt) (h : Heap) : Prop := match x with
  | .str s => k = some 0 ∧ ∃ p, cutB s.size lo hi = some p ∧ K (.str (s.extract p.1 p.2)) h
  | .nils => e.isSome = true ∧ ∃ p, cutB 0 lo hi = some p ∧ K .nils h
  | .list fr E n cs => e = some E ∧ ∃ p, cutB n lo hi = some p ∧ K (.list fr E (p.2 - p.1) ((cs.drop (p.1 * E)).take ((p.2 - p.1) * E))) h
  | .buf b E off n => e = some E ∧ ∃ p, cutB n lo hi = some p ∧ K (if p.1 = 0 then .buf b E off p.2 else if p.1 < p.2 then .buf b E (off + p.1 * E) (p.2 - p.1) else .list true E 0 []) h
  | _ => False
def extK (x : PV) (i : Nat) (K : Kt) (h : Heap) : Prop := match x with | .tup cs => getK false cs[i]? K h | _ => False
def lenK (k : Option Nat) (x : PV) (K : Kt) (h : Heap) : Prop := match x with
  | .str s => k = some 0 ∧ K (.int .i64 s.size) h
  | .nils => k = some 1 ∧ K (.int .i64 0) h
  | .list _ _ n _ => k = some 1 ∧ K (.int .i64 n) h
  | .buf _ _ _ n => k = some 1 ∧ K (.int .i64 n) h
  | _ => False
def notK (x : PV) (K : Kt) (h : Heap) : Prop := match x with | .bool b => K (.bool !b) h | _ => False
def negK (x : PV) (K : Kt) (h : Heap) : Prop := match x with | .int k n => K (.int k (k.wrap (0 - n))) h | _ => False
/-- Arithmetic and comparisons of two integers of one kind. -/
def intK (op : BinOp) (x y : PV) (K : Kt) (h : Heap) : Prop := match x, y with
  | .int k a, .int k' b => k = k' ∧ match op with
    | .add => K (.int k (k.wrap (a + b))) h
    | .sub => K (.int k (k.wrap (a - b))) h
    | .mul => K (.int k (k.wrap (a * b))) h
    | .quo => b ≠ 0 ∧ K (.int k (k.wrap (a.tdiv b))) h
    | .rem => b ≠ 0 ∧ K (.int k (a.tmod b)) h
    | .and => K (.int k (k.wrap (BitVec.ofInt k.bits a &&& BitVec.ofInt k.bits b).toNat)) h
    | .lss => K (.bool (decide (a < b))) h
    | .leq => K (.bool (decide (a ≤ b))) h
    | .gtr => K (.bool (decide (b < a))) h
    | .geq => K (.bool (decide (b ≤ a))) h
    | _ => False
  | _, _ => False
def shlK (x y : PV) (K : Kt) (h : Heap) : Prop := match x, y with
  | .int k a, .int _ b => 0 ≤ b ∧ K (.int k (k.wrap (a * 2 ^ (min b.toNat k.bits)))) h
  | _, _ => False
def shrK (x y : PV) (K : Kt) (h : Heap) : Prop := match x, y with
  | .int k a, .int _ b => 0 ≤ b ∧ K (.int k (a.fdiv (2 ^ (min b.toNat k.bits)))) h
  | _, _ => False
/-- Equality: of integers, bools, strings, of pointers and slices with nil. -/
def cqK (r : Option Bool) (neg : Bool) (K : Kt) (h : Heap) : Prop := match r with | some r => K (.bool (if neg then !r else r)) h | none => False
def eqK (t : Option Nat) (neg : Bool) (x y : PV) (K : Kt) (h : Heap) : Prop := match x, y with
  | .int k a, .int k' b => k = k' ∧ K (.bool (if neg then !decide (a = b) else decide (a = b))) h
  | .bool a, .bool b => t = some 3 ∧ K (.bool (if neg then !(a == b) else a == b)) h
  | .str a, .str b => K (.bool (if neg then !(a.toList == b.toList) else a.toList == b.toList)) h
  | .agg a, .agg b => (t = some (2 * a.length + 10) ∧ cqK (ceq a b) neg K h) ∨ (t = some (2 * a.length + 11) ∧ cqK (ceqB a b) neg K h)
  | .nilp, .nilp => t = some 2 ∧ K (.bool !neg) h
  | .ptr _ _, .nilp => t = some 2 ∧ K (.bool neg) h
  | .fptr _ _ _, .nilp => t = some 2 ∧ K (.bool neg) h
  | .nils, .nils => t = some 1 ∧ K (.bool !neg) h
  | .buf _ _ _ _, .nils => t = some 1 ∧ K (.bool neg) h
  | .list _ _ n _, .nils => t = some 1 ∧ if n = 0 then K .anyb h else K (.bool neg) h
  | _, _ => False
def minK (xs : List PV) (K : Kt) (h : Heap) : Prop := match xs with | [.int k a, .int _ b] => K (.int k (if b < a then b else a)) h | _ => False
def maxK (xs : List PV) (K : Kt) (h : Heap) : Prop := match xs with | [.int k a, .int _ b] => K (.int k (if a < b then b else a)) h | _ => False
def ldhK (x : Option (List PV)) (g : Bool) (n off : Nat) (K : Kt) (h : Heap) : Prop := match x with | some cs => ldvK true g n cs off K h | none => False
def ldK (g : Option Bool) (n : Option Nat) (h : Heap) (p : PV) (K : Kt) : Prop := match g, n, p with
  | some g, some n, .fptr _ cs off => ldvK false g n cs off K h
  | some g, some n, .ptr b off => ldhK (h.f b) g n off K h
  | _, _, _ => False
/-- A load: in a region that draws its order, one that is marked is from what nobody writes. -/
def lzK (dr live : Bool) (g : Option Bool) (n : Option Nat) (h : Heap) (p : PV) (K : Kt) : Prop := if dr && live then (match p with | .fptr fr cs off => ldK g n h (.fptr fr cs off) K | _ => False) else ldK g n h p K
def sthK (x : Option (List PV)) (new : Option (List PV)) (n b off : Nat) (K : Kt) (h : Heap) : Prop := match x, new with
  | some cs, some new => new.length = n ∧ off + n ≤ cs.length ∧ K .undef (h.set b (wr cs off new))
  | _, _ => False
def stK (n : Option Nat) (h : Heap) (p x : PV) (K : Kt) : Prop := match p, n with
  | .ptr b off, some n => sthK (h.f b) (flat x) n b off K h
  | _, _ => False
def bl2K (x : Option (List PV)) (K : Kt) (h : Heap) : Prop := match x with | some cs => K (.agg cs) h | none => False
def bldK (pl : Option (Nat → Option (Nat × Nat))) (z : Option (List PV)) (ps : List (Nat × PV)) (K : Kt) (h : Heap) : Prop := match pl, z with
  | some pl, some z => bl2K (pfill pl z ps) K h
  | _, _ => False
def boxK (live dr : Bool) (h : Heap) (cs : Option (List PV)) (K : Kt) : Prop := match cs with
  | some cs => if live then dr = false ∧ ∀ b, h.f b = none → K (.ptr b 0) (h.set b cs) else K (.fptr true cs 0) h
  | none => False
def litK (live dr : Bool) (h : Heap) (n : Nat) (r : Option (Nat × List PV)) (K : Kt) : Prop := match r with
  | some r => if live then dr = false ∧ ∀ b, h.f b = none → K (.buf b r.1 0 n) (h.set b r.2) else K (.list true r.1 n r.2) h
  | none => False
def mkK (r : Option (Nat × Nat × List PV)) (h : Heap) (l c : PV) (K : Kt) : Prop := match r, l, c with
  | some r, .int _ nl, .int _ nc => 0 ≤ nl ∧ nl ≤ nc ∧ (r.2.1 : Int) * nc ≤ 281474976710656 ∧ nc ≤ 9223372036854775807 ∧ ∀ b, h.f b = none → K (.buf b r.1 0 nl.toNat) (h.set b (rep nl.toNat r.2.2))
  | _, _, _ => False
/-- An append to nil of `m` elements. -/
def apnK (m E : Nat) (new : List PV) (K : Kt) (h : Heap) : Prop := if m = 0 then K .nils h else ∀ b, h.f b = none → K (.buf b E 0 m) (h.set b new)
/-- An append to a live row. -/
def apbK (x : Option (List PV)) (b E n m : Nat) (new : List PV) (K : Kt) (h : Heap) : Prop := match x with
  | some cs => n * E ≤ cs.length ∧ ∀ b', (b' = b ∨ h.f b' = none) → K (.buf b' E 0 (n + m)) ((h.kill b).set b' (cs.take (n * E) ++ new))
  | none => False
def ap2K (x : Option (Nat × List PV)) (E bytes : Nat) (s : PV) (K : Kt) (h : Heap) : Prop := match x, s with
  | some (m, new), .nils => m * bytes ≤ 140737488355328 ∧ m ≤ maxLen ∧ apnK m E new K h
  | some (m, new), .buf b E' off n => E' = E ∧ off = 0 ∧ (n + m) * bytes ≤ 140737488355328 ∧ n + m ≤ maxLen ∧ apbK (h.f b) b E n m new K h
  | _, _ => False
def appK (r : Option (Nat × Nat × List PV)) (P : Program) (tx : TypeId) (h : Heap) (s x : PV) (K : Kt) : Prop := match r with
  | some r => ap2K (srcv P h r.1 tx x) r.1 r.2.1 s K h
  | none => False
/-- The capacity of what is nil. -/
def capK (e : Option Nat) (x : PV) (K : Kt) (h : Heap) : Prop := match e, x with | some _, .nils => K (.int .i64 0) h | _, _ => False
/-- A copy. -/
def cp3K (x : Option (List PV)) (b off n m E : Nat) (new : List PV) (K : Kt) (h : Heap) : Prop := match x with
  | some cs => off + n * E ≤ cs.length ∧ K (.int .i64 (min m n : Nat)) (h.set b (wr cs off (new.take (min m n * E))))
  | none => False
def cp2K (s : Option (Nat × List PV)) (E : Nat) (d : PV) (K : Kt) (h : Heap) : Prop := match s, d with
  | some _, .nils => K (.int .i64 0) h
  | some _, .list _ _ n _ => n = 0 ∧ K (.int .i64 0) h
  | some (m, new), .buf b E' off n => E' = E ∧ new.length = m * E ∧ cp3K (h.f b) b off n m E new K h
  | _, _ => False
def copK (e : Option Nat) (P : Program) (tx : TypeId) (h : Heap) (d x : PV) (K : Kt) : Prop := match e with
  | some E => cp2K (srcv P h E tx x) E d K h
  | none => False
def callK (P : Program) (dr live : Bool) (f : PV) (args : List PV) (h : Heap) (K : Kt) : Prop := match f with
  | .fn g first caps => if dr then (if live then ∃ S : PV → Heap → Prop, (∃ v h', S v h') ∧ CanP P g (first ++ args ++ caps) h S ∧ ∀ v h', S v h' → K v h' else ∃ r, CanP P g (first ++ args ++ caps) h (fun r' h' => r' = r ∧ h' = h) ∧ K r h) else CanP P g (first ++ args ++ caps) h K
  | _ => False

/-- One step's rule, as the simplifier takes it. -/
def pv (P : Program) (dr live : Bool) (o : Op) (σ : Sl) (h : Heap) (K : Kt) : Prop :=
  match o with
  | .move x => K (ev σ x) h
  | .assign x => K (ev σ x) h
  | .pick c a b => pickK (ev σ c) (ev σ a) (ev σ b) K h
  | .nilCheck x => nilK (ev σ x) K h
  | .convert s d x => cvK (und P s) (ik P d) (ev σ x) K h
  | .fieldAddr t x f => faK (fld P t f) (ev σ x) K h
  | .field t x f => fdK (fld P t f) (ev σ x) K h
  | .indexAddr t x i => ixaK (esz P t) (ars P t) (ev σ x) (ev σ i) K h
  | .index t x i => ixvK (ars P t) (kd P t) (ev σ x) (ev σ i) K h
  | .slice t x lo hi none => slcK (kd P t) (esz P t) (ev σ x) (lo.map (ev σ)) (hi.map (ev σ)) K h
  | .extract x i => extK (ev σ x) i K h
  | .unOp .not _ x => notK (ev σ x) K h
  | .unOp .neg _ x => negK (ev σ x) K h
  | .binOp .eql t x y _ => eqK (kd P t) false (ev σ x) (ev σ y) K h
  | .binOp .neq t x y _ => eqK (kd P t) true (ev σ x) (ev σ y) K h
  | .binOp .shl _ x y _ => shlK (ev σ x) (ev σ y) K h
  | .binOp .shr _ x y _ => shrK (ev σ x) (ev σ y) K h
  | .binOp op _ x y _ => intK op (ev σ x) (ev σ y) K h
  | .makeFunc (.func f) first caps => K (.fn f (first.toList.map (ev σ)) (caps.toList.map (ev σ))) h
  | .build t ps => bldK (plc P t) (zc P t) (ps.toList.map fun p => (p.1, ev σ p.2)) K h
  | .load t a => lzK dr live (tag P t) (tsz P t) h (ev σ a) K
  | .store t a x => stK (tsz P t) h (ev σ a) (ev σ x) K
  | .box t x => boxK live dr h (flat (ev σ x)) K
  | .alloc t => boxK live false h (zc P t) K
  | .buildSlice t n ps => litK live dr h n (bsl P t n (ps.toList.map fun p => (p.1, ev σ p.2))) K
  | .makeSlice t l c => mkK (eli P t) h (ev σ l) (ev σ c) K
  | .call ⟨.value f, args, _⟩ => callK P dr live (ev σ f) (args.toList.map (ev σ)) h K
  | .call ⟨.builtin .len, args, ts⟩ => match ts.toList, args.toList with
    | [t], [x] => lenK (kd P t) (ev σ x) K h
    | _, _ => False
  | .call ⟨.builtin .cap, args, ts⟩ => match ts.toList, args.toList with
    | [t], [x] => capK (esz P t) (ev σ x) K h
    | _, _ => False
  | .call ⟨.builtin .min, args, _⟩ => minK (args.toList.map (ev σ)) K h
  | .call ⟨.builtin .max, args, _⟩ => maxK (args.toList.map (ev σ)) K h
  | .call ⟨.builtin .append, args, ts⟩ => match args.toList, ts.toList with
    | [s, x], [t, tx] => appK (eli P t) P tx h (ev σ s) (ev σ x) K
    | _, _ => False
  | .call ⟨.builtin .copy, args, ts⟩ => match args.toList, ts.toList with
    | [d, x], [t, tx] => copK (esz P t) P tx h (ev σ d) (ev σ x) K
    | _, _ => False
  | _ => False

section
variable {P : Program} {dr live : Bool} {σ : Sl} {h : Heap} {K : PV → Heap → Prop}
theorem getK_ex {x : Option PV} {K : Kt} {h : Heap} (q : getK false x K h) : ∃ v, x = some v ∧ K v h := by
  unfold getK at q
  split at q
  · exact ⟨_, rfl, by simpa using q⟩
  · exact q.elim
theorem getK_old {x : Option PV} {K : Kt} {h : Heap} (q : getK true x K h) : ∃ v, x = some v ∧ K v.old h := by
  unfold getK at q
  split at q
  · exact ⟨_, rfl, by simpa using q⟩
  · exact q.elim
theorem ldvK_ex {g : Bool} {n : Nat} {cs : List PV} {off : Nat} {K : Kt} {h : Heap} (q : ldvK false g n cs off K h) : ∃ v, ldv g n cs off = some v ∧ K v h := by
  cases g with
  | true => simp only [ldvK] at q; exact ⟨_, by (simp only [ldv, if_true, if_pos q.1] <;> rfl), by simpa using q.2⟩
  | false => simp only [ldvK] at q; obtain ⟨v, q1, q2⟩ := getK_ex q; exact ⟨v, by simp [ldv, q1], q2⟩
theorem ldvK_old {g : Bool} {n : Nat} {cs : List PV} {off : Nat} {K : Kt} {h : Heap} (q : ldvK true g n cs off K h) : ∃ v, ldv g n cs off = some v ∧ K v.old h := by
  cases g with
  | true => simp only [ldvK] at q; exact ⟨_, by (simp only [ldv, if_true, if_pos q.1] <;> rfl), by simpa using q.2⟩
  | false => simp only [ldvK] at q; obtain ⟨v, q1, q2⟩ := getK_old q; exact ⟨v, by simp [ldv, q1], q2⟩
theorem fld_tag {t : TypeId} {f : Nat} {r : Nat × Bool × Nat} (e : fld P t f = some r) : fld P t f = some (r.1, r.2.1, r.2.2) := e
theorem ars_spec {t : TypeId} {n E : Nat} {g : Bool} (e : ars P t = some (n, E, g)) : ∃ el, arr P t = some (n, el) ∧ tsz P el = some E ∧ tag P el = some g := by
  unfold ars at e
  split at e
  · rename_i n' el ha
    split at e
    · rename_i s g' hs hg
      cases e
      exact ⟨el, ha, hs, hg⟩
    · cases e
  · cases e
theorem kd_str {t : TypeId} (e : kd P t = some 0) : P.underlying t = some .string := by
  unfold kd at e; split at e <;> first | assumption | (simp at e; done) | (exfalso; revert e; split <;> (try split) <;> simp <;> intros <;> omega) | (exfalso; revert e; split <;> (try split) <;> simp)
theorem kd_slice {t : TypeId} (e : kd P t = some 1) : ∃ el, P.underlying t = some (.slice el) := by
  unfold kd at e; split at e <;> first | exact ⟨_, by assumption⟩ | (simp at e; done) | (exfalso; revert e; split <;> (try split) <;> simp <;> intros <;> omega) | (exfalso; revert e; split <;> (try split) <;> simp)
theorem kd_ptr {t : TypeId} (e : kd P t = some 2) : ∃ el, P.underlying t = some (.pointer el) := by
  unfold kd at e; split at e <;> first | exact ⟨_, by assumption⟩ | (simp at e; done) | (exfalso; revert e; split <;> (try split) <;> simp <;> intros <;> omega) | (exfalso; revert e; split <;> (try split) <;> simp)
theorem kd_bool {t : TypeId} (e : kd P t = some 3) : P.underlying t = some .bool := by
  unfold kd at e; split at e <;> first | assumption | (simp at e; done) | (exfalso; revert e; split <;> (try split) <;> simp <;> intros <;> omega) | (exfalso; revert e; split <;> (try split) <;> simp)
theorem kd_agg {t : TypeId} {n : Nat} (e : kd P t = some (2 * n + 10)) : (eqt P t || eqtI P t) = true ∧ tsz P t = some n := by
  unfold kd at e; split at e <;> first
    | (simp at e; done)
    | (simp at e; omega)
    | (split at e
       · rename_i h
         cases ht : tsz P t with
         | none => simp [ht] at e
         | some m => simp [ht] at e; first | (exfalso; omega) | exact ⟨by rw [h]; rfl, by simp; omega⟩
       · first
         | cases e
         | (split at e
            · rename_i h
              cases ht : tsz P t with
              | none => simp [ht] at e
              | some m => simp [ht] at e; exact ⟨by rw [h]; simp, by simp; omega⟩
            · cases e))
theorem kd_aggB {t : TypeId} {n : Nat} (e : kd P t = some (2 * n + 11)) : eqtB P t = true ∧ (eqt P t || eqtI P t) = false ∧ tsz P t = some n := by
  have no : eqtB P t = true → eqt P t = false ∧ eqtI P t = false := fun hb => by
    unfold eqtB at hb; unfold eqt eqtI
    cases hu : P.underlying t with
    | none => simp [hu] at hb
    | some d =>
      cases d <;> simp [hu] at hb
      rename_i m el
      cases hv : P.underlying el with
      | none => simp [hv] at hb
      | some d => cases d <;> simp_all
  unfold kd at e; split at e <;> first
    | (simp at e; done)
    | (simp at e; omega)
    | (split at e
       · rename_i h
         cases ht : tsz P t with
         | none => simp [ht] at e
         | some m => simp [ht] at e; first | (exfalso; omega) | exact ⟨h, by rw [(no h).1, (no h).2]; rfl, by simp; omega⟩
       · first
         | cases e
         | (split at e
            · cases ht : tsz P t with
              | none => simp [ht] at e
              | some m => simp [ht] at e; omega
            · cases e))
theorem eqK_ex {t : TypeId} {neg : Bool} {x y : PV} {K : Kt} {h : Heap} (q : eqK (kd P t) neg x y K h) : ∃ v, bin P (if neg then .neq else .eql) t x y = some v ∧ K v h := by
  unfold eqK at q
  split at q
  · obtain ⟨rfl, q⟩ := q
    cases neg
    · exact ⟨_, by (simp only [bin, if_true, if_false, Bool.false_eq_true] <;> rfl), q⟩
    · exact ⟨_, by (simp only [bin, if_true, if_false, Bool.false_eq_true] <;> rfl), q⟩
  · obtain ⟨e, q⟩ := q
    have := kd_bool e
    cases neg <;> exact ⟨_, by (simp only [bin, this, if_true, if_false, Bool.false_eq_true] <;> rfl), by simpa using q⟩
  · cases neg <;> exact ⟨_, by (simp only [bin, if_true, if_false, Bool.false_eq_true] <;> rfl), by simpa using q⟩
  · rcases q with ⟨e, q⟩ | ⟨e, q⟩
    · obtain ⟨h1, h2⟩ := kd_agg e
      unfold cqK at q
      split at q
      · rename_i r hr
        cases neg <;> exact ⟨_, by (simp only [bin, h1, h2, hr, if_true, if_false, Bool.false_eq_true] <;> rfl), by simpa using q⟩
      · exact q.elim
    · obtain ⟨h1, h0, h2⟩ := kd_aggB e
      unfold cqK at q
      split at q
      · rename_i r hr
        cases neg <;> exact ⟨_, by (simp only [bin, h0, h1, h2, hr, if_true, if_false, Bool.false_eq_true] <;> rfl), by simpa using q⟩
      · exact q.elim
  · obtain ⟨e, q⟩ := q
    obtain ⟨el, this⟩ := kd_ptr e
    cases neg <;> exact ⟨_, by (simp only [bin, this, if_true, if_false, Bool.false_eq_true] <;> rfl), by simpa using q⟩
  · obtain ⟨e, q⟩ := q
    obtain ⟨el, this⟩ := kd_ptr e
    cases neg <;> exact ⟨_, by (simp only [bin, this, if_true, if_false, Bool.false_eq_true] <;> rfl), by simpa using q⟩
  · obtain ⟨e, q⟩ := q
    obtain ⟨el, this⟩ := kd_ptr e
    cases neg <;> exact ⟨_, by (simp only [bin, this, if_true, if_false, Bool.false_eq_true] <;> rfl), by simpa using q⟩
  · obtain ⟨e, q⟩ := q
    obtain ⟨el, this⟩ := kd_slice e
    cases neg <;> exact ⟨_, by (simp only [bin, this, if_true, if_false, Bool.false_eq_true] <;> rfl), by simpa using q⟩
  · obtain ⟨e, q⟩ := q
    obtain ⟨el, this⟩ := kd_slice e
    cases neg <;> exact ⟨_, by (simp only [bin, this, if_true, if_false, Bool.false_eq_true] <;> rfl), by simpa using q⟩
  · obtain ⟨e, q⟩ := q
    obtain ⟨el, this⟩ := kd_slice e
    split at q
    · rename_i hn
      cases neg <;> exact ⟨_, by (simp only [bin, this, if_true, if_false, Bool.false_eq_true, if_pos hn] <;> rfl), by simpa using q⟩
    · rename_i hn
      cases neg <;> exact ⟨_, by (simp only [bin, this, if_true, if_false, Bool.false_eq_true, if_neg hn] <;> rfl), by simpa using q⟩
  · exact q.elim
theorem intK_ex {op : BinOp} {t : TypeId} {x y : PV} {K : Kt} {h : Heap} (h1 : op ≠ .shl) (h2 : op ≠ .shr) (q : intK op x y K h) : ∃ v, bin P op t x y = some v ∧ K v h := by
  unfold intK at q
  split at q
  · obtain ⟨rfl, q⟩ := q
    cases op <;> simp only at q <;> first
      | exact q.elim
      | exact absurd rfl h1
      | exact absurd rfl h2
      | exact ⟨_, by (simp only [bin, if_true] <;> rfl), q⟩
      | exact ⟨_, by (simp only [bin, if_true, if_neg q.1] <;> rfl), q.2⟩
  · exact q.elim

theorem pv_pv0 {o : Op} (q : pv P dr live o σ h K) : pv0 P dr live o σ h K := by
  unfold pv at q
  split at q
  · exact ⟨_, rfl, q⟩
  · exact ⟨_, rfl, q⟩
  · unfold pickK at q
    split at q
    · rename_i hc; exact ⟨_, by (simp only [dv, hc] <;> rfl), q⟩
    · exact q.elim
  · unfold nilK at q
    split at q
    · rename_i hc; exact ⟨_, by (simp only [dv, hc] <;> rfl), q⟩
    · rename_i hc; exact ⟨_, by (simp only [dv, hc] <;> rfl), q⟩
    · exact q.elim
  · unfold cvK at q
    split at q
    · rename_i k _ n h1 h2 h3
      have hd : P.underlying (by assumption) = some (.int k) := by
        unfold ik at h2; split at h2 <;> simp at h2; subst h2; assumption
      refine ⟨_, ?_, q⟩
      simp only [dv, cv, h3]
      unfold und at h1
      rw [h1, hd]
    · exact q.elim
  · unfold faK at q
    split at q
    · rename_i o g n b off h1 h2
      exact ⟨_, by (simp only [dv, fa, h1, h2, if_neg q.1] <;> rfl), q.2⟩
    · rename_i o g n fr cs off h1 h2
      exact ⟨_, by (simp only [dv, fa, h1, h2, if_neg q.1] <;> rfl), q.2⟩
    · exact q.elim
  · unfold fdK at q
    split at q
    · rename_i o g n cs h1 h2
      obtain ⟨v, e, q⟩ := ldvK_ex q
      exact ⟨v, by (simp only [dv, fd, h1, h2, e] <;> rfl), q⟩
    · exact q.elim
  · unfold ixaK at q
    split at q
    · rename_i h1 h2
      obtain ⟨e, q1, q2, q⟩ := q
      exact ⟨_, by simp only [dv, ixa, h1, h2, if_pos (And.intro q1 q2)]; exact if_pos e, q⟩
    · rename_i h1 h2
      obtain ⟨e, q1, q2, q⟩ := q
      exact ⟨_, by simp only [dv, ixa, h1, h2, if_pos (And.intro q1 q2)]; exact if_pos e, q⟩
    · rename_i h1 h2
      split at q
      · rename_i e
        obtain ⟨q1, q2, q⟩ := q
        obtain ⟨el, e1, e2, e3⟩ := ars_spec e
        exact ⟨_, by (simp only [dv, ixa, h1, h2, e1, e2, if_pos (And.intro q1 q2)] <;> rfl), q⟩
      · exact q.elim
    · rename_i h1 h2
      split at q
      · rename_i e
        obtain ⟨q1, q2, q⟩ := q
        obtain ⟨el, e1, e2, e3⟩ := ars_spec e
        exact ⟨_, by (simp only [dv, ixa, h1, h2, e1, e2, if_pos (And.intro q1 q2)] <;> rfl), q⟩
      · exact q.elim
    · exact q.elim
  · unfold ixvK at q
    split at q
    · rename_i h1 h2
      split at q
      · rename_i e
        obtain ⟨q1, q2, q⟩ := q
        obtain ⟨el, e1, e2, e3⟩ := ars_spec e
        obtain ⟨v, e4, q⟩ := ldvK_ex q
        exact ⟨v, by (simp only [dv, ixv, h1, h2, e1, e2, e3, if_pos (And.intro q1 q2), e4] <;> rfl), q⟩
      · exact q.elim
    · rename_i h1 h2
      obtain ⟨e, q1, q⟩ := q
      obtain ⟨v, q2, q⟩ := getK_ex q
      exact ⟨v, by simp only [dv, ixv, h1, h2, kd_str e, if_pos q1, q2], q⟩
    · exact q.elim
  · unfold slcK at q
    split at q
    · rename_i h1
      obtain ⟨e, q⟩ := q
      obtain ⟨p, e2, q⟩ := q
      exact ⟨_, by (simp only [dv, slc, h1, kd_str e, e2, Option.map_some] <;> rfl), q⟩
    · rename_i h1
      obtain ⟨e, q⟩ := q
      obtain ⟨p, e2, q⟩ := q
      refine ⟨.nils, ?_, q⟩
      simp only [dv, slc, h1]
      rw [if_pos (by exact e), e2]; rfl
    · rename_i h1
      obtain ⟨e, q⟩ := q
      obtain ⟨p, e2, q⟩ := q
      refine ⟨_, ?_, q⟩
      simp only [dv, slc, h1]
      rw [if_pos (by exact e), e2]; rfl
    · rename_i h1
      obtain ⟨e, q⟩ := q
      obtain ⟨p, e2, q⟩ := q
      refine ⟨_, ?_, q⟩
      simp only [dv, slc, h1]
      rw [if_pos (by exact e), e2]
      simp only [Option.bind_some]
      split
      · rfl
      · split <;> rfl
    · exact q.elim
  · unfold extK at q
    split at q
    · rename_i h1
      obtain ⟨v, e, q⟩ := getK_ex q
      exact ⟨v, by (simp only [dv, h1, e] <;> rfl), q⟩
    · exact q.elim
  · unfold notK at q
    split at q
    · rename_i h1; exact ⟨_, by (simp only [dv, un, h1] <;> rfl), q⟩
    · exact q.elim
  · unfold negK at q
    split at q
    · rename_i h1; exact ⟨_, by (simp only [dv, un, h1] <;> rfl), q⟩
    · exact q.elim
  · exact eqK_ex (neg := false) q
  · exact eqK_ex (neg := true) q
  · unfold shlK at q
    split at q
    · rename_i h1 h2; exact ⟨_, by (simp only [dv, bin, h1, h2, if_pos q.1] <;> rfl), q.2⟩
    · exact q.elim
  · unfold shrK at q
    split at q
    · rename_i h1 h2; exact ⟨_, by (simp only [dv, bin, h1, h2, if_pos q.1] <;> rfl), q.2⟩
    · exact q.elim
  · rename_i g1 g2 g3 g4
    exact intK_ex g3 g4 q
  · exact ⟨_, rfl, q⟩
  · unfold bldK at q
    split at q
    · rename_i h1 h2
      unfold bl2K at q
      split at q
      · rename_i cs e
        exact ⟨_, by (simp only [dv, bld, h1, h2, e, Option.map_some] <;> rfl), q⟩
      · exact q.elim
    · exact q.elim
  · rename_i t a
    have hz : (dr = true → live = true → ∃ fr cs off, ev σ a = .fptr fr cs off) ∧ ldK (tag P t) (tsz P t) h (ev σ a) K := by
      unfold lzK at q
      split at q
      · split at q
        · rename_i fr cs off e; exact ⟨fun _ _ => ⟨fr, cs, off, e⟩, by rw [e]; exact q⟩
        · exact q.elim
      · rename_i e; exact ⟨fun e1 e2 => by rw [e1, e2] at e; exact absurd rfl e, q⟩
    refine ⟨hz.1, ?_⟩
    replace q := hz.2
    unfold ldK at q
    split at q
    · rename_i h1 h2 h3
      obtain ⟨v, e, q⟩ := ldvK_ex q
      exact ⟨v, by (simp only [ldp, h1, h2, h3, e] <;> rfl), q⟩
    · rename_i h1 h2 h3
      unfold ldhK at q
      split at q
      · rename_i cs hb
        obtain ⟨v, e, q⟩ := ldvK_old q
        exact ⟨v.old, by (simp only [ldp, h1, h2, h3, hb, e, Option.map_some] <;> rfl), q⟩
      · exact q.elim
    · exact q.elim
  · unfold stK at q
    split at q
    · rename_i h1 h2
      unfold sthK at q
      split at q
      · rename_i cs new e1 e2
        obtain ⟨e3, e4, q⟩ := q
        exact ⟨_, by (simp only [stp, h1, h2, e1, e2, if_pos (And.intro e3 e4)] <;> rfl), q⟩
      · exact q.elim
    · exact q.elim
  · unfold boxK at q
    split at q
    · rename_i cs hc
      exact ⟨cs, hc, q⟩
    · exact q.elim
  · unfold boxK at q
    split at q
    · rename_i cs hc
      refine ⟨cs, hc, ?_⟩
      split at q
      · rename_i hl; rw [if_pos hl]; exact q.2
      · rename_i hl; rw [if_neg hl]; exact q
    · exact q.elim
  · unfold litK at q
    split at q
    · rename_i r hr
      exact ⟨r, hr, q⟩
    · exact q.elim
  · unfold mkK at q
    split at q
    · rename_i r kl nl kc nc h1 h2 h3
      exact ⟨r, kl, nl, kc, nc, h1, h2, h3, q⟩
    · exact q.elim
  · unfold callK at q
    unfold pv0
    simp only
    split at q
    · exact q
    · exact q.elim
  · split at q
    · rename_i t x h1 h2
      unfold lenK at q
      have key : ∀ {a : Nat → Prop}, True := trivial
      split at q
      · rename_i hx
        refine ⟨_, ?_, q.2⟩
        simp only [dv, h1, h2, lenOk, lenv, hx, kd_str q.1]; rfl
      · rename_i hx
        obtain ⟨el, he⟩ := kd_slice q.1
        refine ⟨_, ?_, q.2⟩
        simp only [dv, h1, h2, lenOk, lenv, hx, he]; rfl
      · rename_i hx
        obtain ⟨el, he⟩ := kd_slice q.1
        refine ⟨_, ?_, q.2⟩
        simp only [dv, h1, h2, lenOk, lenv, hx, he]; rfl
      · rename_i hx
        obtain ⟨el, he⟩ := kd_slice q.1
        refine ⟨_, ?_, q.2⟩
        simp only [dv, h1, h2, lenOk, lenv, hx, he]; rfl
      · exact q.elim
    · exact q.elim
  · split at q
    · rename_i t x h1 h2
      unfold capK at q
      split at q
      · rename_i E hE hx
        have : (elt P t).isSome = true := by
          unfold esz at hE; cases e : elt P t with
          | none => rw [e] at hE; cases hE
          | some el => rfl
        refine ⟨_, ?_, q⟩
        simp only [dv, h1, h2, capv, hx, this]; rfl
      · exact q.elim
    · exact q.elim
  · unfold minK at q
    split at q
    · rename_i h1; exact ⟨_, by (simp only [dv, h1, minv] <;> rfl), q⟩
    · exact q.elim
  · unfold maxK at q
    split at q
    · rename_i h1; exact ⟨_, by (simp only [dv, h1, maxv] <;> rfl), q⟩
    · exact q.elim
  · split at q
    · rename_i s x t tx h1 h2
      unfold appK at q
      split at q
      · rename_i r hr
        unfold pv0 popv
        simp only [h1, h2]
        unfold ap2K at q
        split at q
        · rename_i m new hs hse
          refine ⟨r, m, new, hr, hs, ?_⟩
          rw [hse]
          exact q
        · rename_i m new b E' off n hs hse
          obtain ⟨rfl, rfl, q1, q2, q⟩ := q
          unfold apbK at q
          split at q
          · rename_i cs hb
            refine ⟨r, m, new, hr, hs, ?_⟩
            rw [hse]
            exact ⟨rfl, rfl, q1, q2, cs, hb, q.1, q.2⟩
          · exact q.elim
        · exact q.elim
      · exact q.elim
    · exact q.elim
  · split at q
    · rename_i d x t tx h1 h2
      unfold copK at q
      split at q
      · rename_i E hE
        unfold pv0 popv
        simp only [h1, h2]
        unfold cp2K at q
        split at q
        · rename_i r hs hd
          refine ⟨E, r.1, r.2, hE, hs, ?_⟩
          rw [hd]; exact q
        · rename_i r fr E' n cs hs hd
          refine ⟨E, r.1, r.2, hE, hs, ?_⟩
          rw [hd]; exact q
        · rename_i m new b E' off n hs hd
          obtain ⟨q1, q2, q⟩ := q
          unfold cp3K at q
          split at q
          · rename_i cs hb
            refine ⟨E, m, new, hE, hs, ?_⟩
            rw [hd]
            exact ⟨q1, q2, cs, hb, q.1, q.2⟩
          · exact q.elim
        · exact q.elim
      · exact q.elim
    · exact q.elim
  · exact q.elim
theorem pv_popv {o : Op} (q : pv P false live o σ h K) : popv P o σ h K := pv0_popv (pv_pv0 q)
theorem pv_popD {o : Op} (q : pv P true live o σ h K) : popD P live o σ h K := pv0_popD (pv_pv0 q)
end

/-- What follows a step that has yielded a value. -/
def psteps (P : Program) (L : List Nat) (dr : Bool) (K : Sl → Heap → Prop) : List PS → Sl → Heap → Prop
  | [], σ, h => K σ h
  | .mk d op none :: l, σ, h => pv P dr (livO L d) op σ h fun v h' => psteps P L dr K l (put σ d v) h'
  | .mk d op (some (s, want)) :: l, σ, h => match σ s with
    | .bool b => if b = want then pv P dr (livO L d) op σ h (fun v h' => psteps P L dr K l (put σ d v) h') else psteps P L dr K l (put σ d (.tup [])) h
    | .tup [] => psteps P L dr K l (put σ d (.tup [])) h
    | _ => False
  | .frzc d i :: l, σ, h => dr = false ∧ match frzC h (σ d) i with
    | some (b, m, cs) => psteps P L dr K l σ ((h.kill m).set b cs)
    | none => False
  | .frz d :: l, σ, h => dr = false ∧ match frzV h (σ d) with
    | some (v, b) => psteps P L dr K l (put σ (some d) v) (h.killO b)
    | none => False

def pwp (P : Program) (L : List Nat) : PC → (Exit → Sl → Heap → Prop) → Sl → Heap → Prop
  | .skip, Q, σ, h => Q .normal σ h
  | .ret, Q, σ, h => Q .ret σ h
  | .exit id, Q, σ, h => Q (.exit id) σ h
  | .reg dr l, Q, σ, h => psteps P L dr (Q .normal) l σ h
  | .seq a b, Q, σ, h => pwp P L a (thn (pwp P L b Q) Q) σ h
  | .cond c a b, Q, σ, h => match ev σ c with
    | .bool t => if t then pwp P L a Q σ h else pwp P L b Q σ h
    | .anyb => pwp P L a Q σ h ∧ pwp P L b Q σ h
    | _ => False
  | .block id a, Q, σ, h => pwp P L a (blk id Q) σ h
  | .loop a, Q, σ, h => ∃ (I : Nat → Sl → Heap → Prop) (k : Nat), I k σ h ∧ ∀ k σ h, I k σ h → pwp P L a (thn (fun σ' h' => ∃ k', k' < k ∧ I k' σ' h') Q) σ h

section
variable {P : Program} {L : List Nat} {n : Nat}
theorem Rl.frz {w0 w : World} {h0 h : Heap} {n : Nat} {σ : Sl} {a : Act} {d : Nat} {v : PV} {b : Option Nat} (r : Rl w0 h0 n σ h a w) (e : frzV h (σ d) = some (v, b)) : Rl w0 h0 n (Pm.put σ (some d) v) (h.killO b) a w := by
  have same : v = σ d → b = none → Rl w0 h0 n (Pm.put σ (some d) v) (h.killO b) a w := fun e1 e2 => by
    subst e1 e2
    have : Pm.put σ (some d) (σ d) = σ := funext fun t => by rw [put_some]; split; subst_vars; rfl; rfl
    rw [this]; exact r
  cases b with
  | none =>
    refine same ?_ rfl
    unfold frzV at e
    split at e
    · rename_i b' off hs
      cases hb : h.f b' <;> simp [hb] at e
    · rename_i b' E off k hs
      split at e
      · split at e <;> simp at e
      · cases e
    · rename_i hs; rw [hs]; simpa using e.symm
    · rename_i hs; rw [hs]; simpa using e.symm
    · cases e
  | some b =>
  show Rl w0 h0 n (Pm.put σ (some d) v) (h.kill b) a w
  have hle : ∀ x cs, (h.kill b).f x = some cs → h.f x = some cs := fun x cs hx => by
    by_cases q : x = b
    · rw [q, h.kill_same] at hx; cases hx
    · rwa [h.kill_ne q] at hx
  have kp := (St.kill w h (h.kill b) hle).kp
  refine ⟨r.size, r.defers, fun t ht => ?_, r.heap.kill hle, r.st.trans (St.kill w h _ hle)⟩
  by_cases q : t = d
  · subst q
    have hv := r.slots t ht
    rw [put_some, if_pos rfl]
    unfold frzV at e
    split at e
    · rename_i b' off hs
      rw [hs] at hv
      simp only [VR] at hv
      cases hb : h.f b' with
      | none => rw [hb] at e; cases e
      | some cs =>
        rw [hb] at e
        simp only [Option.map_some, Option.some.injEq, Prod.mk.injEq] at e
        obtain ⟨rfl, rfl⟩ := e
        obtain ⟨cells, t', hc, hcl, hcc⟩ := r.heap b' cs hb
        rw [hv]
        simp only [VR]
        exact ⟨b', 0, _, by simp, r.heap.lt hb, h.kill_same b', (fun q => by cases q), CR.step kp (Nat.le_refl _) _ (CR.olds (N' := w0.heap.size) _ hcc), Mem.live hc cs.length⟩
    · rename_i b' E off k hs
      rw [hs] at hv
      simp only [VR] at hv
      obtain ⟨c, hv, q1, q2, q3⟩ := hv
      split at e
      · rename_i cs hb
        split at e
        · rename_i hl
          simp only [Option.some.injEq, Prod.mk.injEq] at e
          obtain ⟨rfl, rfl⟩ := e
          obtain ⟨cells, t', hc, hcl, hcc⟩ := r.heap b' cs hb
          rw [hv]
          simp only [VR]
          refine ⟨_, c, _, rfl, q1, by rw [olds_eq]; simp; omega, CR.step kp (Nat.le_refl _) _ (CR.olds (N' := w0.heap.size) _ ((hcc.drop off).take (k * E))), .inr ⟨b', off, rfl, r.heap.lt hb, h.kill_same b', (fun q => by cases q), fun i u hi => ?_⟩⟩
          rw [List.getElem?_take] at hi
          split at hi
          · rw [List.getElem?_drop] at hi
            have := Mem.live hc cs.length (off + i) u hi
            simpa using this
          · cases hi
        · cases e
      · cases e
    · simp at e
    · simp at e
    · cases e
  · rw [put_some, if_neg q]
    exact VR.step kp (Nat.le_refl _) _ (r.slots t ht)

theorem frzV_vr {w : World} {h h' : Heap} {N : Nat} {c v : PV} {m : Nat} {u : Value} (hw : WR w h 0) (e : frzV h c = some (v, some m)) (hd : h'.f m = none) (kp : Kp w h w h') (hv : VR w h N c u) : VR w h' N v u := by
  unfold frzV at e
  split at e
  · rename_i b' off
    simp only [VR] at hv
    cases hb : h.f b' with
    | none => rw [hb] at e; cases e
    | some cs =>
      rw [hb] at e
      simp only [Option.map_some, Option.some.injEq, Prod.mk.injEq] at e
      obtain ⟨rfl, rfl⟩ := e
      obtain ⟨cells, t', hc, hcl, hcc⟩ := hw b' cs hb
      rw [hv]
      simp only [VR]
      exact ⟨b', 0, _, by simp, hw.lt hb, hd, (fun q => by cases q), CR.step kp (Nat.le_refl _) _ (CR.olds (N' := N) _ hcc), Mem.live hc cs.length⟩
  · rename_i b' E off k
    simp only [VR] at hv
    obtain ⟨c, hv, q1, q2, q3⟩ := hv
    split at e
    · rename_i cs hb
      split at e
      · rename_i hl
        simp only [Option.some.injEq, Prod.mk.injEq] at e
        obtain ⟨rfl, rfl⟩ := e
        obtain ⟨cells, t', hc, hcl, hcc⟩ := hw b' cs hb
        rw [hv]
        simp only [VR]
        refine ⟨_, c, _, rfl, q1, by rw [olds_eq]; simp; omega, CR.step kp (Nat.le_refl _) _ (CR.olds (N' := N) _ ((hcc.drop off).take (k * E))), .inr ⟨b', off, rfl, hw.lt hb, hd, (fun q => by cases q), fun i u hi => ?_⟩⟩
        rw [List.getElem?_take] at hi
        split at hi
        · rw [List.getElem?_drop] at hi
          have := Mem.live hc cs.length (off + i) u hi
          simpa using this
        · cases hi
      · cases e
    · cases e
  · simp at e
  · simp at e
  · cases e
theorem CR.put {w : World} {h h' : Heap} {N : Nat} {v : PV} : ∀ {cs : List PV} {vs : List Value} (k : Nat) {c : PV}, CR w h N cs vs → CR w h' N cs vs → cs[k]? = some c → (∀ u, VR w h N c u → VR w h' N v u) → CR w h' N (cs.set k v) vs
  | [], vs, k, c, e, e', hi, hv => by simp at hi
  | c0 :: cs, vs, k, c, e, e', hi, hv => by
    simp only [CR] at e e'
    obtain ⟨u, us, rfl, h0, h1, h2⟩ := e
    obtain ⟨u', us', e1, h0', h1', h2'⟩ := e'
    cases e1
    cases k with
    | zero => simp at hi; subst hi; simp only [List.set_cons_zero, CR]; exact ⟨u, us, rfl, h0, hv _ h1, h2'⟩
    | succ k => simp at hi; simp only [List.set_cons_succ, CR]; exact ⟨u, us, rfl, h0, h1', CR.put k h2 h2' hi hv⟩
theorem Rl.frzc {w0 w : World} {h0 h : Heap} {n : Nat} {σ : Sl} {a : Act} {d i b m : Nat} {ds : List PV} (r : Rl w0 h0 n σ h a w) (e : frzC h (σ d) i = some (b, m, ds)) : Rl w0 h0 n σ ((h.kill m).set b ds) a w := by
  unfold frzC at e
  split at e
  case h_2 => cases e
  case h_1 b' off hs =>
  split at e
  case h_2 => cases e
  case h_1 cs hb =>
  split at e
  case h_2 => cases e
  case h_1 c hc =>
  split at e
  case h_2 => cases e
  case h_1 v m' hf =>
  split at e
  case isTrue => cases e
  case isFalse hne =>
  simp only [Option.some.injEq, Prod.mk.injEq] at e
  obtain ⟨rfl, rfl, rfl⟩ := e
  have dead : ∀ x, h.f x = none → ((h.kill m').set b' (cs.set (off + i) v)).f x = none := fun x hx => by
    have q : x ≠ b' := fun q => by rw [q, hb] at hx; cases hx
    rw [Heap.set_ne _ _ q]
    by_cases q2 : x = m'
    · rw [q2, h.kill_same]
    · rw [h.kill_ne q2]; exact hx
  have st : St w h w ((h.kill m').set b' (cs.set (off + i) v)) := ⟨rfl, rfl, rfl, Nat.le_refl _, fun _ _ _ => rfl, fun x _ hx => dead x hx, fun _ c _ fz e => ⟨c, fz, e, rfl⟩⟩
  have kp := st.kp
  have hd : ((h.kill m').set b' (cs.set (off + i) v)).f m' = none := by rw [Heap.set_ne _ _ hne, h.kill_same]
  refine ⟨r.size, r.defers, fun t ht => VR.step kp (Nat.le_refl _) _ (r.slots t ht), fun x xs hx => ?_, r.st.trans st⟩
  by_cases q : x = b'
  · subst q
    rw [Heap.set_same] at hx
    cases hx
    obtain ⟨cells, t', h1, h2, h3⟩ := r.heap x cs hb
    refine ⟨cells, t', h1, by rw [List.length_set]; exact h2, ?_⟩
    rw [List.length_set]
    exact CR.put (off + i) h3 (CR.step kp (Nat.le_refl _) _ h3) hc fun u hu => frzV_vr r.heap hf hd kp hu
  · rw [Heap.set_ne _ _ q] at hx
    have hx' : h.f x = some xs := by
      by_cases q2 : x = m'
      · rw [q2, h.kill_same] at hx; cases hx
      · rwa [h.kill_ne q2] at hx
    obtain ⟨cells, t', h1, h2, h3⟩ := r.heap x xs hx'
    exact ⟨cells, t', h1, h2, CR.step kp (Nat.le_refl _) _ h3⟩

theorem psteps_sound {ops : Array Oper} {w0 : World} {h0 : Heap} {Q : Exit → Act → World → Prop} (okr : okR n ops = true) {K : Sl → Heap → Prop} (hk : ∀ σ h a w, K σ h → Rl w0 h0 n σ h a w → Q .normal a w) :
    ∀ (l : List PS) (os : List Oper) (k : Nat), ops.toList.drop k = os → prepl ops os = some (eraS l) → ∀ (σ : Sl) (h : Heap) (a : Act) (w : World), Rl w0 h0 n σ h a w → psteps P L false K l σ h →
      wpOps P ops Q ((List.range ops.size).drop k) a w
  | [], os, k, e, e2, σ, h, a, w, r, hp => by
    cases os with
    | nil =>
      have : ops.size ≤ k := by simpa using e
      rw [List.drop_eq_nil_of_le (by simpa using this)]
      exact hk σ h a w hp r
    | cons o rest =>
      exfalso
      simp only [prepl, eraS] at e2
      split at e2
      · cases e2
      · split at e2
        · cases e2
        · split at e2 <;> cases e2
  | .frzc d i :: l, os, k, e, e2, σ, h, a, w, r, hp => by
    simp only [psteps, true_and] at hp
    cases hf : frzC h (σ d) i with
    | none => rw [hf] at hp; exact hp.elim
    | some p =>
      obtain ⟨b, m, cs⟩ := p
      rw [hf] at hp
      exact psteps_sound okr hk l os k e e2 _ _ a w (r.frzc hf) hp
  | .frz d :: l, os, k, e, e2, σ, h, a, w, r, hp => by
    simp only [psteps, true_and] at hp
    cases hf : frzV h (σ d) with
    | none => rw [hf] at hp; exact hp.elim
    | some p =>
      obtain ⟨v, b⟩ := p
      rw [hf] at hp
      exact psteps_sound okr hk l os k e e2 _ _ a w (r.frz hf) hp
  | .mk d op g :: l, os, k, e, e2, σ, h, a, w, r, hp => by
    cases os with
    | nil => simp [prepl, eraS] at e2
    | cons o rest =>
      have hlt : k < ops.size := by
        rcases Nat.lt_or_ge k ops.size with h | h
        · exact h
        · rw [List.drop_eq_nil_of_le (by simpa using h)] at e; cases e
      rw [List.drop_eq_getElem_cons (by simpa using hlt)] at e ⊢
      simp only [List.cons.injEq] at e
      obtain ⟨e3, e4⟩ := e
      simp only [List.getElem_range]
      rw [wpOps_cons]
      have ho : ops[k]? = some o := by rw [Array.getElem?_eq_getElem hlt]; simpa using e3
      simp only [prepl, eraS] at e2
      split at e2
      · cases e2
      · rename_i l' hl
        have step : gst (popv P) ops o σ h (fun v h' => psteps P L false K l (put σ o.dst v) h') ∧ prepl ops rest = some (eraS l) := by
          unfold gst
          split at e2
          · rename_i hg
            simp only [Option.some.injEq, List.cons.injEq, PS.mk.injEq] at e2
            obtain ⟨⟨rfl, rfl, rfl⟩, rfl⟩ := e2
            rw [hg]
            exact ⟨pv_popv hp, hl⟩
          · rename_i gi want hg
            split at e2
            · rename_i d' hd
              simp only [Option.some.injEq, List.cons.injEq, PS.mk.injEq] at e2
              obtain ⟨⟨rfl, rfl, rfl⟩, rfl⟩ := e2
              rw [hg]
              simp only [gv, hd]
              simp only [psteps] at hp
              split at hp
              · rename_i b hb
                rw [hb]
                simp only [Option.some.injEq]
                by_cases e : b = want
                · rw [if_pos e] at hp ⊢; exact ⟨pv_popv hp, hl⟩
                · rw [if_neg e] at hp ⊢; exact ⟨hp, hl⟩
              · rename_i hb
                rw [hb]
                simp only [reduceCtorEq, if_false]
                exact ⟨hp, hl⟩
              · exact hp.elim
            · cases e2
        exact gst_sound ho r okr step.1 fun v h' a' w' h1 h2 => psteps_sound okr hk l rest (k + 1) e4 step.2 _ _ a' w' h2 h1
theorem psteps_popsD {ops : Array Oper} {K : Sl → Heap → Prop} : ∀ (os : List Oper) (l : List PS) (σ : Sl) (h : Heap), prepl ops os = some (eraS l) → psteps P L true K l σ h → popsD P L ops K os σ h
  | os, .frz d :: l, σ, h, e, hp => by simp [psteps] at hp
  | os, .frzc d i :: l, σ, h, e, hp => by simp [psteps] at hp
  | [], [], σ, h, e, hp => hp
  | [], .mk d op g :: l, σ, h, e, hp => by simp [prepl, eraS] at e
  | o :: rest, [], σ, h, e, hp => by
    exfalso
    simp only [prepl, eraS] at e
    split at e
    · cases e
    · split at e
      · cases e
      · split at e <;> cases e
  | o :: rest, .mk d op g :: l, σ, h, e, hp => by
    simp only [prepl, eraS] at e
    split at e
    · cases e
    · rename_i l' hl
      simp only [popsD, gst]
      split at e
      · rename_i hg
        simp only [Option.some.injEq, List.cons.injEq, PS.mk.injEq] at e
        obtain ⟨⟨rfl, rfl, rfl⟩, rfl⟩ := e
        rw [hg]
        exact popD_mono (fun v h' q => psteps_popsD rest l _ _ hl q) (pv_popD hp)
      · rename_i gi want hg
        split at e
        · rename_i d' hd
          simp only [Option.some.injEq, List.cons.injEq, PS.mk.injEq] at e
          obtain ⟨⟨rfl, rfl, rfl⟩, rfl⟩ := e
          rw [hg]
          simp only [gv, hd]
          simp only [psteps] at hp
          split at hp
          · rename_i b hb
            rw [hb]
            simp only [Option.some.injEq]
            by_cases e : b = want
            · rw [if_pos e] at hp ⊢
              exact popD_mono (fun v h' q => psteps_popsD rest l _ _ hl q) (pv_popD hp)
            · rw [if_neg e] at hp ⊢
              exact psteps_popsD rest l _ _ hl hp
          · rename_i hb
            rw [hb]
            simp only [reduceCtorEq, if_false]
            exact psteps_popsD rest l _ _ hl hp
          · exact hp.elim
        · cases e

theorem swp_reg0 {id : Nat} {ops : Array Oper} {l : List PS} {Q : Exit → Sl → Heap → Prop} {σ : Sl} {h : Heap} (ok : okR n ops = true) (e : prepl ops ops.toList = some (eraS l)) (s : psteps P L false (Q .normal) l σ h) : SWP P n (.region id ops false) Q σ h := fun w0 h0 a w r =>
  wp_region (by
    have := psteps_sound (Q := fun e a' w' => ∃ σ' h', Rl w0 h0 n σ' h' a' w' ∧ Q e σ' h') ok (fun σ' h' a' w' q1 q2 => ⟨σ', h', q2, q1⟩) l ops.toList 0 (by simp) e σ h a w r s
    simpa using this)

theorem pwp_sound (hm : P.follows .mixedOrders = true) : ∀ (c : Code) (p : PC) (Q : Exit → Sl → Heap → Prop) (σ : Sl) (h : Heap), strip n L c = some p.era → pwp P L p Q σ h → SWP P n c Q σ h := by
  intro c
  induction c with
  | skip => intro p Q σ h e hp; simp only [strip, Option.some.injEq] at e; cases p <;> simp [PC.era] at e; exact swp_skip hp
  | ret => intro p Q σ h e hp; simp only [strip, Option.some.injEq] at e; cases p <;> simp [PC.era] at e; exact swp_ret hp
  | exit id => intro p Q σ h e hp; simp only [strip, Option.some.injEq] at e; cases p <;> simp [PC.era] at e; subst e; exact swp_exit hp
  | region id ops dr =>
    intro p Q σ h e hp
    simp only [strip] at e
    split at e
    · rename_i ok
      simp only [Bool.and_eq_true, Bool.or_eq_true, Bool.not_eq_true'] at ok
      cases hl : prepl ops ops.toList with
      | none => rw [hl] at e; cases e
      | some l' =>
        rw [hl] at e
        simp only [Option.map_some, Option.some.injEq] at e
        cases p <;> simp only [PC.era, PC.reg.injEq, reduceCtorEq] at e
        rename_i dr' l
        obtain ⟨rfl, rfl⟩ := e
        cases dr with
        | false => exact swp_reg0 ok.1 hl hp
        | true => exact swp_draw hm ok.1 (ok.2.resolve_left (by simp)) (psteps_popsD _ _ _ _ hl hp)
    · cases e
  | seq a b iha ihb =>
    intro p Q σ h e hp
    simp only [strip] at e
    split at e
    · rename_i x y hx hy
      simp only [Option.some.injEq] at e
      cases p <;> simp only [PC.era, PC.seq.injEq, reduceCtorEq] at e
      obtain ⟨rfl, rfl⟩ := e
      exact swp_seq (SWP.mono (fun e σ h q => by cases e <;> first | exact q | exact ihb _ Q σ h hy q) (iha _ _ σ h hx hp))
    · cases e
  | cond c a b iha ihb =>
    intro p Q σ h e hp
    simp only [strip] at e
    split at e
    · rename_i ok
      split at e
      · rename_i x y hx hy
        simp only [Option.some.injEq] at e
        cases p <;> simp only [PC.era, PC.cond.injEq, reduceCtorEq] at e
        obtain ⟨rfl, rfl, rfl⟩ := e
        simp only [pwp] at hp
        split at hp
        · rename_i t ht
          refine swp_cond ok ht ?_
          cases t with
          | true => exact iha _ Q σ h hx hp
          | false => exact ihb _ Q σ h hy hp
        · rename_i ht
          exact swp_condA ok ht (iha _ Q σ h hx hp.1) (ihb _ Q σ h hy hp.2)
        · exact hp.elim
      · cases e
    · cases e
  | block id a ih =>
    intro p Q σ h e hp
    simp only [strip] at e
    cases hx : strip n L a with
    | none => rw [hx] at e; cases e
    | some x =>
      rw [hx] at e
      simp only [Option.map_some, Option.some.injEq] at e
      cases p <;> simp only [PC.era, PC.block.injEq, reduceCtorEq] at e
      obtain ⟨rfl, rfl⟩ := e
      exact swp_block (ih _ _ σ h hx hp)
  | loop a ih =>
    intro p Q σ h e hp
    simp only [strip] at e
    cases hx : strip n L a with
    | none => rw [hx] at e; cases e
    | some x =>
      rw [hx] at e
      simp only [Option.map_some, Option.some.injEq] at e
      cases p <;> simp only [PC.era, PC.loop.injEq, reduceCtorEq] at e
      subst e
      obtain ⟨I, k, h1, h2⟩ := hp
      exact swp_loop I k h1 fun k σ h hi => ih _ _ σ h hx (h2 k σ h hi)
  | _ => intro p Q σ h e hp; simp [strip] at e

/-- A function's contract, out of its code told in short. -/
theorem can_of {f : FuncId} {fn : Func} {c : Code} {pc : PC} {args : List PV} {h : Heap} {K : PV → Heap → Prop} (hm : P.follows .mixedOrders = true) (hf : P.funcs[f]? = some fn)
    (hname : (fn.name == "runtime.NumGoroutine") = false) (hb : fn.body = some c) (hn : args.length + (fn.ntmps - args.length) = n) (hr : fn.results.toList.all (okRes n) = true)
    (hs : strip n L c = some pc.era) (s : pwp P L pc (fin P fn.results.toList h K) (slots0 (olds args)) h) : CanP P f args h K :=
  can_of_swp hf hname hb hn hr (pwp_sound hm c pc _ _ _ hs s)
end
end Go.Pm

/-
  An abstract machine over pure values, part N: small rules for a walk.
  Conditions: none.
-/
namespace Go.Pm
set_option linter.unusedVariables false
set_option linter.unusedSimpArgs false

theorem can_of2 {P : Program} {L : List Nat} {n : Nat} {f : FuncId} {fn : Func} {pc : PC} {rs : List ResultVar} {args : List PV} {h : Heap} {K : PV → Heap → Prop} (hm : P.follows .mixedOrders = true) (hf : P.funcs[f]? = some fn)
    (hname : (fn.name == "runtime.NumGoroutine") = false) (hs : fn.body.bind (strip n L) = some pc.era) (hn : args.length + (fn.ntmps - args.length) = n) (hrs : fn.results.toList = rs) (hr : rs.all (okRes n) = true)
    (s : pwp P L pc (fin P rs h K) (slots0 (olds args)) h) : CanP P f args h K := by
  subst hrs
  cases hb : fn.body with
  | none => rw [hb] at hs; cases hs
  | some c => rw [hb] at hs; exact can_of hm hf hname hb hn hr hs s

section
variable {P : Program} {L : List Nat} {Q : Exit → Sl → Heap → Prop} {σ : Sl} {h : Heap}
theorem pwp_skip : pwp P L .skip Q σ h = Q .normal σ h := rfl
theorem pwp_ret : pwp P L .ret Q σ h = Q .ret σ h := rfl
theorem pwp_exit {id : Nat} : pwp P L (.exit id) Q σ h = Q (.exit id) σ h := rfl
theorem pwp_reg {dr : Bool} {l : List PS} : pwp P L (.reg dr l) Q σ h = psteps P L dr (Q .normal) l σ h := rfl
theorem pwp_seq {a b : PC} : pwp P L (.seq a b) Q σ h = pwp P L a (thn (pwp P L b Q) Q) σ h := rfl
theorem pwp_block {id : Nat} {a : PC} : pwp P L (.block id a) Q σ h = pwp P L a (blk id Q) σ h := rfl
/-- A branch, by what the test has come to. -/
def cdK (v : PV) (P : Program) (L : List Nat) (a b : PC) (Q : Exit → Sl → Heap → Prop) (σ : Sl) (h : Heap) : Prop := match v with | .bool t => if t then pwp P L a Q σ h else pwp P L b Q σ h | .anyb => pwp P L a Q σ h ∧ pwp P L b Q σ h | _ => False
theorem pwp_cond {c : Operand} {a b : PC} : pwp P L (.cond c a b) Q σ h = cdK (ev σ c) P L a b Q σ h := rfl
theorem cdK_dec {p : Prop} [Decidable p] {a b : PC} : cdK (.bool (decide p)) P L a b Q σ h = ((p → pwp P L a Q σ h) ∧ (¬p → pwp P L b Q σ h)) := by
  by_cases hp : p <;> simp [cdK, hp]
/-- A guard, by what its slot holds. -/
def gdK (v : PV) (want : Bool) (P : Program) (L : List Nat) (dr : Bool) (K : Sl → Heap → Prop) (d : Option Nat) (op : Op) (l : List PS) (σ : Sl) (h : Heap) : Prop :=
  match v with | .bool b => if b = want then psteps P L dr K (.mk d op none :: l) σ h else psteps P L dr K l (put σ d (.tup [])) h | .tup [] => psteps P L dr K l (put σ d (.tup [])) h | _ => False
/-- What follows a step that has yielded a value. -/
def nx (P : Program) (L : List Nat) (dr : Bool) (K : Sl → Heap → Prop) (l : List PS) (σ : Sl) (d : Option Nat) : Kt := fun v h' => psteps P L dr K l (put σ d v) h'
/-- The proof's own step. -/
def fzK (x : Option (PV × Option Nat)) (P : Program) (L : List Nat) (dr : Bool) (K : Sl → Heap → Prop) (l : List PS) (σ : Sl) (d : Nat) (h : Heap) : Prop := dr = false ∧ match x with
  | some (v, b) => psteps P L dr K l (put σ (some d) v) (h.killO b)
  | none => False
/-- The proof's own step on a cell. -/
def fcK (x : Option (Nat × Nat × List PV)) (P : Program) (L : List Nat) (dr : Bool) (K : Sl → Heap → Prop) (l : List PS) (σ : Sl) (h : Heap) : Prop := dr = false ∧ match x with
  | some (b, m, cs) => psteps P L dr K l σ ((h.kill m).set b cs)
  | none => False
def fz2 (x : Option (List PV)) (b off : Nat) : Option (PV × Option Nat) := x.map fun cs => (.fptr false (olds cs) off, some b)
def fz3 (x : Option (List PV)) (b E off n : Nat) : Option (PV × Option Nat) := match x with
    | some cs => if off + n * E ≤ cs.length then some (.list false E n (olds ((cs.drop off).take (n * E))), some b) else none
    | none => none
theorem ps_guard {dr : Bool} {K : Sl → Heap → Prop} {d : Option Nat} {op : Op} {s : Nat} {want : Bool} {l : List PS} :
    psteps P L dr K (.mk d op (some (s, want)) :: l) σ h = gdK (σ s) want P L dr K d op l σ h := rfl
theorem pwp_seq_k {a b : PC} (s : ∀ K : Sl → Heap → Prop, (∀ σ h, pwp P L b Q σ h → K σ h) → pwp P L a (thn K Q) σ h) : pwp P L (.seq a b) Q σ h := s _ fun _ _ q => q
theorem pwp_loop {a : PC} (I : Nat → Sl → Heap → Prop) (k : Nat) (h1 : I k σ h) (round : ∀ k σ h, I k σ h → pwp P L a (thn (fun σ' h' => ∃ k', k' < k ∧ I k' σ' h') Q) σ h) : pwp P L (.loop a) Q σ h := ⟨I, k, h1, round⟩
end

theorem thn_normal {K : Sl → Heap → Prop} {Q : Exit → Sl → Heap → Prop} : thn K Q .normal = K := rfl
theorem thn_exit {K : Sl → Heap → Prop} {Q : Exit → Sl → Heap → Prop} {id : Nat} : thn K Q (.exit id) = Q (.exit id) := rfl
theorem thn_ret {K : Sl → Heap → Prop} {Q : Exit → Sl → Heap → Prop} : thn K Q .ret = Q .ret := rfl
theorem blk_normal {id : Nat} {Q : Exit → Sl → Heap → Prop} : blk id Q .normal = Q .normal := rfl
theorem blk_ret {id : Nat} {Q : Exit → Sl → Heap → Prop} : blk id Q .ret = Q .ret := rfl
theorem blk_exit {id id' : Nat} {Q : Exit → Sl → Heap → Prop} {σ : Sl} {h : Heap} : blk id Q (.exit id') σ h = if id' = id then Q .normal σ h else Q (.exit id') σ h := rfl

/-- The end of a function whose result's heap is the one that it began with. -/
theorem fin_ret {P : Program} {rs : List ResultVar} {h0 h : Heap} {K : PV → Heap → Prop} {σ : Sl} {v : PV} (e : ress P rs σ h = some v) (l : h0.le h) (k : K v h0) : fin P rs h0 K .ret σ h :=
  ⟨v, e, v, h0, Wk.drop v l, k⟩
theorem fin_wk {P : Program} {rs : List ResultVar} {h0 h : Heap} {K : PV → Heap → Prop} {σ : Sl} {v v2 : PV} {h2 : Heap} (e : ress P rs σ h = some v) (wk : Wk h0 h v h2 v2) (k : K v2 h2) : fin P rs h0 K .ret σ h :=
  ⟨v, e, v2, h2, wk, k⟩

/-- The end of a function. -/
def finK (v : PV) (h0 : Heap) (K : Kt) (h : Heap) : Prop := ∃ v2 h2, Wk h0 h v h2 v2 ∧ K v2 h2
def finR (v : Option PV) (h0 : Heap) (K : Kt) (h : Heap) : Prop := match v with | some v => finK v h0 K h | none => False
theorem fin_rule {P : Program} {rs : List ResultVar} {h0 h : Heap} {K : Kt} {σ : Sl} : fin P rs h0 K .ret σ h = finR (ress P rs σ h) h0 K h := by
  simp only [fin, finR, finK]; cases ress P rs σ h <;> simp
theorem fin_rule2 {P : Program} {rs : List ResultVar} {h0 h : Heap} {K : Kt} {σ : Sl} : fin P rs h0 K .normal σ h = finR (ress P rs σ h) h0 K h := fin_rule
theorem finK_le {v : PV} {h0 h : Heap} {K : Kt} (l : h0.le h) (k : K v h0) : finK v h0 K h := ⟨v, h0, Wk.drop v l, k⟩
theorem finK_wk {v v2 : PV} {h0 h : Heap} {K : Kt} (wk : Wk h0 h v h0 v2) (k : K v2 h0) : finK v h0 K h := ⟨v2, h0, wk, k⟩
def consO (a : Option PV) (l : Option (List PV)) : Option (List PV) := match a, l with | some a, some l => some (a :: l) | _, _ => none
def ldp2 (g : Option Bool) (n : Option Nat) (h : Heap) (p : PV) : Option PV := match g, n with
  | some g, some n => match p with
    | .fptr _ cs off => ldv g n cs off
    | .ptr b off => match h.f b with | some cs => (ldv g n cs off).map PV.old | none => none
    | _ => none
  | _, _ => none
theorem getm {α : Type} [Inhabited α] (f : α → PV) (l : List α) {i : Nat} (h : i < l.length) : (l.map f)[i]? = some (f (l.getD i default)) := by
  simp [h, List.getD]
theorem getK_map {α : Type} [Inhabited α] {f : α → PV} {l : List α} {i : Nat} {K : Kt} {h : Heap} (hi : i < l.length) : getK false ((l.map f)[i]?) K h = K (f (l.getD i default)) h := by
  rw [getm f l hi]; rfl
theorem old_int {k : IntKind} {n : Int} : (PV.int k n).old = .int k n := rfl
theorem old_bool {b : Bool} : (PV.bool b).old = .bool b := rfl
theorem olds_nil : olds [] = [] := rfl
theorem olds_cons {c : PV} {cs : List PV} : olds (c :: cs) = c.old :: olds cs := rfl
theorem olds_ints {k : IntKind} (l : List Int) : olds (l.map (.int k)) = l.map (.int k) := by rw [olds_eq, List.map_map]; rfl
theorem olds_bools (l : List Bool) : olds (l.map .bool) = l.map .bool := by rw [olds_eq, List.map_map]; rfl
theorem wrap_in {n : Int} (h1 : -9223372036854775808 ≤ n) (h2 : n ≤ 9223372036854775807) : IntKind.i64.wrap n = n := by rw [IntKind.wrap_i64]; omega

/-- Rows of structs: each element's cells, one behind the other. -/
theorem flat_length {α : Type} (f : α → List PV) (E : Nat) (hf : ∀ x, (f x).length = E) : ∀ l : List α, (l.flatMap f).length = l.length * E
  | [] => by simp
  | x :: l => by simp [flat_length f E hf l, hf, Nat.add_mul, Nat.add_comm]
theorem flat_drop {α : Type} (f : α → List PV) (E : Nat) (hf : ∀ x, (f x).length = E) : ∀ (l : List α) (i : Nat), (l.flatMap f).drop (i * E) = (l.drop i).flatMap f
  | l, 0 => by simp
  | [], i + 1 => by simp
  | x :: l, i + 1 => by
    rw [List.flatMap_cons, List.drop_succ_cons, ← flat_drop f E hf l i, Nat.add_mul, Nat.one_mul, Nat.add_comm, ← List.drop_drop]
    congr 1
    rw [← hf x, List.drop_left]
theorem flat_at {α : Type} [Inhabited α] (f : α → List PV) (E : Nat) (hf : ∀ x, (f x).length = E) (l : List α) {i : Nat} (h : i < l.length) : ((l.flatMap f).drop (i * E)).take E = f (l.getD i default) := by
  rw [flat_drop f E hf, List.drop_eq_getElem_cons h, List.flatMap_cons, ← hf l[i], List.take_left]
  simp [List.getD, h]
theorem flat_get {α : Type} [Inhabited α] (f : α → List PV) (E : Nat) (hf : ∀ x, (f x).length = E) (l : List α) {i j : Nat} (h : i < l.length) (hj : j < E) : (l.flatMap f)[i * E + j]? = (f (l.getD i default))[j]? := by
  rw [← flat_at f E hf l h, List.getElem?_take, if_pos hj, List.getElem?_drop]
end Go.Pm
