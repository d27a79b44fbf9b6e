/-
  An abstract machine over pure values, part O: the rules in bundles, for the simplifier.
  Conditions: none.
-/
import Derived.Test.YtcgaphmndnmfdaaGreatPmN
namespace Go.Pm
set_option linter.unusedVariables false
set_option linter.unusedSimpArgs false
set_option maxHeartbeats 1000000

theorem Heap.kill_kset (h : Heap) (b : Nat) (cs : List PV) : (h.set b cs).kill b = h.kill b := by
  apply Heap.ext'; intro x; by_cases e : x = b <;> simp [Heap.kill, Heap.set, e]
/-- What the simplifier needs for a step. -/
theorem pm :
    ((∀ (p : Prop), (p ∨ False) = p) ∧
    (∀ (p : Prop), (False ∨ p) = p) ∧
    (∀ (b : Bool), (b && b) = b) ∧
    (∀ (b : Bool), (b && true) = b) ∧
    (∀ (b : Bool), (true && b) = b) ∧
    (∀ (b : Bool), (b && false) = false) ∧
    (∀ (b : Bool), (false && b) = false) ∧
    (∀ (b : Bool), (!!b) = b) ∧
    (∀ (h : Heap) (b : Nat) (cs : List PV), (h.set b cs).f b = some cs) ∧
    (∀ (h : Heap) (b : Nat) (cs ds : List PV), (h.set b cs).set b ds = h.set b ds) ∧
    (∀ (n : Nat), ((n : Int)).toNat = n) ∧
    (∀ (n : Nat), 0 ≤ (n : Int)) ∧
    (∀ (n m : Nat), (n : Int) < (m : Int) ↔ n < m) ∧
    (∀ (m n : Nat), (m : Int) ≤ (n : Int) ↔ m ≤ n) ∧
    (∀ (m n : Nat), (m : Int) = (n : Int) ↔ m = n) ∧
    (∀ (n : Nat), 0 * n = 0) ∧
    (∀ (n : Nat), 0 + n = n) ∧
    (∀ (n : Nat), n * 1 = n) ∧
    ((¬False) = True) ∧
    ((¬True) = False) ∧
    (∀ (p : Prop), (True ∧ p) = p) ∧
    (∀ (p : Prop), (p ∧ True) = p) ∧
    (∀ (h : Decidable True), @decide True h = true) ∧
    (∀ (h : Decidable False), @decide False h = false) ∧
    ((!true) = false) ∧
    ((!false) = true) ∧
    ((false = true) = False) ∧
    (∀ (p : Prop), (p ∧ p) = p) ∧
    (∀ (n : Nat), n + 0 = n) ∧
    (∀ (α : Type) (a b : α), (a ≠ b) = ¬ (a = b)) ∧
    (∀ (α : Type) (a : α), (some a).isSome = true) ∧
    (∀ (α : Type) [BEq α] [ReflBEq α] (a : α), (a == a) = true) ∧
    (∀ (k : IntKind) (l : List Int), olds (l.map (PV.int k)) = l.map (PV.int k)) ∧
    (∀ (l : List Bool), olds (l.map PV.bool) = l.map PV.bool) ∧
    (∀ (h : Heap) (b : Nat) (cs : List PV), (h.set b cs).kill b = h.kill b)) ∧
    ((∀ (P : Program) (L : List Nat) (Q : Exit → Sl → Heap → Prop) (σ : Sl) (h : Heap), pwp P L .skip Q σ h = Q .normal σ h) ∧
    (∀ (P : Program) (L : List Nat) (Q : Exit → Sl → Heap → Prop) (σ : Sl) (h : Heap), pwp P L .ret Q σ h = Q .ret σ h) ∧
    (∀ (P : Program) (L : List Nat) (Q : Exit → Sl → Heap → Prop) (σ : Sl) (h : Heap), ∀ id, pwp P L (.exit id) Q σ h = Q (.exit id) σ h) ∧
    (∀ (P : Program) (L : List Nat) (Q : Exit → Sl → Heap → Prop) (σ : Sl) (h : Heap), ∀ dr l, pwp P L (.reg dr l) Q σ h = psteps P L dr (Q .normal) l σ h) ∧
    (∀ (P : Program) (L : List Nat) (Q : Exit → Sl → Heap → Prop) (σ : Sl) (h : Heap), ∀ a b, pwp P L (.seq a b) Q σ h = pwp P L a (thn (pwp P L b Q) Q) σ h) ∧
    (∀ (P : Program) (L : List Nat) (Q : Exit → Sl → Heap → Prop) (σ : Sl) (h : Heap), ∀ id a, pwp P L (.block id a) Q σ h = pwp P L a (blk id Q) σ h) ∧
    (∀ (P : Program) (L : List Nat) (Q : Exit → Sl → Heap → Prop) (σ : Sl) (h : Heap), ∀ c a b, pwp P L (.cond c a b) Q σ h = cdK (ev σ c) P L a b Q σ h) ∧
    (∀ (P : Program) (L : List Nat) (Q : Exit → Sl → Heap → Prop) (σ : Sl) (h : Heap), ∀ a b, cdK .anyb P L a b Q σ h = (pwp P L a Q σ h ∧ pwp P L b Q σ h)) ∧
    (∀ (P : Program) (L : List Nat) (Q : Exit → Sl → Heap → Prop) (σ : Sl) (h : Heap), ∀ a b, cdK (.bool true) P L a b Q σ h = pwp P L a Q σ h) ∧
    (∀ (P : Program) (L : List Nat) (Q : Exit → Sl → Heap → Prop) (σ : Sl) (h : Heap), ∀ a b, cdK (.bool false) P L a b Q σ h = pwp P L b Q σ h)) ∧
    ((∀ (K : Sl → Heap → Prop) (Q : Exit → Sl → Heap → Prop), thn K Q .normal = K) ∧
    (∀ (K : Sl → Heap → Prop) (Q : Exit → Sl → Heap → Prop), thn K Q .ret = Q .ret) ∧
    (∀ (K : Sl → Heap → Prop) (Q : Exit → Sl → Heap → Prop) (id : Nat), thn K Q (.exit id) = Q (.exit id)) ∧
    (∀ (Q : Exit → Sl → Heap → Prop) (id : Nat), blk id Q .normal = Q .normal) ∧
    (∀ (Q : Exit → Sl → Heap → Prop) (id : Nat), blk id Q .ret = Q .ret) ∧
    (∀ (Q : Exit → Sl → Heap → Prop) (σ : Sl) (h : Heap) (id : Nat) (id' : Nat), blk id Q (.exit id') σ h = if id' = id then Q .normal σ h else Q (.exit id') σ h)) ∧
    ((∀ (P : Program) (L : List Nat) (dr : Bool) (K : Sl → Heap → Prop) (σ : Sl) (h : Heap), psteps P L dr K [] σ h = K σ h) ∧
    (∀ (P : Program) (L : List Nat) (dr : Bool) (K : Sl → Heap → Prop) (σ : Sl) (h : Heap) (d : Option Nat) (op : Op) (l : List PS), psteps P L dr K (.mk d op none :: l) σ h = pv P dr (livO L d) op σ h (nx P L dr K l σ d)) ∧
    (∀ (P : Program) (L : List Nat) (dr : Bool) (K : Sl → Heap → Prop) (σ : Sl) (h : Heap) (d : Option Nat) (l : List PS) (v : PV), nx P L dr K l σ d v h = psteps P L dr K l (put σ d v) h) ∧
    (∀ (P : Program) (L : List Nat) (dr : Bool) (K : Sl → Heap → Prop) (σ : Sl) (h : Heap) (s : Nat) (m : Nat) (l : List PS), psteps P L dr K (.frzc s m :: l) σ h = fcK (frzC h (σ s) m) P L dr K l σ h) ∧
    (∀ (P : Program) (L : List Nat) (K : Sl → Heap → Prop) (σ : Sl) (h : Heap) (m : Nat) (t : Nat) (l : List PS) (cs : List PV), fcK (some (m, t, cs)) P L false K l σ h = psteps P L false K l σ ((h.kill t).set m cs)) ∧
    (∀ (P : Program) (L : List Nat) (dr : Bool) (K : Sl → Heap → Prop) (σ : Sl) (h : Heap) (s : Nat) (l : List PS), psteps P L dr K (.frz s :: l) σ h = fzK (frzV h (σ s)) P L dr K l σ s h) ∧
    (∀ (P : Program) (L : List Nat) (K : Sl → Heap → Prop) (σ : Sl) (h : Heap) (s : Nat) (m : Nat) (l : List PS) (v : PV), fzK (some (v, some m)) P L false K l σ s h = psteps P L false K l (put σ (some s) v) (h.kill m)) ∧
    (∀ (P : Program) (L : List Nat) (K : Sl → Heap → Prop) (σ : Sl) (h : Heap) (s : Nat) (l : List PS) (v : PV), fzK (some (v, none)) P L false K l σ s h = psteps P L false K l (put σ (some s) v) h) ∧
    (∀ (h : Heap), frzV h .nils = some (.nils, none)) ∧
    (∀ (h : Heap), ∀ q1 q2 q3 q4, frzV h (.list q1 q2 q3 q4) = some (.list q1 q2 q3 q4, none)) ∧
    (∀ (s : Nat), ∀ q1 q2 q3 q4, fz3 (some q4) s q1 q2 q3 = if q2 + q3 * q1 ≤ q4.length then some (.list false q1 q3 (olds ((q4.drop q2).take (q3 * q1))), some s) else none) ∧
    (∀ (h : Heap) (s : Nat) (m : Nat), frzV h (.ptr s m) = fz2 (h.f s) s m) ∧
    (∀ (h : Heap) (s : Nat) (m : Nat) (t : Nat) (u : Nat), frzV h (.buf s m t u) = fz3 (h.f s) s m t u) ∧
    (∀ (s : Nat) (m : Nat) (cs : List PV), fz2 (some cs) s m = some (.fptr false (olds cs) m, some s)) ∧
    (∀ (P : Program) (L : List Nat) (dr : Bool) (K : Sl → Heap → Prop) (σ : Sl) (h : Heap) (d : Option Nat) (op : Op) (s : Nat) (want : Bool) (l : List PS), psteps P L dr K (.mk d op (some (s, want)) :: l) σ h = gdK (σ s) want P L dr K d op l σ h) ∧
    (∀ (P : Program) (L : List Nat) (dr : Bool) (K : Sl → Heap → Prop) (σ : Sl) (h : Heap) (d : Option Nat) (op : Op) (l : List PS), gdK (.bool true) true P L dr K d op l σ h = psteps P L dr K (.mk d op none :: l) σ h) ∧
    (∀ (P : Program) (L : List Nat) (dr : Bool) (K : Sl → Heap → Prop) (σ : Sl) (h : Heap) (d : Option Nat) (op : Op) (l : List PS), gdK (.bool false) false P L dr K d op l σ h = psteps P L dr K (.mk d op none :: l) σ h) ∧
    (∀ (P : Program) (L : List Nat) (dr : Bool) (K : Sl → Heap → Prop) (σ : Sl) (h : Heap) (d : Option Nat) (op : Op) (want : Bool) (l : List PS), gdK (.tup []) want P L dr K d op l σ h = psteps P L dr K l (put σ d (.tup [])) h) ∧
    (∀ (P : Program) (L : List Nat) (dr : Bool) (K : Sl → Heap → Prop) (σ : Sl) (h : Heap) (d : Option Nat) (op : Op) (l : List PS), gdK (.bool true) false P L dr K d op l σ h = psteps P L dr K l (put σ d (.tup [])) h) ∧
    (∀ (P : Program) (L : List Nat) (dr : Bool) (K : Sl → Heap → Prop) (σ : Sl) (h : Heap) (d : Option Nat) (op : Op) (l : List PS), gdK (.bool false) true P L dr K d op l σ h = psteps P L dr K l (put σ d (.tup [])) h)) ∧
    ((∀ (P : Program) (dr : Bool) (live : Bool) (σ : Sl) (h : Heap) (K : Kt), ∀ x, pv P dr live (.move x) σ h K = K (ev σ x) h) ∧
    (∀ (P : Program) (dr : Bool) (live : Bool) (σ : Sl) (h : Heap) (K : Kt), ∀ x, pv P dr live (.assign x) σ h K = K (ev σ x) h) ∧
    (∀ (P : Program) (dr : Bool) (live : Bool) (σ : Sl) (h : Heap) (K : Kt), ∀ c a b, pv P dr live (.pick c a b) σ h K = pickK (ev σ c) (ev σ a) (ev σ b) K h) ∧
    (∀ (P : Program) (dr : Bool) (live : Bool) (σ : Sl) (h : Heap) (K : Kt), ∀ x, pv P dr live (.nilCheck x) σ h K = nilK (ev σ x) K h) ∧
    (∀ (P : Program) (dr : Bool) (live : Bool) (σ : Sl) (h : Heap) (K : Kt), ∀ s d x, pv P dr live (.convert s d x) σ h K = cvK (und P s) (ik P d) (ev σ x) K h) ∧
    (∀ (P : Program) (dr : Bool) (live : Bool) (σ : Sl) (h : Heap) (K : Kt), ∀ t x f, pv P dr live (.fieldAddr t x f) σ h K = faK (fld P t f) (ev σ x) K h) ∧
    (∀ (P : Program) (dr : Bool) (live : Bool) (σ : Sl) (h : Heap) (K : Kt), ∀ t x f, pv P dr live (.field t x f) σ h K = fdK (fld P t f) (ev σ x) K h) ∧
    (∀ (P : Program) (dr : Bool) (live : Bool) (σ : Sl) (h : Heap) (K : Kt), ∀ t x i, pv P dr live (.indexAddr t x i) σ h K = ixaK (esz P t) (ars P t) (ev σ x) (ev σ i) K h) ∧
    (∀ (P : Program) (dr : Bool) (live : Bool) (σ : Sl) (h : Heap) (K : Kt), ∀ t x i, pv P dr live (.index t x i) σ h K = ixvK (ars P t) (kd P t) (ev σ x) (ev σ i) K h) ∧
    (∀ (P : Program) (dr : Bool) (live : Bool) (σ : Sl) (h : Heap) (K : Kt), ∀ t x lo hi, pv P dr live (.slice t x lo hi none) σ h K = slcK (kd P t) (esz P t) (ev σ x) (lo.map (ev σ)) (hi.map (ev σ)) K h) ∧
    (∀ (P : Program) (dr : Bool) (live : Bool) (σ : Sl) (h : Heap) (K : Kt), ∀ x i, pv P dr live (.extract x i) σ h K = extK (ev σ x) i K h) ∧
    (∀ (P : Program) (dr : Bool) (live : Bool) (σ : Sl) (h : Heap) (K : Kt), ∀ t x, pv P dr live (.unOp .not t x) σ h K = notK (ev σ x) K h) ∧
    (∀ (P : Program) (dr : Bool) (live : Bool) (σ : Sl) (h : Heap) (K : Kt), ∀ t x, pv P dr live (.unOp .neg t x) σ h K = negK (ev σ x) K h) ∧
    (∀ (P : Program) (dr : Bool) (live : Bool) (σ : Sl) (h : Heap) (K : Kt), ∀ t x y u, pv P dr live (.binOp .eql t x y u) σ h K = eqK (kd P t) false (ev σ x) (ev σ y) K h) ∧
    (∀ (P : Program) (dr : Bool) (live : Bool) (σ : Sl) (h : Heap) (K : Kt), ∀ t x y u, pv P dr live (.binOp .neq t x y u) σ h K = eqK (kd P t) true (ev σ x) (ev σ y) K h) ∧
    (∀ (P : Program) (dr : Bool) (live : Bool) (σ : Sl) (h : Heap) (K : Kt), ∀ t x y u, pv P dr live (.binOp .shl t x y u) σ h K = shlK (ev σ x) (ev σ y) K h) ∧
    (∀ (P : Program) (dr : Bool) (live : Bool) (σ : Sl) (h : Heap) (K : Kt), ∀ t x y u, pv P dr live (.binOp .shr t x y u) σ h K = shrK (ev σ x) (ev σ y) K h) ∧
    (∀ (P : Program) (dr : Bool) (live : Bool) (σ : Sl) (h : Heap) (K : Kt), ∀ t x y u, pv P dr live (.binOp .add t x y u) σ h K = intK .add (ev σ x) (ev σ y) K h) ∧
    (∀ (P : Program) (dr : Bool) (live : Bool) (σ : Sl) (h : Heap) (K : Kt), ∀ t x y u, pv P dr live (.binOp .sub t x y u) σ h K = intK .sub (ev σ x) (ev σ y) K h) ∧
    (∀ (P : Program) (dr : Bool) (live : Bool) (σ : Sl) (h : Heap) (K : Kt), ∀ t x y u, pv P dr live (.binOp .mul t x y u) σ h K = intK .mul (ev σ x) (ev σ y) K h) ∧
    (∀ (P : Program) (dr : Bool) (live : Bool) (σ : Sl) (h : Heap) (K : Kt), ∀ t x y u, pv P dr live (.binOp .quo t x y u) σ h K = intK .quo (ev σ x) (ev σ y) K h) ∧
    (∀ (P : Program) (dr : Bool) (live : Bool) (σ : Sl) (h : Heap) (K : Kt), ∀ t x y u, pv P dr live (.binOp .rem t x y u) σ h K = intK .rem (ev σ x) (ev σ y) K h) ∧
    (∀ (P : Program) (dr : Bool) (live : Bool) (σ : Sl) (h : Heap) (K : Kt), ∀ t x y u, pv P dr live (.binOp .and t x y u) σ h K = intK .and (ev σ x) (ev σ y) K h) ∧
    (∀ (P : Program) (dr : Bool) (live : Bool) (σ : Sl) (h : Heap) (K : Kt), ∀ t x y u, pv P dr live (.binOp .lss t x y u) σ h K = intK .lss (ev σ x) (ev σ y) K h) ∧
    (∀ (P : Program) (dr : Bool) (live : Bool) (σ : Sl) (h : Heap) (K : Kt), ∀ t x y u, pv P dr live (.binOp .leq t x y u) σ h K = intK .leq (ev σ x) (ev σ y) K h) ∧
    (∀ (P : Program) (dr : Bool) (live : Bool) (σ : Sl) (h : Heap) (K : Kt), ∀ t x y u, pv P dr live (.binOp .gtr t x y u) σ h K = intK .gtr (ev σ x) (ev σ y) K h) ∧
    (∀ (P : Program) (dr : Bool) (live : Bool) (σ : Sl) (h : Heap) (K : Kt), ∀ t x y u, pv P dr live (.binOp .geq t x y u) σ h K = intK .geq (ev σ x) (ev σ y) K h) ∧
    (∀ (P : Program) (dr : Bool) (live : Bool) (σ : Sl) (h : Heap) (K : Kt), ∀ f a b, pv P dr live (.makeFunc (.func f) a b) σ h K = K (.fn f (a.toList.map (ev σ)) (b.toList.map (ev σ))) h) ∧
    (∀ (P : Program) (dr : Bool) (live : Bool) (σ : Sl) (h : Heap) (K : Kt), ∀ t ps, pv P dr live (.build t ps) σ h K = bldK (plc P t) (zc P t) (ps.toList.map fun p => (p.1, ev σ p.2)) K h) ∧
    (∀ (P : Program) (dr : Bool) (live : Bool) (σ : Sl) (h : Heap) (K : Kt), ∀ t a, pv P dr live (.load t a) σ h K = lzK dr live (tag P t) (tsz P t) h (ev σ a) K) ∧
    (∀ (P : Program) (dr : Bool) (live : Bool) (σ : Sl) (h : Heap) (K : Kt), ∀ t a x, pv P dr live (.store t a x) σ h K = stK (tsz P t) h (ev σ a) (ev σ x) K) ∧
    (∀ (P : Program) (dr : Bool) (live : Bool) (σ : Sl) (h : Heap) (K : Kt), ∀ t x, pv P dr live (.box t x) σ h K = boxK live dr h (flat (ev σ x)) K) ∧
    (∀ (P : Program) (dr : Bool) (live : Bool) (σ : Sl) (h : Heap) (K : Kt), ∀ t, pv P dr live (.alloc t) σ h K = boxK live false h (zc P t) K) ∧
    (∀ (P : Program) (dr : Bool) (live : Bool) (σ : Sl) (h : Heap) (K : Kt), ∀ t n ps, pv P dr live (.buildSlice t n ps) σ h K = litK live dr h n (bsl P t n (ps.toList.map fun p => (p.1, ev σ p.2))) K) ∧
    (∀ (P : Program) (dr : Bool) (live : Bool) (σ : Sl) (h : Heap) (K : Kt), ∀ t l c, pv P dr live (.makeSlice t l c) σ h K = mkK (eli P t) h (ev σ l) (ev σ c) K) ∧
    (∀ (P : Program) (dr : Bool) (live : Bool) (σ : Sl) (h : Heap) (K : Kt), ∀ f a ts, pv P dr live (.call ⟨.value f, a, ts⟩) σ h K = callK P dr live (ev σ f) (a.toList.map (ev σ)) h K) ∧
    (∀ (P : Program) (dr : Bool) (live : Bool) (σ : Sl) (h : Heap) (K : Kt), ∀ t x, pv P dr live (.call ⟨.builtin .len, #[x], #[t]⟩) σ h K = lenK (kd P t) (ev σ x) K h) ∧
    (∀ (P : Program) (dr : Bool) (live : Bool) (σ : Sl) (h : Heap) (K : Kt), ∀ a ts, pv P dr live (.call ⟨.builtin .min, a, ts⟩) σ h K = minK (a.toList.map (ev σ)) K h) ∧
    (∀ (P : Program) (dr : Bool) (live : Bool) (σ : Sl) (h : Heap) (K : Kt), ∀ a ts, pv P dr live (.call ⟨.builtin .max, a, ts⟩) σ h K = maxK (a.toList.map (ev σ)) K h) ∧
    (∀ (P : Program) (dr : Bool) (live : Bool) (σ : Sl) (h : Heap) (K : Kt), ∀ t x, pv P dr live (.call ⟨.builtin .cap, #[x], #[t]⟩) σ h K = capK (esz P t) (ev σ x) K h) ∧
    (∀ (P : Program) (dr : Bool) (live : Bool) (σ : Sl) (h : Heap) (K : Kt), ∀ t tx d x, pv P dr live (.call ⟨.builtin .copy, #[d, x], #[t, tx]⟩) σ h K = copK (esz P t) P tx h (ev σ d) (ev σ x) K) ∧
    (∀ (P : Program) (dr : Bool) (live : Bool) (σ : Sl) (h : Heap) (K : Kt), ∀ t tx s x, pv P dr live (.call ⟨.builtin .append, #[s, x], #[t, tx]⟩) σ h K = appK (eli P t) P tx h (ev σ s) (ev σ x) K)) ∧
    ((∀ (K : Kt) (h : Heap) (x : PV) (y : PV), pickK (.bool true) x y K h = K x h) ∧
    (∀ (K : Kt) (h : Heap) (x : PV) (y : PV), pickK (.bool false) x y K h = K y h) ∧
    (∀ (K : Kt) (h : Heap) (b : Nat) (o : Nat), nilK (.ptr b o) K h = K (.ptr b o) h) ∧
    (∀ (K : Kt) (h : Heap) (fr : Bool) (cs : List PV) (o : Nat), nilK (.fptr fr cs o) K h = K (.fptr fr cs o) h) ∧
    (∀ (K : Kt) (h : Heap) (k : IntKind) (k' : IntKind) (j : Int), cvK true (some k) (.int k' j) K h = K (.int k (k.wrap j)) h) ∧
    (∀ (K : Kt) (h : Heap) (b : Nat) (off : Nat) (n : Nat) (o : Nat) (g : Bool), faK (some (o, g, n)) (.ptr b off) K h = (n ≠ 0 ∧ K (.ptr b (off + o)) h)) ∧
    (∀ (K : Kt) (h : Heap) (fr : Bool) (cs : List PV) (off : Nat) (n : Nat) (o : Nat) (g : Bool), faK (some (o, g, n)) (.fptr fr cs off) K h = (n ≠ 0 ∧ K (.fptr fr cs (off + o)) h)) ∧
    (∀ (K : Kt) (h : Heap) (cs : List PV) (n : Nat) (o : Nat) (g : Bool), fdK (some (o, g, n)) (.agg cs) K h = ldvK false g n cs o K h) ∧
    (∀ (K : Kt) (h : Heap) (x : PV), getK false (some x) K h = K x h) ∧
    (∀ (K : Kt) (h : Heap) (x : PV), getK true (some x) K h = K x.old h) ∧
    (∀ (K : Kt) (h : Heap) (cs : List PV) (off : Nat) (n : Nat), ldvK false true n cs off K h = (off + n ≤ cs.length ∧ K (.agg ((cs.drop off).take n)) h)) ∧
    (∀ (K : Kt) (h : Heap) (cs : List PV) (off : Nat) (n : Nat), ldvK true true n cs off K h = (off + n ≤ cs.length ∧ K (PV.agg ((cs.drop off).take n)).old h)) ∧
    (∀ (K : Kt) (h : Heap) (cs : List PV) (off : Nat) (n : Nat) (w : Bool), ldvK w false n cs off K h = getK w cs[off]? K h) ∧
    (∀ (K : Kt) (h : Heap) (fr : Bool) (cs : List PV) (E : Nat) (n : Nat) (k : IntKind) (j : Int) (e : Option Nat) (r : Option (Nat × Nat × Bool)), ixaK e r (.list fr E n cs) (.int k j) K h = (e = some E ∧ 0 ≤ j ∧ j < n ∧ K (.fptr fr cs (j.toNat * E)) h)) ∧
    (∀ (K : Kt) (h : Heap) (b : Nat) (off : Nat) (E : Nat) (n : Nat) (k : IntKind) (j : Int) (e : Option Nat) (r : Option (Nat × Nat × Bool)), ixaK e r (.buf b E off n) (.int k j) K h = (e = some E ∧ 0 ≤ j ∧ j < n ∧ K (.ptr b (off + j.toNat * E)) h)) ∧
    (∀ (K : Kt) (h : Heap) (b : Nat) (off : Nat) (E : Nat) (n : Nat) (k : IntKind) (j : Int) (g : Bool) (e : Option Nat), ixaK e (some (n, E, g)) (.ptr b off) (.int k j) K h = (0 ≤ j ∧ j < n ∧ K (.ptr b (off + j.toNat * E)) h)) ∧
    (∀ (K : Kt) (h : Heap) (fr : Bool) (cs : List PV) (off : Nat) (E : Nat) (n : Nat) (k : IntKind) (j : Int) (g : Bool) (e : Option Nat), ixaK e (some (n, E, g)) (.fptr fr cs off) (.int k j) K h = (0 ≤ j ∧ j < n ∧ K (.fptr fr cs (off + j.toNat * E)) h)) ∧
    (∀ (K : Kt) (h : Heap) (cs : List PV) (E : Nat) (n : Nat) (k : IntKind) (j : Int) (g : Bool) (t : Option Nat), ixvK (some (n, E, g)) t (.agg cs) (.int k j) K h = (0 ≤ j ∧ j < n ∧ ldvK false g E cs (j.toNat * E) K h)) ∧
    (∀ (K : Kt) (h : Heap) (k : IntKind) (j : Int) (r : Option (Nat × Nat × Bool)) (t : Option Nat) (s : ByteArray), ixvK r t (.str s) (.int k j) K h = (t = some 0 ∧ 0 ≤ j ∧ getK false (s[j.toNat]?.map fun z => .int .u8 z.toNat) K h)) ∧
    (∀ (K : Kt) (h : Heap) (cs : List PV) (n : Nat), extK (.tup cs) n K h = getK false cs[n]? K h) ∧
    (∀ (K : Kt) (h : Heap) (t : Option Nat) (s : ByteArray), lenK t (.str s) K h = (t = some 0 ∧ K (.int .i64 s.size) h)) ∧
    (∀ (K : Kt) (h : Heap) (t : Option Nat), lenK t .nils K h = (t = some 1 ∧ K (.int .i64 0) h)) ∧
    (∀ (K : Kt) (h : Heap) (fr : Bool) (cs : List PV) (E : Nat) (n : Nat) (t : Option Nat), lenK t (.list fr E n cs) K h = (t = some 1 ∧ K (.int .i64 n) h)) ∧
    (∀ (K : Kt) (h : Heap) (b : Nat) (off : Nat) (E : Nat) (n : Nat) (t : Option Nat), lenK t (.buf b E off n) K h = (t = some 1 ∧ K (.int .i64 n) h)) ∧
    (∀ (K : Kt) (h : Heap) (g : Bool), notK (.bool g) K h = K (.bool !g) h) ∧
    (∀ (K : Kt) (h : Heap) (k : IntKind) (j : Int), negK (.int k j) K h = K (.int k (k.wrap (0 - j))) h) ∧
    (∀ (K : Kt) (h : Heap) (k : IntKind) (k' : IntKind) (a : Int) (c : Int), intK .add (.int k a) (.int k' c) K h = (k = k' ∧ K (.int k (k.wrap (a + c))) h)) ∧
    (∀ (K : Kt) (h : Heap) (k : IntKind) (k' : IntKind) (a : Int) (c : Int), intK .sub (.int k a) (.int k' c) K h = (k = k' ∧ K (.int k (k.wrap (a - c))) h)) ∧
    (∀ (K : Kt) (h : Heap) (k : IntKind) (k' : IntKind) (a : Int) (c : Int), intK .mul (.int k a) (.int k' c) K h = (k = k' ∧ K (.int k (k.wrap (a * c))) h)) ∧
    (∀ (K : Kt) (h : Heap) (k : IntKind) (k' : IntKind) (a : Int) (c : Int), intK .quo (.int k a) (.int k' c) K h = (k = k' ∧ c ≠ 0 ∧ K (.int k (k.wrap (a.tdiv c))) h)) ∧
    (∀ (K : Kt) (h : Heap) (k : IntKind) (k' : IntKind) (a : Int) (c : Int), intK .rem (.int k a) (.int k' c) K h = (k = k' ∧ c ≠ 0 ∧ K (.int k (a.tmod c)) h)) ∧
    (∀ (K : Kt) (h : Heap) (k : IntKind) (k' : IntKind) (a : Int) (c : Int), intK .and (.int k a) (.int k' c) K h = (k = k' ∧ K (.int k (k.wrap (BitVec.ofInt k.bits a &&& BitVec.ofInt k.bits c).toNat)) h)) ∧
    (∀ (K : Kt) (h : Heap) (k : IntKind) (k' : IntKind) (a : Int) (c : Int), intK .lss (.int k a) (.int k' c) K h = (k = k' ∧ K (.bool (decide (a < c))) h)) ∧
    (∀ (K : Kt) (h : Heap) (k : IntKind) (k' : IntKind) (a : Int) (c : Int), intK .leq (.int k a) (.int k' c) K h = (k = k' ∧ K (.bool (decide (a ≤ c))) h)) ∧
    (∀ (K : Kt) (h : Heap) (k : IntKind) (k' : IntKind) (a : Int) (c : Int), intK .gtr (.int k a) (.int k' c) K h = (k = k' ∧ K (.bool (decide (c < a))) h)) ∧
    (∀ (K : Kt) (h : Heap) (k : IntKind) (k' : IntKind) (a : Int) (c : Int), intK .geq (.int k a) (.int k' c) K h = (k = k' ∧ K (.bool (decide (c ≤ a))) h)) ∧
    (∀ (K : Kt) (h : Heap) (k : IntKind) (k' : IntKind) (a : Int) (c : Int), shlK (.int k a) (.int k' c) K h = (0 ≤ c ∧ K (.int k (k.wrap (a * 2 ^ (min c.toNat k.bits)))) h)) ∧
    (∀ (K : Kt) (h : Heap) (k : IntKind) (k' : IntKind) (a : Int) (c : Int), shrK (.int k a) (.int k' c) K h = (0 ≤ c ∧ K (.int k (a.fdiv (2 ^ (min c.toNat k.bits)))) h)) ∧
    (∀ (K : Kt) (h : Heap) (k : IntKind) (k' : IntKind) (a : Int) (c : Int), minK [.int k a, .int k' c] K h = K (.int k (if c < a then c else a)) h) ∧
    (∀ (K : Kt) (h : Heap) (k : IntKind) (k' : IntKind) (a : Int) (c : Int), maxK [.int k a, .int k' c] K h = K (.int k (if a < c then c else a)) h) ∧
    (∀ (K : Kt) (h : Heap), ∀ l1 u1 w1 p1, lzK false l1 u1 w1 h p1 K = ldK u1 w1 h p1 K) ∧
    (∀ (K : Kt) (h : Heap), ∀ u1 w1 p1, lzK true false u1 w1 h p1 K = ldK u1 w1 h p1 K) ∧
    (∀ (K : Kt) (h : Heap) (fr : Bool) (cs : List PV) (off : Nat), ∀ u1 w1, lzK true true u1 w1 h (.fptr fr cs off) K = ldK u1 w1 h (.fptr fr cs off) K) ∧
    (∀ (K : Kt) (h : Heap) (fr : Bool) (cs : List PV) (off : Nat) (n : Nat) (g : Bool), ldK (some g) (some n) h (.fptr fr cs off) K = ldvK false g n cs off K h) ∧
    (∀ (K : Kt) (h : Heap) (b : Nat) (off : Nat) (n : Nat) (g : Bool), ldK (some g) (some n) h (.ptr b off) K = ldhK (h.f b) g n off K h) ∧
    (∀ (K : Kt) (h : Heap) (cs : List PV) (off : Nat) (n : Nat) (g : Bool), ldhK (some cs) g n off K h = ldvK true g n cs off K h) ∧
    (∀ (K : Kt) (h : Heap) (b : Nat) (off : Nat) (n : Nat) (x : PV), stK (some n) h (.ptr b off) x K = sthK (h.f b) (flat x) n b off K h) ∧
    (∀ (K : Kt) (h : Heap) (cs : List PV) (new : List PV) (b : Nat) (off : Nat) (n : Nat), sthK (some cs) (some new) n b off K h = (new.length = n ∧ off + n ≤ cs.length ∧ K .undef (h.set b (wr cs off new)))) ∧
    (∀ (K : Kt) (h : Heap) (cs : List PV), bl2K (some cs) K h = K (.agg cs) h) ∧
    (∀ (K : Kt) (h : Heap) (new : List PV) (E : Nat), apnK 1 E new K h = ∀ b', h.f b' = none → K (.buf b' E 0 1) (h.set b' new)) ∧
    (∀ (K : Kt) (h : Heap) (new : List PV) (E : Nat), apnK 0 E new K h = K .nils h) ∧
    (∀ (K : Kt) (h : Heap) (cs : List PV) (new : List PV) (b : Nat) (E : Nat) (n : Nat) (m : Nat), apbK (some cs) b E n m new K h = (n * E ≤ cs.length ∧ ∀ b', (b' = b ∨ h.f b' = none) → K (.buf b' E 0 (n + m)) ((h.kill b).set b' (cs.take (n * E) ++ new)))) ∧
    (∀ (K : Kt) (h : Heap) (new : List PV) (E : Nat) (m : Nat) (by_ : Nat), ap2K (some (m, new)) E by_ .nils K h = (m * by_ ≤ 140737488355328 ∧ m ≤ maxLen ∧ apnK m E new K h)) ∧
    (∀ (K : Kt) (h : Heap) (new : List PV) (b : Nat) (off : Nat) (E : Nat) (n : Nat) (o : Nat) (m : Nat) (by_ : Nat), ap2K (some (m, new)) E by_ (.buf b n off o) K h = (n = E ∧ off = 0 ∧ (o + m) * by_ ≤ 140737488355328 ∧ o + m ≤ maxLen ∧ apbK (h.f b) b E o m new K h))) ∧
    ((∀ (K : Kt) (h : Heap) (k : IntKind) (k' : IntKind) (a : Int) (c : Int) (t : Option Nat), eqK t false (.int k a) (.int k' c) K h = (k = k' ∧ K (.bool (decide (a = c))) h)) ∧
    (∀ (K : Kt) (h : Heap) (k : IntKind) (k' : IntKind) (a : Int) (c : Int) (t : Option Nat), eqK t true (.int k a) (.int k' c) K h = (k = k' ∧ K (.bool !decide (a = c)) h)) ∧
    (∀ (K : Kt) (h : Heap) (x : Bool) (y : Bool) (t : Option Nat), eqK t false (.bool x) (.bool y) K h = (t = some 3 ∧ K (.bool (x == y)) h)) ∧
    (∀ (K : Kt) (h : Heap) (x : Bool) (y : Bool) (t : Option Nat), eqK t true (.bool x) (.bool y) K h = (t = some 3 ∧ K (.bool !(x == y)) h)) ∧
    (∀ (K : Kt) (h : Heap) (t : Option Nat) (s : ByteArray) (u : ByteArray), eqK t false (.str s) (.str u) K h = K (.bool (s.toList == u.toList)) h) ∧
    (∀ (K : Kt) (h : Heap) (t : Option Nat) (s : ByteArray) (u : ByteArray), eqK t true (.str s) (.str u) K h = K (.bool !(s.toList == u.toList)) h) ∧
    (∀ (K : Kt) (h : Heap) (neg : Bool) (t : Option Nat), eqK t neg .nilp .nilp K h = (t = some 2 ∧ K (.bool !neg) h)) ∧
    (∀ (K : Kt) (h : Heap) (neg : Bool) (b : Nat) (off : Nat) (t : Option Nat), eqK t neg (.ptr b off) .nilp K h = (t = some 2 ∧ K (.bool neg) h)) ∧
    (∀ (K : Kt) (h : Heap) (fr : Bool) (neg : Bool) (cs : List PV) (off : Nat) (t : Option Nat), eqK t neg (.fptr fr cs off) .nilp K h = (t = some 2 ∧ K (.bool neg) h)) ∧
    (∀ (K : Kt) (h : Heap) (neg : Bool) (cs : List PV) (ds : List PV) (t : Option Nat), eqK t neg (.agg cs) (.agg ds) K h = ((t = some (2 * cs.length + 10) ∧ cqK (ceq cs ds) neg K h) ∨ (t = some (2 * cs.length + 11) ∧ cqK (ceqB cs ds) neg K h))) ∧
    (ceqB [] [] = some true) ∧
    (∀ (cs : List PV) (ds : List PV) (x : Bool) (y : Bool), ceqB (.bool x :: cs) (.bool y :: ds) = (ceqB cs ds).map fun r => (x == y) && r) ∧
    (∀ (K : Kt) (h : Heap) (x : Bool), cqK (some x) false K h = K (.bool x) h) ∧
    (∀ (K : Kt) (h : Heap) (x : Bool), cqK (some x) true K h = K (.bool !x) h) ∧
    (ceq [] [] = some true) ∧
    (∀ (cs : List PV) (ds : List PV) (k : IntKind) (k' : IntKind) (a : Int) (c : Int), ceq (.int k a :: cs) (.int k' c :: ds) = if k = k' then (ceq cs ds).map fun r => decide (a = c) && r else none) ∧
    (∀ (K : Kt) (h : Heap) (neg : Bool) (t : Option Nat), eqK t neg .nils .nils K h = (t = some 1 ∧ K (.bool !neg) h)) ∧
    (∀ (K : Kt) (h : Heap) (neg : Bool) (b : Nat) (off : Nat) (E : Nat) (n : Nat) (t : Option Nat), eqK t neg (.buf b E off n) .nils K h = (t = some 1 ∧ K (.bool neg) h)) ∧
    (∀ (K : Kt) (h : Heap) (fr : Bool) (neg : Bool) (cs : List PV) (E : Nat) (n : Nat) (t : Option Nat), eqK t neg (.list fr E n cs) .nils K h = (t = some 1 ∧ if n = 0 then K .anyb h else K (.bool neg) h))) ∧
    ((∀ (dr : Bool) (h : Heap) (K : Kt) (cs : List PV), boxK true dr h (some cs) K = (dr = false ∧ ∀ b, h.f b = none → K (.ptr b 0) (h.set b cs))) ∧
    (∀ (dr : Bool) (h : Heap) (K : Kt) (cs : List PV), boxK false dr h (some cs) K = K (.fptr true cs 0) h) ∧
    (∀ (dr : Bool) (h : Heap) (K : Kt) (n : Nat) (r : Nat × List PV), litK true dr h n (some r) K = (dr = false ∧ ∀ b, h.f b = none → K (.buf b r.1 0 n) (h.set b r.2))) ∧
    (∀ (dr : Bool) (h : Heap) (K : Kt) (n : Nat) (r : Nat × List PV), litK false dr h n (some r) K = K (.list true r.1 n r.2) h) ∧
    (∀ (h : Heap) (K : Kt) (r1 : Nat) (r2 : Nat) (zs : List PV) (k : IntKind) (k' : IntKind) (a : Int) (c : Int), mkK (some (r1, r2, zs)) h (.int k a) (.int k' c) K = (0 ≤ a ∧ a ≤ c ∧ (r2 : Int) * c ≤ 281474976710656 ∧ c ≤ 9223372036854775807 ∧ ∀ b, h.f b = none → K (.buf b r1 0 a.toNat) (h.set b (rep a.toNat zs)))) ∧
    (∀ (P : Program) (h : Heap) (K : Kt) (r1 : Nat) (r2 : Nat) (zs : List PV) (tx : TypeId) (s : PV) (x : PV), appK (some (r1, r2, zs)) P tx h s x K = ap2K (srcv P h r1 tx x) r1 r2 s K h) ∧
    (∀ (h : Heap) (K : Kt) (n : Nat), capK (some n) .nils K h = K (.int .i64 0) h) ∧
    (∀ (P : Program) (h : Heap) (K : Kt) (n : Nat) (tx : TypeId) (s : PV) (x : PV), copK (some n) P tx h s x K = cp2K (srcv P h n tx x) n s K h) ∧
    (∀ (h : Heap) (K : Kt) (n : Nat) (r : Nat × List PV), cp2K (some r) n .nils K h = K (.int .i64 0) h) ∧
    (∀ (h : Heap) (K : Kt) (n : Nat) (cs : List PV) (r : Nat × List PV), ∀ fr q1 q2, cp2K (some r) n (.list fr q1 q2 cs) K h = (q2 = 0 ∧ K (.int .i64 0) h)) ∧
    (∀ (h : Heap) (K : Kt) (n : Nat) (nl : Nat) (nc : Nat) (m : Nat) (zs : List PV), ∀ b off, cp2K (some (m, zs)) n (.buf b nl off nc) K h = (nl = n ∧ zs.length = m * n ∧ cp3K (h.f b) b off nc m n zs K h)) ∧
    (∀ (h : Heap) (K : Kt) (n : Nat) (nc : Nat) (m : Nat) (cs : List PV) (zs : List PV), ∀ b off, cp3K (some cs) b off nc m n zs K h = (off + nc * n ≤ cs.length ∧ K (.int .i64 (min m nc : Nat)) (h.set b (wr cs off (zs.take (min m nc * n)))))) ∧
    (∀ (P : Program) (h : Heap) (K : Kt) (f : FuncId) (first : List PV) (caps : List PV) (args : List PV), callK P true true (.fn f first caps) args h K = ∃ S : PV → Heap → Prop, (∃ v h', S v h') ∧ CanP P f (first ++ args ++ caps) h S ∧ ∀ v h', S v h' → K v h') ∧
    (∀ (P : Program) (h : Heap) (K : Kt) (f : FuncId) (first : List PV) (caps : List PV) (args : List PV), callK P true false (.fn f first caps) args h K = ∃ z, CanP P f (first ++ args ++ caps) h (fun r' h' => r' = z ∧ h' = h) ∧ K z h) ∧
    (∀ (P : Program) (live : Bool) (h : Heap) (K : Kt) (f : FuncId) (first : List PV) (caps : List PV) (args : List PV), callK P false live (.fn f first caps) args h K = CanP P f (first ++ args ++ caps) h K)) ∧
    ((∀ (σ : Sl) (t : Nat), ev σ (.tmp t) = σ t) ∧
    (∀ (σ : Sl) (c : Value), ev σ (.const c) = cval c) ∧
    (∀ (σ : Sl) (f : FuncId), ev σ (.func f) = .fn f [] []) ∧
    (∀ (k : IntKind) (n : Int), cval (.int k n) = .int k n) ∧
    (∀ (b : Bool), cval (.bool b) = .bool b) ∧
    (∀ (s : ByteArray), cval (.string s) = .str s) ∧
    (cval (.slice none 0 0) = .nils) ∧
    (cval (.pointer none) = .nilp) ∧
    (cval .nilFunc = .nilf) ∧
    (∀ (σ : Sl) (t : Nat) (d : Nat) (v : PV), put σ (some d) v t = if t = d then v else σ t) ∧
    (∀ (σ : Sl) (v : PV), put σ none v = σ) ∧
    (∀ (t : Nat), slots0 [] t = .undef) ∧
    (∀ (a : PV) (l : List PV), slots0 (a :: l) 0 = a) ∧
    (∀ (t : Nat) (a : PV) (l : List PV), slots0 (a :: l) (t + 1) = slots0 l t) ∧
    (∀ (L : List Nat), livO L none = false) ∧
    (∀ (d : Nat) (L : List Nat), livO L (some d) = liv L d) ∧
    (∀ (d : Nat), liv [] d = false) ∧
    (∀ (d : Nat) (L : List Nat) (m : Nat), liv (m :: L) d = if d = m then true else liv L d) ∧
    (∀ (k : IntKind) (n : Int), flat (.int k n) = some [.int k n]) ∧
    (∀ (b : Bool), flat (.bool b) = some [.bool b]) ∧
    (∀ (s : ByteArray), flat (.str s) = some [.str s]) ∧
    (∀ (l : List PV), flat (.agg l) = some l) ∧
    (flat .nils = some [.nils]) ∧
    (flat .nilp = some [.nilp])) ∧
    ((∀ (fr : Bool) (E : Nat) (n : Nat) (cs : List PV), flat (.list fr E n cs) = some [.list fr E n cs]) ∧
    (∀ (E : Nat) (n : Nat) (b : Nat) (off : Nat), flat (.buf b E off n) = some [.buf b E off n]) ∧
    (∀ (b : Nat) (off : Nat), flat (.ptr b off) = some [.ptr b off]) ∧
    (∀ (fr : Bool) (cs : List PV) (off : Nat), flat (.fptr fr cs off) = some [.fptr fr cs off]) ∧
    (∀ (f : FuncId) (x : List PV) (y : List PV), flat (.fn f x y) = some [.fn f x y])) ∧
    ((olds [] = []) ∧
    (∀ (cs : List PV) (c : PV), olds (c :: cs) = c.old :: olds cs) ∧
    (∀ (fr : Bool) (E : Nat) (n : Nat) (cs : List PV), PV.old (.list fr E n cs) = .list false E n (olds cs)) ∧
    (∀ (fr : Bool) (cs : List PV) (off : Nat), PV.old (.fptr fr cs off) = .fptr false (olds cs) off) ∧
    (∀ (k : IntKind) (i : Int), PV.old (.int k i) = .int k i) ∧
    (∀ (q : Bool), PV.old (.bool q) = .bool q) ∧
    (∀ (s : ByteArray), PV.old (.str s) = .str s) ∧
    (∀ (cs : List PV), PV.old (.agg cs) = .agg (olds cs)) ∧
    (∀ (cs : List PV), PV.old (.tup cs) = .tup (olds cs)) ∧
    (PV.old .nils = .nils) ∧
    (PV.old .nilp = .nilp) ∧
    (PV.old .nilf = .nilf) ∧
    (∀ (E : Nat) (n : Nat) (b : Nat) (off : Nat), PV.old (.buf b E off n) = .buf b E off n) ∧
    (∀ (b : Nat) (off : Nat), PV.old (.ptr b off) = .ptr b off) ∧
    (∀ (f : FuncId) (x : List PV) (y : List PV), PV.old (.fn f x y) = .fn f (olds x) (olds y))) ∧
    ((∀ (α : Type) (l : List α), l.toArray.toList = l) ∧
    (∀ (α : Type) (β : Type) (f : α → β), [].map f = []) ∧
    (∀ (α : Type) (β : Type) (l : List α) (f : α → β) (a : α), (a :: l).map f = f a :: l.map f) ∧
    (∀ (α : Type) (l : List α), ([] : List α) ++ l = l) ∧
    (∀ (α : Type) (l : List α), l ++ [] = l) ∧
    (∀ (α : Type) (l : List α) (a : α) (l2 : List α), a :: l ++ l2 = a :: (l ++ l2)) ∧
    (∀ (α : Type) (l : List α) (a : α), (a :: l)[0]? = some a) ∧
    (∀ (α : Type) (l : List α) (a : α), ∀ i, (a :: l)[i + 1]? = l[i]?) ∧
    (∀ (α : Type) (l : List α), l.drop 0 = l) ∧
    (∀ (α : Type) (l : List α) (a : α), ∀ i, (a :: l).drop (i + 1) = l.drop i) ∧
    (∀ (α : Type) (l : List α), l.take 0 = []) ∧
    (∀ (α : Type) (l : List α) (a : α), ∀ i, (a :: l).take (i + 1) = a :: l.take i) ∧
    (∀ (α : Type), ([] : List α).length = 0) ∧
    (∀ (α : Type) (l : List α) (a : α), (a :: l).length = l.length + 1) ∧
    (∀ (α : Type) (β : Type) (f : α → β), Option.map f none = none) ∧
    (∀ (α : Type) (β : Type) (f : α → β) (a : α), Option.map f (some a) = some (f a))) ∧
    ((∀ (P : Program) (σ : Sl) (h : Heap) (h0 : Heap) (rs : List ResultVar) (K : Kt), fin P rs h0 K .ret σ h = finR (ress P rs σ h) h0 K h) ∧
    (∀ (P : Program) (σ : Sl) (h : Heap) (h0 : Heap) (rs : List ResultVar) (K : Kt), fin P rs h0 K .normal σ h = finR (ress P rs σ h) h0 K h) ∧
    (∀ (h : Heap) (h0 : Heap) (K : Kt) (v : PV), finR (some v) h0 K h = finK v h0 K h) ∧
    (∀ (P : Program) (σ : Sl) (h : Heap) (t : Nat), resv P σ h (.tmp t) = some (σ t)) ∧
    (∀ (P : Program) (σ : Sl) (h : Heap) (a : Nat) (u : TypeId), resv P σ h (.cell a u) = ldp2 (tag P u) (tsz P u) h (σ a)) ∧
    (∀ (P : Program) (σ : Sl) (h : Heap) (r : ResultVar), ress P [r] σ h = resv P σ h r) ∧
    (∀ (P : Program) (σ : Sl) (h : Heap), ress P [] σ h = some (.tup [])) ∧
    (∀ (P : Program) (σ : Sl) (h : Heap) (r : ResultVar) (r2 : ResultVar) (rs : List ResultVar), ress P (r :: r2 :: rs) σ h = (resl P σ h (r :: r2 :: rs)).map .tup) ∧
    (∀ (P : Program) (σ : Sl) (h : Heap), resl P σ h [] = some []) ∧
    (∀ (P : Program) (σ : Sl) (h : Heap) (r : ResultVar) (rs : List ResultVar), resl P σ h (r :: rs) = consO (resv P σ h r) (resl P σ h rs)) ∧
    (∀ (v : PV) (l : List PV), consO (some v) (some l) = some (v :: l)) ∧
    (∀ (h : Heap) (n : Nat) (off : Nat) (cs : List PV) (g : Bool) (fr : Bool), ldp2 (some g) (some n) h (.fptr fr cs off) = ldv g n cs off) ∧
    (∀ (n : Nat) (off : Nat) (cs : List PV), ldv true n cs off = if off + n ≤ cs.length then some (.agg ((cs.drop off).take n)) else none) ∧
    (∀ (n : Nat) (off : Nat) (cs : List PV), ldv false n cs off = cs[off]?)) := by
  refine ⟨⟨or_false, false_or, Bool.and_self, Bool.and_true, Bool.true_and, Bool.and_false, Bool.false_and, Bool.not_not, Heap.set_same, Heap.set_set, Int.toNat_natCast, Int.natCast_nonneg, fun _ _ => Int.ofNat_lt, fun _ _ => Int.ofNat_le, fun _ _ => Int.natCast_inj, Nat.zero_mul, Nat.zero_add, Nat.mul_one, not_false_eq_true, not_true_eq_false, true_and, and_true, decide_true, decide_false, Bool.not_true, Bool.not_false, Bool.false_eq_true, and_self, Nat.add_zero, fun _ _ _ => rfl, fun _ _ => rfl, fun _ _ _ _ => beq_self_eq_true _, fun _ l => olds_ints l, olds_bools, Heap.kill_kset⟩, ⟨?_, ?_, ?_, ?_, ?_, ?_, ?_, ?_, ?_, ?_⟩, ⟨?_, ?_, ?_, ?_, ?_, ?_⟩, ⟨?_, ?_, ?_, ?_, ?_, ?_, ?_, ?_, ?_, ?_, ?_, ?_, ?_, ?_, ?_, ?_, ?_, ?_, ?_, ?_⟩, ⟨?_, ?_, ?_, ?_, ?_, ?_, ?_, ?_, ?_, ?_, ?_, ?_, ?_, ?_, ?_, ?_, ?_, ?_, ?_, ?_, ?_, ?_, ?_, ?_, ?_, ?_, ?_, ?_, ?_, ?_, ?_, ?_, ?_, ?_, ?_, ?_, ?_, ?_, ?_, ?_, ?_, ?_⟩, ⟨?_, ?_, ?_, ?_, ?_, ?_, ?_, ?_, ?_, ?_, ?_, ?_, ?_, ?_, ?_, ?_, ?_, ?_, ?_, ?_, ?_, ?_, ?_, ?_, ?_, ?_, ?_, ?_, ?_, ?_, ?_, ?_, ?_, ?_, ?_, ?_, ?_, ?_, ?_, ?_, ?_, ?_, ?_, ?_, ?_, ?_, ?_, ?_, ?_, ?_, ?_, ?_, ?_, ?_⟩, ⟨?_, ?_, ?_, ?_, ?_, ?_, ?_, ?_, ?_, ?_, ?_, ?_, ?_, ?_, ?_, ?_, ?_, ?_, ?_⟩, ⟨?_, ?_, ?_, ?_, ?_, ?_, ?_, ?_, ?_, ?_, ?_, ?_, ?_, ?_, ?_⟩, ⟨?_, ?_, ?_, ?_, ?_, ?_, ?_, ?_, ?_, ?_, ?_, ?_, ?_, ?_, ?_, ?_, ?_, ?_, ?_, ?_, ?_, ?_, ?_, ?_⟩, ⟨?_, ?_, ?_, ?_, ?_⟩, ⟨?_, ?_, ?_, ?_, ?_, ?_, ?_, ?_, ?_, ?_, ?_, ?_, ?_, ?_, ?_⟩, ⟨?_, ?_, ?_, ?_, ?_, ?_, ?_, ?_, ?_, ?_, ?_, ?_, ?_, ?_, ?_, ?_⟩, ⟨?_, ?_, ?_, ?_, ?_, ?_, ?_, ?_, ?_, ?_, ?_, ?_, ?_, ?_⟩⟩ <;> intros <;> first | rfl | exact fin_rule | exact fin_rule2 | (simp [fcK, fzK, Heap.killO, frzV, fz2, fz3, finR, ress, resl, consO, resv, ldp2, ldp, ldv, cdK, gdK, pickK, getK, ldvK, eqK, boxK, litK, callK, apnK, slots0]; done)
end Go.Pm
