/-
  An abstract machine over pure values, part N: small rules for a walk.
  Conditions: none.
-/
import Derived.Test.YtdllafendiaplaaPmM
namespace Go.Pm
set_option linter.unusedVariables false
set_option linter.unusedSimpArgs false

theorem can_of2 {P : Program} {L : List Nat} {n : Nat} {f : FuncId} {fn : Func} {pc : PC} {rs : List ResultVar} {args : List PV} {h : Heap} {K : PV → Heap → Prop} (hm : P.follows .mixedOrders = true) (hf : P.funcs[f]? = some fn)
    (hname : (fn.name == "runtime.NumGoroutine") = false) (hs : fn.body.bind (strip n L) = some pc.era) (hn : args.length + (fn.ntmps - args.length) = n) (hrs : fn.results.toList = rs) (hr : rs.all (okRes n) = true)
    (s : pwp P L pc (fin P rs h K) (slots0 (olds args)) h) : CanP P f args h K := by
  subst hrs
  cases hb : fn.body with
  | none => rw [hb] at hs; cases hs
  | some c => rw [hb] at hs; exact can_of hm hf hname hb hn hr hs s

section
variable {P : Program} {L : List Nat} {Q : Exit → Sl → Heap → Prop} {σ : Sl} {h : Heap}
theorem pwp_skip : pwp P L .skip Q σ h = Q .normal σ h := rfl
theorem pwp_ret : pwp P L .ret Q σ h = Q .ret σ h := rfl
theorem pwp_exit {id : Nat} : pwp P L (.exit id) Q σ h = Q (.exit id) σ h := rfl
theorem pwp_reg {dr : Bool} {l : List PS} : pwp P L (.reg dr l) Q σ h = psteps P L dr (Q .normal) l σ h := rfl
theorem pwp_seq {a b : PC} : pwp P L (.seq a b) Q σ h = pwp P L a (thn (pwp P L b Q) Q) σ h := rfl
theorem pwp_block {id : Nat} {a : PC} : pwp P L (.block id a) Q σ h = pwp P L a (blk id Q) σ h := rfl
/-- A branch, by what the test has come to. -/
def cdK (v : PV) (P : Program) (L : List Nat) (a b : PC) (Q : Exit → Sl → Heap → Prop) (σ : Sl) (h : Heap) : Prop := match v with | .bool t => if t then pwp P L a Q σ h else pwp P L b Q σ h | .anyb => pwp P L a Q σ h ∧ pwp P L b Q σ h | _ => False
theorem pwp_cond {c : Operand} {a b : PC} : pwp P L (.cond c a b) Q σ h = cdK (ev σ c) P L a b Q σ h := rfl
theorem cdK_dec {p : Prop} [Decidable p] {a b : PC} : cdK (.bool (decide p)) P L a b Q σ h = ((p → pwp P L a Q σ h) ∧ (¬p → pwp P L b Q σ h)) := by
  by_cases hp : p <;> simp [cdK, hp]
/-- A guard, by what its slot holds. -/
def gdK (v : PV) (want : Bool) (P : Program) (L : List Nat) (dr : Bool) (K : Sl → Heap → Prop) (d : Option Nat) (op : Op) (l : List PS) (σ : Sl) (h : Heap) : Prop :=
  match v with | .bool b => if b = want then psteps P L dr K (.mk d op none :: l) σ h else psteps P L dr K l (put σ d (.tup [])) h | .tup [] => psteps P L dr K l (put σ d (.tup [])) h | _ => False
/-- What follows a step that has yielded a value. -/
def nx (P : Program) (L : List Nat) (dr : Bool) (K : Sl → Heap → Prop) (l : List PS) (σ : Sl) (d : Option Nat) : Kt := fun v h' => psteps P L dr K l (put σ d v) h'
/-- The proof's own step. -/
def fzK (x : Option (PV × Option Nat)) (P : Program) (L : List Nat) (dr : Bool) (K : Sl → Heap → Prop) (l : List PS) (σ : Sl) (d : Nat) (h : Heap) : Prop := dr = false ∧ match x with
  | some (v, b) => psteps P L dr K l (put σ (some d) v) (h.killO b)
  | none => False
/-- The proof's own step on a cell. -/
def fcK (x : Option (Nat × Nat × List PV)) (P : Program) (L : List Nat) (dr : Bool) (K : Sl → Heap → Prop) (l : List PS) (σ : Sl) (h : Heap) : Prop := dr = false ∧ match x with
  | some (b, m, cs) => psteps P L dr K l σ ((h.kill m).set b cs)
  | none => False
def fz2 (x : Option (List PV)) (b off : Nat) : Option (PV × Option Nat) := x.map fun cs => (.fptr false (olds cs) off, some b)
def fz3 (x : Option (List PV)) (b E off n : Nat) : Option (PV × Option Nat) := match x with
    | some cs => if off + n * E ≤ cs.length then some (.list false E n (olds ((cs.drop off).take (n * E))), some b) else none
    | none => none
theorem ps_guard {dr : Bool} {K : Sl → Heap → Prop} {d : Option Nat} {op : Op} {s : Nat} {want : Bool} {l : List PS} :
    psteps P L dr K (.mk d op (some (s, want)) :: l) σ h = gdK (σ s) want P L dr K d op l σ h := rfl
theorem pwp_seq_k {a b : PC} (s : ∀ K : Sl → Heap → Prop, (∀ σ h, pwp P L b Q σ h → K σ h) → pwp P L a (thn K Q) σ h) : pwp P L (.seq a b) Q σ h := s _ fun _ _ q => q
theorem pwp_loop {a : PC} (I : Nat → Sl → Heap → Prop) (k : Nat) (h1 : I k σ h) (round : ∀ k σ h, I k σ h → pwp P L a (thn (fun σ' h' => ∃ k', k' < k ∧ I k' σ' h') Q) σ h) : pwp P L (.loop a) Q σ h := ⟨I, k, h1, round⟩
end

theorem thn_normal {K : Sl → Heap → Prop} {Q : Exit → Sl → Heap → Prop} : thn K Q .normal = K := rfl
theorem thn_exit {K : Sl → Heap → Prop} {Q : Exit → Sl → Heap → Prop} {id : Nat} : thn K Q (.exit id) = Q (.exit id) := rfl
theorem thn_ret {K : Sl → Heap → Prop} {Q : Exit → Sl → Heap → Prop} : thn K Q .ret = Q .ret := rfl
theorem blk_normal {id : Nat} {Q : Exit → Sl → Heap → Prop} : blk id Q .normal = Q .normal := rfl
theorem blk_ret {id : Nat} {Q : Exit → Sl → Heap → Prop} : blk id Q .ret = Q .ret := rfl
theorem blk_exit {id id' : Nat} {Q : Exit → Sl → Heap → Prop} {σ : Sl} {h : Heap} : blk id Q (.exit id') σ h = if id' = id then Q .normal σ h else Q (.exit id') σ h := rfl

/-- The end of a function whose result's heap is the one that it began with. -/
theorem fin_ret {P : Program} {rs : List ResultVar} {h0 h : Heap} {K : PV → Heap → Prop} {σ : Sl} {v : PV} (e : ress P rs σ h = some v) (l : h0.le h) (k : K v h0) : fin P rs h0 K .ret σ h :=
  ⟨v, e, v, h0, Wk.drop v l, k⟩
theorem fin_wk {P : Program} {rs : List ResultVar} {h0 h : Heap} {K : PV → Heap → Prop} {σ : Sl} {v v2 : PV} {h2 : Heap} (e : ress P rs σ h = some v) (wk : Wk h0 h v h2 v2) (k : K v2 h2) : fin P rs h0 K .ret σ h :=
  ⟨v, e, v2, h2, wk, k⟩

/-- The end of a function. -/
def finK (v : PV) (h0 : Heap) (K : Kt) (h : Heap) : Prop := ∃ v2 h2, Wk h0 h v h2 v2 ∧ K v2 h2
def finR (v : Option PV) (h0 : Heap) (K : Kt) (h : Heap) : Prop := match v with | some v => finK v h0 K h | none => False
theorem fin_rule {P : Program} {rs : List ResultVar} {h0 h : Heap} {K : Kt} {σ : Sl} : fin P rs h0 K .ret σ h = finR (ress P rs σ h) h0 K h := by
  simp only [fin, finR, finK]; cases ress P rs σ h <;> simp
theorem fin_rule2 {P : Program} {rs : List ResultVar} {h0 h : Heap} {K : Kt} {σ : Sl} : fin P rs h0 K .normal σ h = finR (ress P rs σ h) h0 K h := fin_rule
theorem finK_le {v : PV} {h0 h : Heap} {K : Kt} (l : h0.le h) (k : K v h0) : finK v h0 K h := ⟨v, h0, Wk.drop v l, k⟩
theorem finK_wk {v v2 : PV} {h0 h : Heap} {K : Kt} (wk : Wk h0 h v h0 v2) (k : K v2 h0) : finK v h0 K h := ⟨v2, h0, wk, k⟩
def consO (a : Option PV) (l : Option (List PV)) : Option (List PV) := match a, l with | some a, some l => some (a :: l) | _, _ => none
def ldp2 (g : Option Bool) (n : Option Nat) (h : Heap) (p : PV) : Option PV := match g, n with
  | some g, some n => match p with
    | .fptr _ cs off => ldv g n cs off
    | .ptr b off => match h.f b with | some cs => (ldv g n cs off).map PV.old | none => none
    | _ => none
  | _, _ => none
theorem getm {α : Type} [Inhabited α] (f : α → PV) (l : List α) {i : Nat} (h : i < l.length) : (l.map f)[i]? = some (f (l.getD i default)) := by
  simp [h, List.getD]
theorem getK_map {α : Type} [Inhabited α] {f : α → PV} {l : List α} {i : Nat} {K : Kt} {h : Heap} (hi : i < l.length) : getK false ((l.map f)[i]?) K h = K (f (l.getD i default)) h := by
  rw [getm f l hi]; rfl
theorem old_int {k : IntKind} {n : Int} : (PV.int k n).old = .int k n := rfl
theorem old_bool {b : Bool} : (PV.bool b).old = .bool b := rfl
theorem olds_nil : olds [] = [] := rfl
theorem olds_cons {c : PV} {cs : List PV} : olds (c :: cs) = c.old :: olds cs := rfl
theorem olds_ints {k : IntKind} (l : List Int) : olds (l.map (.int k)) = l.map (.int k) := by rw [olds_eq, List.map_map]; rfl
theorem olds_bools (l : List Bool) : olds (l.map .bool) = l.map .bool := by rw [olds_eq, List.map_map]; rfl
theorem wrap_in {n : Int} (h1 : -9223372036854775808 ≤ n) (h2 : n ≤ 9223372036854775807) : IntKind.i64.wrap n = n := by rw [IntKind.wrap_i64]; omega

/-- Rows of structs: each element's cells, one behind the other. -/
theorem flat_length {α : Type} (f : α → List PV) (E : Nat) (hf : ∀ x, (f x).length = E) : ∀ l : List α, (l.flatMap f).length = l.length * E
  | [] => by simp
  | x :: l => by simp [flat_length f E hf l, hf, Nat.add_mul, Nat.add_comm]
theorem flat_drop {α : Type} (f : α → List PV) (E : Nat) (hf : ∀ x, (f x).length = E) : ∀ (l : List α) (i : Nat), (l.flatMap f).drop (i * E) = (l.drop i).flatMap f
  | l, 0 => by simp
  | [], i + 1 => by simp
  | x :: l, i + 1 => by
    rw [List.flatMap_cons, List.drop_succ_cons, ← flat_drop f E hf l i, Nat.add_mul, Nat.one_mul, Nat.add_comm, ← List.drop_drop]
    congr 1
    rw [← hf x, List.drop_left]
theorem flat_at {α : Type} [Inhabited α] (f : α → List PV) (E : Nat) (hf : ∀ x, (f x).length = E) (l : List α) {i : Nat} (h : i < l.length) : ((l.flatMap f).drop (i * E)).take E = f (l.getD i default) := by
  rw [flat_drop f E hf, List.drop_eq_getElem_cons h, List.flatMap_cons, ← hf l[i], List.take_left]
  simp [List.getD, h]
theorem flat_get {α : Type} [Inhabited α] (f : α → List PV) (E : Nat) (hf : ∀ x, (f x).length = E) (l : List α) {i j : Nat} (h : i < l.length) (hj : j < E) : (l.flatMap f)[i * E + j]? = (f (l.getD i default))[j]? := by
  rw [← flat_at f E hf l h, List.getElem?_take, if_pos hj, List.getElem?_drop]
end Go.Pm
