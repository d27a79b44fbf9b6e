/-
  An abstract machine over pure values, part C: operations that only compute, and that they do what the machine's do.
  Conditions: none.
-/
import Derived.Test.YtaaokbmcmoihhaaPmB
import Derived.Laws.Tables
import Derived.Laws.Entries
import Derived.Laws.Slices
import Derived.Laws.Pointers
import Derived.Laws.Small
namespace Go.Pm
set_option linter.unusedVariables false
set_option linter.unusedSimpArgs false

/-! ### Constants, operands -/
def cval1 : Value → PV
  | .bool b => .bool b
  | .int k n => .int k n
  | .string s => .str s
  | .slice none 0 0 => .nils
  | .pointer none => .nilp
  | .nilFunc => .nilf
  | _ => .undef
def cval : Value → PV
  | .agg cs => if cs.all (·.oneCell') then .agg (cs.toList.map cval1) else .undef
  | v => cval1 v
def ev (σ : Nat → PV) : Operand → PV
  | .tmp t => σ t
  | .const v => cval v
  | .global _ => .undef
  | .func f => .fn f [] []

theorem VR.cval1 {w : World} {h : Heap} {N : Nat} (v : Value) : VR w h N (Pm.cval1 v) v := by
  unfold Pm.cval1
  split <;> simp only [VR]
theorem VR.cval {w : World} {h : Heap} {N : Nat} (v : Value) : VR w h N (Pm.cval v) v := by
  unfold Pm.cval
  split
  · rename_i cs
    split
    · rename_i hc
      simp only [VR]
      refine ⟨cs, rfl, ?_⟩
      have : ∀ l : List Value, (∀ v ∈ l, v.oneCell' = true) → CR w h N (l.map Pm.cval1) l := by
        intro l
        induction l with
        | nil => intro _; simp [CR]
        | cons v l ih => intro hl; simp only [List.map_cons, CR]; exact ⟨v, l, rfl, hl v (by simp), VR.cval1 v, ih fun u hu => hl u (by simp [hu])⟩
      exact this _ fun v hv => Array.all_eq_true_iff_forall_mem.1 hc v (by simpa using hv)
    · simp only [VR]
  · exact VR.cval1 v

/-! ### Type facts -/
def tag (P : Program) (t : TypeId) : Option Bool := (P.underlying t).map fun d => match d with | .struct _ | .array _ _ => true | _ => false
def tsz (P : Program) (t : TypeId) : Option Nat := (P.info? t).map (·.size)
def elt (P : Program) (t : TypeId) : Option TypeId := match P.underlying t with | some (.slice e) => some e | _ => none
def arr (P : Program) (t : TypeId) : Option (Nat × TypeId) := match P.underlying t with | some (.array n e) => some (n, e) | _ => none
/-- A struct's fields: where each begins, whether it is a row of its own, how many cells it has. -/
def fld (P : Program) (t : TypeId) (f : Nat) : Option (Nat × Bool × Nat) :=
  match P.underlying t with
  | some (.struct fs) => match fs[f]? with
    | some x => match tag P x.type, tsz P x.type with | some g, some n => some (x.offset, g, n) | _, _ => none
    | none => none
  | _ => none
def flat : PV → Option (List PV)
  | .agg cs => some cs
  | .tup _ | .undef => none
  | v => some [v]
def zc (P : Program) (t : TypeId) : Option (List PV) := match P.info? t with | some i => i.zero.bind fun z => flat (cval z) | none => none
/-- A type's fields or elements, for what is built: each one's place and size. -/
def plc (P : Program) (t : TypeId) : Option (Nat → Option (Nat × Nat)) :=
  match P.underlying t with
  | some (.struct fs) => match fs.toList.mapM (fun f => (P.info? f.type).map fun i => (f.offset, i.size)) with
    | some l => some fun i => l[i]?
    | none => none
  | some (.array _ e) => (tsz P e).map fun n => fun i => some (i * n, n)
  | _ => none

section
variable {P : Program} {w : World} {h : Heap} {N : Nat}

theorem VR.flat_CR {c : PV} {cs : List PV} {v : Value} (r : VR w h N c v) (e : flat c = some cs) : CR w h N cs v.cells.toList := by
  cases c <;> simp only [flat, Option.some.injEq, reduceCtorEq] at e <;> subst e <;> simp only [VR] at r
  case agg => obtain ⟨vs, rfl, h1⟩ := r; exact h1
  case int => subst r; exact CR.one rfl (by simp only [VR])
  case bool => subst r; exact CR.one rfl (by simp only [VR])
  case str => subst r; exact CR.one rfl (by simp only [VR])
  case nils => subst r; exact CR.one rfl (by simp only [VR])
  case nilp => subst r; exact CR.one rfl (by simp only [VR])
  case nilf => subst r; exact CR.one rfl (by simp only [VR])
  case ptr => subst r; exact CR.one rfl (by simp only [VR])
  case list fr E n cs =>
    have r' := r
    obtain ⟨a, c, vs, rfl, q⟩ := r
    exact CR.one rfl (by simp only [VR]; exact r')
  case buf b E off n =>
    have r' := r
    obtain ⟨c, rfl, q⟩ := r
    exact CR.one rfl (by simp only [VR]; exact r')
  case fptr fr cs off =>
    have r' := r
    obtain ⟨b, o, vs, rfl, q⟩ := r
    exact CR.one rfl (by simp only [VR]; exact r')
  case fn f a b =>
    have r' := r
    obtain ⟨fs, cv, rfl, q⟩ := r
    exact CR.one rfl (by simp only [VR]; exact r')

theorem isAgg_run {t : TypeId} {g : Bool} (e : tag P t = some g) : (isAgg t).run P w = .ok g w := by
  unfold tag at e
  cases hd : P.underlying t with
  | none => simp [hd] at e
  | some d =>
    simp only [hd, Option.map_some, Option.some.injEq] at e
    unfold isAgg
    rw [Sem.run_bind, run_underlying hd w]
    cases d <;> simp_all
theorem sizeOf_run {t : TypeId} {n : Nat} (e : tsz P t = some n) : (sizeOf t).run P w = .ok n w := by
  unfold tsz at e
  cases hi : P.info? t with
  | none => simp [hi] at e
  | some i => simp [hi] at e; simp [sizeOf, typeInfo, hi, e]

/-! ### Loads -/
def ldv (g : Bool) (n : Nat) (cs : List PV) (off : Nat) : Option PV :=
  if g then (if off + n ≤ cs.length then some (.agg ((cs.drop off).take n)) else none) else cs[off]?
/-- What a load yields. -/
def ldp (P : Program) (h : Heap) (t : TypeId) (p : PV) : Option PV :=
  match tag P t, tsz P t with
  | some g, some n => match p with
    | .fptr _ cs off => ldv g n cs off
    | .ptr b off => match h.f b with | some cs => (ldv g n cs off).map PV.old | none => none
    | _ => none
  | _, _ => none
theorem load_mem {t : TypeId} {g : Bool} {n b o off : Nat} {cs : List PV} {vs : List Value} {v : PV} (hg : tag P t = some g) (hn : tsz P t = some n)
    (hc : CR w h N cs vs) (hm : Mem w b o vs) (e : ldv g n cs off = some v) :
    ∃ c, (Instr.loadAt t (.pointer (some ⟨b, o + off, none⟩))).run P w = .ok c w ∧ VR w h N v c := by
  unfold ldv at e
  cases g with
  | true =>
    simp only [if_true] at e
    split at e
    · rename_i hl
      cases e
      have hlen := hc.length
      have hl2 : ((vs.drop off).take n).length = n := by simp; omega
      have hrun : (loadCells ⟨b, o + off, none⟩ n).run P w = .ok ((vs.drop off).take n).toArray w := by
        have := run_loadCells_list (P := P) w ⟨b, o + off, none⟩ ((vs.drop off).take n) fun j v hv => by
          rw [Addr.add_mid]
          have hj : j < n := by
            have := (List.getElem?_eq_some_iff.1 hv).1
            omega
          rw [List.getElem?_take, if_pos hj, List.getElem?_drop] at hv
          have := hm (off + j) v hv
          rwa [← Nat.add_assoc] at this
        rwa [hl2] at this
      refine ⟨.agg ((vs.drop off).take n).toArray, ?_, ?_⟩
      · simp [Instr.loadAt, Instr.sureAddr, loadVar, isAgg_run hg, sizeOf_run hn, hrun]
      · simp only [VR]
        exact ⟨_, rfl, by simpa using (hc.drop off).take n⟩
    · cases e
  | false =>
    simp only [Bool.false_eq_true, if_false] at e
    obtain ⟨c, h1, h2⟩ := hc.get off e
    exact ⟨c, by simp [Instr.loadAt, Instr.sureAddr, loadVar, isAgg_run hg, load, Sem.run, hm off c h1], h2⟩
theorem Mem.live {b : Nat} {cells : Array Value} {e : TypeId} {fz : Nat × Nat} (hb : w.heap[b]? = some (.cells cells e fz)) (k : Nat) : Mem w b 0 (cells.toList.take k) := fun i v hi => by
  rw [List.getElem?_take] at hi
  split at hi
  · simpa [World.cell?, hb] using hi
  · cases hi
theorem ld_sound {o : Oper} {ρ : Operand → Value} {t : TypeId} {a : Operand} {p v : PV} (ho : o.op = .load t a) (hp : VR w h N p (ρ a)) (hw : WR w h 0) (e : ldp P h t p = some v) :
    ∃ c, (execOp ρ o).run P w = .ok (.value c) w ∧ VR w h N v c := by
  unfold ldp at e
  split at e
  · rename_i g n hg hn
    have key : ∃ c, (Instr.loadAt t (ρ a)).run P w = .ok c w ∧ VR w h N v c := by
      cases p with
      | fptr fr cs off =>
        simp only [VR] at hp
        obtain ⟨b, o', vs, hv, _, _, _, hc, hm⟩ := hp
        rw [hv]
        exact load_mem hg hn hc hm e
      | ptr b off =>
        simp only [VR] at hp
        rw [hp]
        simp only at e
        cases hb : h.f b with
        | none => simp [hb] at e
        | some cs =>
          simp only [hb] at e
          cases he : ldv g n cs off with
          | none => simp [he] at e
          | some v0 =>
            simp only [he, Option.map_some, Option.some.injEq] at e
            subst e
            obtain ⟨cells, t', hcell, hl, hc⟩ := hw b cs hb
            obtain ⟨c, q1, q2⟩ := load_mem (off := off) hg hn hc (Mem.live hcell cs.length) he
            exact ⟨c, by simpa using q1, VR.old _ q2⟩
      | _ => simp at e
    obtain ⟨c, h1, h2⟩ := key
    exact ⟨c, by simp [execOp, ho, h1], h2⟩
  · cases e

/-! ### Computing -/
def bin (P : Program) (op : BinOp) (t : TypeId) (x y : PV) : Option PV :=
  match x, y with
  | .int k a, .int k' b =>
    match op with
    | .shl => if 0 ≤ b then some (.int k (k.wrap (a * 2 ^ (min b.toNat k.bits)))) else none
    | .shr => if 0 ≤ b then some (.int k (a.fdiv (2 ^ (min b.toNat k.bits)))) else none
    | _ => if k = k' then
      match op with
      | .add => some (.int k (k.wrap (a + b)))
      | .sub => some (.int k (k.wrap (a - b)))
      | .mul => some (.int k (k.wrap (a * b)))
      | .quo => if b = 0 then none else some (.int k (k.wrap (a.tdiv b)))
      | .rem => if b = 0 then none else some (.int k (a.tmod b))
      | .and => some (.int k (k.wrap (BitVec.ofInt k.bits a &&& BitVec.ofInt k.bits b).toNat))
      | .or => some (.int k (k.wrap (BitVec.ofInt k.bits a ||| BitVec.ofInt k.bits b).toNat))
      | .xor => some (.int k (k.wrap (BitVec.ofInt k.bits a ^^^ BitVec.ofInt k.bits b).toNat))
      | .andNot => some (.int k (k.wrap (BitVec.ofInt k.bits a &&& ~~~ BitVec.ofInt k.bits b).toNat))
      | .eql => some (.bool (a == b))
      | .neq => some (.bool (a != b))
      | .lss => some (.bool (decide (a < b)))
      | .leq => some (.bool (decide (a ≤ b)))
      | .gtr => some (.bool (decide (a > b)))
      | .geq => some (.bool (decide (a ≥ b)))
      | _ => none
      else none
  | .str a, .str b =>
    match op with
    | .eql => some (.bool (a.toList == b.toList))
    | .neq => some (.bool !(a.toList == b.toList))
    | _ => none
  | .bool a, .bool b =>
    match P.underlying t with
    | some .bool => match op with
      | .eql => some (.bool (a == b))
      | .neq => some (.bool !(a == b))
      | _ => none
    | _ => none
  | x, .nilp =>
    match P.underlying t with
    | some (.pointer _) =>
      match x with
      | .nilp => match op with | .eql => some (.bool true) | .neq => some (.bool false) | _ => none
      | .ptr _ _ | .fptr _ _ _ => match op with | .eql => some (.bool false) | .neq => some (.bool true) | _ => none
      | _ => none
    | _ => none
  | x, .nils =>
    match P.underlying t with
    | some (.slice _) =>
      match x with
      | .nils => match op with | .eql => some (.bool true) | .neq => some (.bool false) | _ => none
      | .buf _ _ _ _ => match op with | .eql => some (.bool false) | .neq => some (.bool true) | _ => none
      | .list _ _ n _ => if n = 0 then none else match op with | .eql => some (.bool false) | .neq => some (.bool true) | _ => none
      | _ => none
    | _ => none
  | _, _ => none

theorem eqGuard_skip {op : BinOp} {t : TypeId} {x y : Operand} {a b : Value} (ha : ∀ c, a ≠ .agg c) (hn : a ≠ .nilIface) :
    (eqGuard op t x y a b).run P w = .ok () w := by
  cases op <;> cases a <;> first | rfl | exact absurd rfl hn | exact absurd rfl (ha _)
theorem eqIn_ptr_nil {t e : TypeId} (ht : P.underlying t = some (.pointer e)) (a : Option Addr) (d : Nat) : (Op.equalIn (d + 1) t (.pointer a) (.pointer none)).run P w = .ok a.isNone w := by
  cases a <;> simp [Op.equalIn, run_underlying ht]
theorem eq_ptr_nil {t e : TypeId} (ht : P.underlying t = some (.pointer e)) (a : Option Addr) : (Op.equal t (.pointer a) (.pointer none)).run P w = .ok a.isNone w :=
  eqIn_ptr_nil ht a 9999
theorem eqIn_slice_nil {t e : TypeId} (ht : P.underlying t = some (.slice e)) (a : Option Addr) (l c d : Nat) : (Op.equalIn (d + 1) t (.slice a l c) (.slice none 0 0)).run P w = .ok a.isNone w := by
  cases a <;> simp [Op.equalIn, run_underlying ht]
theorem eq_slice_nil {t e : TypeId} (ht : P.underlying t = some (.slice e)) (a : Option Addr) (l c : Nat) : (Op.equal t (.slice a l c) (.slice none 0 0)).run P w = .ok a.isNone w :=
  eqIn_slice_nil ht a l c 9999
theorem eq_bool {t : TypeId} (ht : P.underlying t = some .bool) (a b : Bool) : (Op.equal t (.bool a) (.bool b)).run P w = .ok (a == b) w :=
  run_equal_bool w t a b ht

theorem bin_sound {op : BinOp} {t : TypeId} {x y v : PV} {a b : Value} (hx : VR w h N x a) (hy : VR w h N y b) (e : bin P op t x y = some v) :
    (∀ X Y, (eqGuard op t X Y a b).run P w = .ok () w) ∧ ∃ c, (binOp op t a b).run P w = .ok c w ∧ VR w h N v c := by
  unfold bin at e
  split at e
  · -- ints
    rename_i k a' k' b'
    simp only [VR] at hx hy
    subst hx hy
    refine ⟨fun X Y => eqGuard_skip (fun _ => by simp) (by simp), ?_⟩
    cases op <;> simp only at e
    case shl =>
      split at e
      · cases e; rename_i hb
        exact ⟨_, by simp [binOp, Op.shift, Int.not_lt.2 hb]; rfl, by simp only [VR]⟩
      · cases e
    case shr =>
      split at e
      · cases e; rename_i hb
        exact ⟨_, by simp [binOp, Op.shift, Int.not_lt.2 hb]; rfl, by simp only [VR]⟩
      · cases e
    all_goals
      split at e
      · rename_i hk
        subst hk
        first
          | (cases e; exact ⟨_, by simp only [binOp, ne_eq, not_true_eq_false, if_false, Op.intArith, Op.intDiv, Op.intBits, Op.intCmp]; rfl, by simp only [VR]⟩)
          | (split at e
             · cases e
             · cases e; rename_i hb; exact ⟨_, by simp [binOp, Op.intDiv, hb]; rfl, by simp only [VR]⟩)
      · cases e
  · -- strings
    simp only [VR] at hx hy
    subst hx hy
    refine ⟨fun X Y => eqGuard_skip (fun _ => by simp) (by simp), ?_⟩
    cases op <;> simp only [reduceCtorEq] at e <;> cases e <;> exact ⟨_, by simp [binOp, Op.stringOp]; rfl, by simp only [VR]⟩
  · -- bools
    simp only [VR] at hx hy
    subst hx hy
    refine ⟨fun X Y => eqGuard_skip (fun _ => by simp) (by simp), ?_⟩
    split at e
    · rename_i ht
      cases op <;> simp only [reduceCtorEq] at e <;> cases e <;> exact ⟨_, by simp [binOp, eq_bool ht]; rfl, by simp only [VR]⟩
    · cases e
  · -- pointers
    simp only [VR] at hy
    subst hy
    split at e
    · rename_i ht
      split at e
      · simp only [VR] at hx
        subst hx
        refine ⟨fun X Y => eqGuard_skip (fun _ => by simp) (by simp), ?_⟩
        cases op <;> simp only [reduceCtorEq] at e <;> cases e <;> exact ⟨_, by simp [binOp, eq_ptr_nil ht]; rfl, by simp only [VR]⟩
      · simp only [VR] at hx
        subst hx
        refine ⟨fun X Y => eqGuard_skip (fun _ => by simp) (by simp), ?_⟩
        cases op <;> simp only [reduceCtorEq] at e <;> cases e <;> exact ⟨_, by simp [binOp, eq_ptr_nil ht]; rfl, by simp only [VR]⟩
      · simp only [VR] at hx
        obtain ⟨_, _, _, hx, _⟩ := hx
        subst hx
        refine ⟨fun X Y => eqGuard_skip (fun _ => by simp) (by simp), ?_⟩
        cases op <;> simp only [reduceCtorEq] at e <;> cases e <;> exact ⟨_, by simp [binOp, eq_ptr_nil ht]; rfl, by simp only [VR]⟩
      · cases e
    · cases e
  · -- slices
    simp only [VR] at hy
    subst hy
    split at e
    · rename_i ht
      split at e
      · simp only [VR] at hx
        subst hx
        refine ⟨fun X Y => eqGuard_skip (fun _ => by simp) (by simp), ?_⟩
        cases op <;> simp only [reduceCtorEq] at e <;> cases e <;> exact ⟨_, by simp [binOp, eq_slice_nil ht]; rfl, by simp only [VR]⟩
      · simp only [VR] at hx
        obtain ⟨_, hx, _⟩ := hx
        subst hx
        refine ⟨fun X Y => eqGuard_skip (fun _ => by simp) (by simp), ?_⟩
        cases op <;> simp only [reduceCtorEq] at e <;> cases e <;> exact ⟨_, by simp [binOp, eq_slice_nil ht]; rfl, by simp only [VR]⟩
      · simp only [VR] at hx
        split at e
        · cases e
        · rename_i hn
          obtain ⟨a', c, vs, hx, _, _, _, h4⟩ := hx
          rcases h4 with h4 | ⟨b, o, rfl, _⟩
          · exact absurd h4 hn
          subst hx
          refine ⟨fun X Y => eqGuard_skip (fun _ => by simp) (by simp), ?_⟩
          cases op <;> simp only [reduceCtorEq] at e <;> cases e <;> exact ⟨_, by simp [binOp, eq_slice_nil ht]; rfl, by simp only [VR]⟩
      · cases e
    · cases e
  · cases e
end
end Go.Pm
