/-
  An abstract machine over pure values, part C: operations that only compute, and that they do what the machine's do.
  Conditions: none.
-/
import Derived.ChangeKeysEq
import Derived.Test.YtdllafendiaplaaPmB
import Derived.Laws.Tables
import Derived.Laws.Entries
import Derived.Laws.Slices
import Derived.Laws.Pointers
import Derived.Laws.Small
import Derived.Laws.StructEq
namespace Go.Pm
set_option linter.unusedVariables false
set_option linter.unusedSimpArgs false

/-! ### Constants, operands -/
def cval1 : Value → PV
  | .bool b => .bool b
  | .int k n => .int k n
  | .string s => .str s
  | .slice none 0 0 => .nils
  | .pointer none => .nilp
  | .nilFunc => .nilf
  | _ => .undef
def cval : Value → PV
  | .agg cs => if cs.all (·.oneCell') then .agg (cs.toList.map cval1) else .undef
  | v => cval1 v
def ev (σ : Nat → PV) : Operand → PV
  | .tmp t => σ t
  | .const v => cval v
  | .global _ => .undef
  | .func f => .fn f [] []

theorem VR.cval1 {w : World} {h : Heap} {N : Nat} (v : Value) : VR w h N (Pm.cval1 v) v := by
  unfold Pm.cval1
  split <;> simp only [VR]
theorem VR.cval {w : World} {h : Heap} {N : Nat} (v : Value) : VR w h N (Pm.cval v) v := by
  unfold Pm.cval
  split
  · rename_i cs
    split
    · rename_i hc
      simp only [VR]
      refine ⟨cs, rfl, ?_⟩
      have : ∀ l : List Value, (∀ v ∈ l, v.oneCell' = true) → CR w h N (l.map Pm.cval1) l := by
        intro l
        induction l with
        | nil => intro _; simp [CR]
        | cons v l ih => intro hl; simp only [List.map_cons, CR]; exact ⟨v, l, rfl, hl v (by simp), VR.cval1 v, ih fun u hu => hl u (by simp [hu])⟩
      exact this _ fun v hv => Array.all_eq_true_iff_forall_mem.1 hc v (by simpa using hv)
    · simp only [VR]
  · exact VR.cval1 v

/-! ### Type facts -/
def tag (P : Program) (t : TypeId) : Option Bool := (P.underlying t).map fun d => match d with | .struct _ | .array _ _ => true | _ => false
def tsz (P : Program) (t : TypeId) : Option Nat := (P.info? t).map (·.size)
def elt (P : Program) (t : TypeId) : Option TypeId := match P.underlying t with | some (.slice e) => some e | _ => none
def arr (P : Program) (t : TypeId) : Option (Nat × TypeId) := match P.underlying t with | some (.array n e) => some (n, e) | _ => none
/-- A struct's fields: where each begins, whether it is a row of its own, how many cells it has. -/
def fld (P : Program) (t : TypeId) (f : Nat) : Option (Nat × Bool × Nat) :=
  match P.underlying t with
  | some (.struct fs) => match fs[f]? with
    | some x => match tag P x.type, tsz P x.type with | some g, some n => some (x.offset, g, n) | _, _ => none
    | none => none
  | _ => none
def flat : PV → Option (List PV)
  | .agg cs => some cs
  | .tup _ | .undef | .anyb => none
  | v => some [v]
def zc (P : Program) (t : TypeId) : Option (List PV) := match P.info? t with | some i => i.zero.bind fun z => flat (cval z) | none => none
/-- A type's fields or elements, for what is built: each one's place and size. -/
def plc (P : Program) (t : TypeId) : Option (Nat → Option (Nat × Nat)) :=
  match P.underlying t with
  | some (.struct fs) => match fs.toList.mapM (fun f => (P.info? f.type).map fun i => (f.offset, i.size)) with
    | some l => some fun i => l[i]?
    | none => none
  | some (.array _ e) => (tsz P e).map fun n => fun i => some (i * n, n)
  | _ => none

section
variable {P : Program} {w : World} {h : Heap} {N : Nat}

theorem VR.flat_CR {c : PV} {cs : List PV} {v : Value} (r : VR w h N c v) (e : flat c = some cs) : CR w h N cs v.cells.toList := by
  cases c <;> simp only [flat, Option.some.injEq, reduceCtorEq] at e <;> subst e <;> simp only [VR] at r
  case agg => obtain ⟨vs, rfl, h1⟩ := r; exact h1
  case int => subst r; exact CR.one rfl (by simp only [VR])
  case bool => subst r; exact CR.one rfl (by simp only [VR])
  case str => subst r; exact CR.one rfl (by simp only [VR])
  case nils => subst r; exact CR.one rfl (by simp only [VR])
  case nilp => subst r; exact CR.one rfl (by simp only [VR])
  case nilf => subst r; exact CR.one rfl (by simp only [VR])
  case ptr => subst r; exact CR.one rfl (by simp only [VR])
  case list fr E n cs =>
    have r' := r
    obtain ⟨a, c, vs, rfl, q⟩ := r
    exact CR.one rfl (by simp only [VR]; exact r')
  case buf b E off n =>
    have r' := r
    obtain ⟨c, rfl, q⟩ := r
    exact CR.one rfl (by simp only [VR]; exact r')
  case fptr fr cs off =>
    have r' := r
    obtain ⟨b, o, vs, rfl, q⟩ := r
    exact CR.one rfl (by simp only [VR]; exact r')
  case fn f a b =>
    have r' := r
    obtain ⟨fs, cv, rfl, q⟩ := r
    exact CR.one rfl (by simp only [VR]; exact r')

theorem isAgg_run {t : TypeId} {g : Bool} (e : tag P t = some g) : (isAgg t).run P w = .ok g w := by
  unfold tag at e
  cases hd : P.underlying t with
  | none => simp [hd] at e
  | some d =>
    simp only [hd, Option.map_some, Option.some.injEq] at e
    unfold isAgg
    rw [Sem.run_bind, run_underlying hd w]
    cases d <;> simp_all
theorem sizeOf_run {t : TypeId} {n : Nat} (e : tsz P t = some n) : (sizeOf t).run P w = .ok n w := by
  unfold tsz at e
  cases hi : P.info? t with
  | none => simp [hi] at e
  | some i => simp [hi] at e; simp [sizeOf, typeInfo, hi, e]

/-! ### Loads -/
def ldv (g : Bool) (n : Nat) (cs : List PV) (off : Nat) : Option PV :=
  if g then (if off + n ≤ cs.length then some (.agg ((cs.drop off).take n)) else none) else cs[off]?
/-- What a load yields. -/
def ldp (P : Program) (h : Heap) (t : TypeId) (p : PV) : Option PV :=
  match tag P t, tsz P t with
  | some g, some n => match p with
    | .fptr _ cs off => ldv g n cs off
    | .ptr b off => match h.f b with | some cs => (ldv g n cs off).map PV.old | none => none
    | _ => none
  | _, _ => none
theorem load_mem {t : TypeId} {g : Bool} {n b o off : Nat} {cs : List PV} {vs : List Value} {v : PV} (hg : tag P t = some g) (hn : tsz P t = some n)
    (hc : CR w h N cs vs) (hm : Mem w b o vs) (e : ldv g n cs off = some v) :
    ∃ c, (Instr.loadAt t (.pointer (some ⟨b, o + off, none⟩))).run P w = .ok c w ∧ VR w h N v c := by
  unfold ldv at e
  cases g with
  | true =>
    simp only [if_true] at e
    split at e
    · rename_i hl
      cases e
      have hlen := hc.length
      have hl2 : ((vs.drop off).take n).length = n := by simp; omega
      have hrun : (loadCells ⟨b, o + off, none⟩ n).run P w = .ok ((vs.drop off).take n).toArray w := by
        have := run_loadCells_list (P := P) w ⟨b, o + off, none⟩ ((vs.drop off).take n) fun j v hv => by
          rw [Addr.add_mid]
          have hj : j < n := by
            have := (List.getElem?_eq_some_iff.1 hv).1
            omega
          rw [List.getElem?_take, if_pos hj, List.getElem?_drop] at hv
          have := hm (off + j) v hv
          rwa [← Nat.add_assoc] at this
        rwa [hl2] at this
      refine ⟨.agg ((vs.drop off).take n).toArray, ?_, ?_⟩
      · simp [Instr.loadAt, Instr.sureAddr, loadVar, isAgg_run hg, sizeOf_run hn, hrun]
      · simp only [VR]
        exact ⟨_, rfl, by simpa using (hc.drop off).take n⟩
    · cases e
  | false =>
    simp only [Bool.false_eq_true, if_false] at e
    obtain ⟨c, h1, h2⟩ := hc.get off e
    exact ⟨c, by simp [Instr.loadAt, Instr.sureAddr, loadVar, isAgg_run hg, load, Sem.run, hm off c h1], h2⟩
theorem Mem.live {b : Nat} {cells : Array Value} {e : TypeId} {fz : Nat × Nat} (hb : w.heap[b]? = some (.cells cells e fz)) (k : Nat) : Mem w b 0 (cells.toList.take k) := fun i v hi => by
  rw [List.getElem?_take] at hi
  split at hi
  · simpa [World.cell?, hb] using hi
  · cases hi
theorem ld_sound {o : Oper} {ρ : Operand → Value} {t : TypeId} {a : Operand} {p v : PV} (ho : o.op = .load t a) (hp : VR w h N p (ρ a)) (hw : WR w h 0) (e : ldp P h t p = some v) :
    ∃ c, (execOp ρ o).run P w = .ok (.value c) w ∧ VR w h N v c := by
  unfold ldp at e
  split at e
  · rename_i g n hg hn
    have key : ∃ c, (Instr.loadAt t (ρ a)).run P w = .ok c w ∧ VR w h N v c := by
      cases p with
      | fptr fr cs off =>
        simp only [VR] at hp
        obtain ⟨b, o', vs, hv, _, _, _, hc, hm⟩ := hp
        rw [hv]
        exact load_mem hg hn hc hm e
      | ptr b off =>
        simp only [VR] at hp
        rw [hp]
        simp only at e
        cases hb : h.f b with
        | none => simp [hb] at e
        | some cs =>
          simp only [hb] at e
          cases he : ldv g n cs off with
          | none => simp [he] at e
          | some v0 =>
            simp only [he, Option.map_some, Option.some.injEq] at e
            subst e
            obtain ⟨cells, t', hcell, hl, hc⟩ := hw b cs hb
            obtain ⟨c, q1, q2⟩ := load_mem (off := off) hg hn hc (Mem.live hcell cs.length) he
            exact ⟨c, by simpa using q1, VR.old _ q2⟩
      | _ => simp at e
    obtain ⟨c, h1, h2⟩ := key
    exact ⟨c, by simp [execOp, ho, h1], h2⟩
  · cases e

/-! ### Computing -/
/-- Are cells alike? (Whole numbers alone.) -/
def ceq : List PV → List PV → Option Bool
  | [], [] => some true
  | .int k a :: xs, .int k' b :: ys => if k = k' then (ceq xs ys).map fun r => decide (a = b) && r else none
  | _, _ => none
/-- Are cells alike? (Truths alone.) -/
def ceqB : List PV → List PV → Option Bool
  | [], [] => some true
  | .bool a :: xs, .bool b :: ys => (ceqB xs ys).map fun r => (a == b) && r
  | _, _ => none
/-- How many cells a struct's fields have, if they are whole numbers alone. -/
def nIntsF (g : TypeId → Option Nat) (P : Program) : List Field → Nat → Option Nat
  | [], off => some off
  | f :: fs, off => if f.offset = off ∧ (f.name == "_") = false then
      match g f.type, tsz P f.type with | some m, some m' => if m' = m then nIntsF g P fs (off + m) else none | _, _ => none
    else none
def nInts (P : Program) : Nat → TypeId → Option Nat
  | 0, _ => none
  | n + 1, t => match P.underlying t with
    | some (.int _) => some 1
    | some (.struct fs) => if P.stoodInHeld t = false then nIntsF (nInts P n) P fs.toList 0 else none
    | _ => none
/-- May structs of this type be compared: whole numbers alone? -/
def eqt (P : Program) (t : TypeId) : Bool := (match P.underlying t with | some (.struct _) => true | _ => false) && !P.eqGuardType P.depth t && (match nInts P 9 t with | some m => tsz P t == some m | none => false)
/-- May arrays of this type be compared: truths alone? -/
def eqtB (P : Program) (t : TypeId) : Bool := (match P.underlying t with
  | some (.array n e) => (match P.underlying e with | some .bool => true | _ => false) && tsz P e == some 1 && tag P e == some false && tsz P t == some n
  | _ => false) && !P.eqGuardType P.depth t
/-- May arrays of this type be compared: whole numbers alone? -/
def eqtI (P : Program) (t : TypeId) : Bool := (match P.underlying t with
  | some (.array n e) => (match P.underlying e with | some (.int _) => true | _ => false) && tsz P e == some 1 && tag P e == some false && tsz P t == some n
  | _ => false) && !P.eqGuardType P.depth t
def bin (P : Program) (op : BinOp) (t : TypeId) (x y : PV) : Option PV :=
  match x, y with
  | .int k a, .int k' b =>
    match op with
    | .shl => if 0 ≤ b then some (.int k (k.wrap (a * 2 ^ (min b.toNat k.bits)))) else none
    | .shr => if 0 ≤ b then some (.int k (a.fdiv (2 ^ (min b.toNat k.bits)))) else none
    | _ => if k = k' then
      match op with
      | .add => some (.int k (k.wrap (a + b)))
      | .sub => some (.int k (k.wrap (a - b)))
      | .mul => some (.int k (k.wrap (a * b)))
      | .quo => if b = 0 then none else some (.int k (k.wrap (a.tdiv b)))
      | .rem => if b = 0 then none else some (.int k (a.tmod b))
      | .and => some (.int k (k.wrap (BitVec.ofInt k.bits a &&& BitVec.ofInt k.bits b).toNat))
      | .or => some (.int k (k.wrap (BitVec.ofInt k.bits a ||| BitVec.ofInt k.bits b).toNat))
      | .xor => some (.int k (k.wrap (BitVec.ofInt k.bits a ^^^ BitVec.ofInt k.bits b).toNat))
      | .andNot => some (.int k (k.wrap (BitVec.ofInt k.bits a &&& ~~~ BitVec.ofInt k.bits b).toNat))
      | .eql => some (.bool (a == b))
      | .neq => some (.bool (a != b))
      | .lss => some (.bool (decide (a < b)))
      | .leq => some (.bool (decide (a ≤ b)))
      | .gtr => some (.bool (decide (a > b)))
      | .geq => some (.bool (decide (a ≥ b)))
      | _ => none
      else none
  | .str a, .str b =>
    match op with
    | .eql => some (.bool (a.toList == b.toList))
    | .neq => some (.bool !(a.toList == b.toList))
    | _ => none
  | .bool a, .bool b =>
    match P.underlying t with
    | some .bool => match op with
      | .eql => some (.bool (a == b))
      | .neq => some (.bool !(a == b))
      | _ => none
    | _ => none
  | .agg cs, .agg ds => if (eqt P t || eqtI P t) then (if tsz P t = some cs.length then (match ceq cs ds with | some r => (match op with | .eql => some (.bool r) | .neq => some (.bool !r) | _ => none) | none => none) else none)
    else if eqtB P t then (if tsz P t = some cs.length then (match ceqB cs ds with | some r => (match op with | .eql => some (.bool r) | .neq => some (.bool !r) | _ => none) | none => none) else none) else none
  | x, .nilp =>
    match P.underlying t with
    | some (.pointer _) =>
      match x with
      | .nilp => match op with | .eql => some (.bool true) | .neq => some (.bool false) | _ => none
      | .ptr _ _ | .fptr _ _ _ => match op with | .eql => some (.bool false) | .neq => some (.bool true) | _ => none
      | _ => none
    | _ => none
  | x, .nils =>
    match P.underlying t with
    | some (.slice _) =>
      match x with
      | .nils => match op with | .eql => some (.bool true) | .neq => some (.bool false) | _ => none
      | .buf _ _ _ _ => match op with | .eql => some (.bool false) | .neq => some (.bool true) | _ => none
      | .list _ _ n _ => if n = 0 then (match op with | .eql => some .anyb | .neq => some .anyb | _ => none) else match op with | .eql => some (.bool false) | .neq => some (.bool true) | _ => none
      | _ => none
    | _ => none
  | _, _ => none

theorem eqGuard_skip {op : BinOp} {t : TypeId} {x y : Operand} {a b : Value} (ha : ∀ c, a ≠ .agg c) (hn : a ≠ .nilIface) :
    (eqGuard op t x y a b).run P w = .ok () w := by
  cases op <;> cases a <;> first | rfl | exact absurd rfl hn | exact absurd rfl (ha _)
theorem eqIn_ptr_nil {t e : TypeId} (ht : P.underlying t = some (.pointer e)) (a : Option Addr) (d : Nat) : (Op.equalIn (d + 1) t (.pointer a) (.pointer none)).run P w = .ok a.isNone w := by
  cases a <;> simp [Op.equalIn, run_underlying ht]
theorem eq_ptr_nil {t e : TypeId} (ht : P.underlying t = some (.pointer e)) (a : Option Addr) : (Op.equal t (.pointer a) (.pointer none)).run P w = .ok a.isNone w :=
  eqIn_ptr_nil ht a 9999
theorem eqIn_slice_nil {t e : TypeId} (ht : P.underlying t = some (.slice e)) (a : Option Addr) (l c d : Nat) : (Op.equalIn (d + 1) t (.slice a l c) (.slice none 0 0)).run P w = .ok a.isNone w := by
  cases a <;> simp [Op.equalIn, run_underlying ht]
theorem eq_slice_nil {t e : TypeId} (ht : P.underlying t = some (.slice e)) (a : Option Addr) (l c : Nat) : (Op.equal t (.slice a l c) (.slice none 0 0)).run P w = .ok a.isNone w :=
  eqIn_slice_nil ht a l c 9999
theorem eq_bool {t : TypeId} (ht : P.underlying t = some .bool) (a b : Bool) : (Op.equal t (.bool a) (.bool b)).run P w = .ok (a == b) w :=
  run_equal_bool w t a b ht

theorem ceq_len : ∀ {xs ys : List PV} {r : Bool}, ceq xs ys = some r → xs.length = ys.length
  | [], [], _, _ => rfl
  | .int k a :: xs, .int k' b :: ys, r, e => by
    simp only [ceq] at e
    split at e
    · obtain ⟨r', h, _⟩ := Option.map_eq_some_iff.1 e
      simp [ceq_len h]
    · cases e
theorem ceq_split : ∀ (m : Nat) {xs ys : List PV} {r : Bool}, ceq xs ys = some r → ∃ r1 r2, ceq (xs.take m) (ys.take m) = some r1 ∧ ceq (xs.drop m) (ys.drop m) = some r2 ∧ r = (r1 && r2)
  | 0, xs, ys, r, e => ⟨true, r, by simp [ceq], by simpa using e, by simp⟩
  | m + 1, [], [], r, e => by simp only [ceq, Option.some.injEq] at e; subst e; exact ⟨true, true, by simp [ceq], by simp [ceq], rfl⟩
  | m + 1, .int k a :: xs, .int k' b :: ys, r, e => by
    simp only [ceq] at e
    split at e
    · rename_i hk
      obtain ⟨r', h, rfl⟩ := Option.map_eq_some_iff.1 e
      obtain ⟨r1, r2, h1, h2, rfl⟩ := ceq_split m h
      exact ⟨decide (a = b) && r1, r2, by simp [ceq, hk, h1], by simpa using h2, by rw [Bool.and_assoc]⟩
    · cases e
theorem cells_one {v : Value} (e : v.oneCell' = true) : v.cells = #[v] := by cases v <;> simp_all [Value.oneCell', Value.cells]
theorem eq_fields (d : Nat) (g : TypeId → Option Nat) (hg : ∀ t m, g t = some m → tsz P t = some m → ∀ (a b : Value) (cs ds : List PV) (r : Bool), (∃ q, tag P t = some q ∧ (q = true → ∃ vs, a = .agg vs) ∧ (q = true → ∃ vs, b = .agg vs) ∧ (q = false → a.oneCell' = true ∧ b.oneCell' = true)) →
      CR w h N cs a.cells.toList → CR w h N ds b.cells.toList → cs.length = m → ceq cs ds = some r → (Op.equalIn d t a b).run P w = .ok r w) (ht : ∀ t m, g t = some m → ∃ q, tag P t = some q ∧ (q = false → m = 1))
    (vs us : Array Value) : ∀ (fs : List Field) (off m : Nat) (cs ds : List PV) (r : Bool), nIntsF g P fs off = some m → CR w h N cs (vs.toList.drop off) → CR w h N ds (us.toList.drop off) → cs.length = m - off → off ≤ m → ceq cs ds = some r →
      (Op.eqFields d vs us fs).run P w = .ok r w
  | [], off, m, cs, ds, r, e, c1, c2, hl, _, q => by
    simp only [nIntsF, Option.some.injEq] at e; subst e
    have h0 : cs = [] := List.length_eq_zero_iff.1 (by omega)
    have h1 : ds = [] := List.length_eq_zero_iff.1 (by rw [← ceq_len q, h0]; rfl)
    subst h0 h1
    simp only [ceq, Option.some.injEq] at q; subst q
    simp [Op.eqFields]
  | f :: fs, off, m, cs, ds, r, e, c1, c2, hl, hm, q => by
    simp only [nIntsF] at e
    split at e
    case isFalse => cases e
    case isTrue ho =>
    split at e
    case h_2 => cases e
    case h_1 k k' e1 e2 =>
    split at e
    case isFalse => cases e
    case isTrue hk =>
    subst hk
    have hmono : ∀ (fs : List Field) (o m : Nat), nIntsF g P fs o = some m → o ≤ m := by
      intro fs
      induction fs with
      | nil => intro o m e; simp only [nIntsF, Option.some.injEq] at e; omega
      | cons f fs ih =>
        intro o m e
        simp only [nIntsF] at e
        split at e
        case isFalse => cases e
        case isTrue =>
        split at e
        case h_2 => cases e
        case h_1 =>
        split at e
        case isFalse => cases e
        case isTrue => have := ih _ _ e; omega
    have hle := hmono _ _ _ e
    obtain ⟨r1, r2, q1, q2, rfl⟩ := ceq_split k' q
    have rest := eq_fields d g hg ht vs us fs (off + k') m (cs.drop k') (ds.drop k') r2 e (by rw [← List.drop_drop]; exact c1.drop k') (by rw [← List.drop_drop]; exact c2.drop k') (by simp; omega) hle q2
    have hn : f.name ≠ "_" := by simpa using ho.2
    obtain ⟨tg, t1, t2⟩ := ht _ _ e1
    have key : ∃ a b, (part f.type vs f.offset).run P w = .ok a w ∧ (part f.type us f.offset).run P w = .ok b w ∧ (Op.equalIn d f.type a b).run P w = .ok r1 w := by
      rw [ho.1]
      cases tg with
      | true =>
        refine ⟨.agg (vs.extract off (off + k')), .agg (us.extract off (off + k')), by simp [part, isAgg_run t1, sizeOf_run e2], by simp [part, isAgg_run t1, sizeOf_run e2], ?_⟩
        refine hg _ _ e1 e2 _ _ (cs.take k') (ds.take k') r1 ⟨true, t1, fun _ => ⟨_, rfl⟩, fun _ => ⟨_, rfl⟩, fun e => by cases e⟩ ?_ ?_ (by simp; omega) q1
        · simp only [Value.cells, Array.toList_extract, List.extract_eq_take_drop]; simpa using c1.take k'
        · simp only [Value.cells, Array.toList_extract, List.extract_eq_take_drop]; simpa using c2.take k'
      | false =>
        have := t2 rfl
        subst this
        match cs, ds, c1, c2, hl, q, q1 with
        | [], _, _, _, hl, _, _ => simp at hl; omega
        | c :: cs, [], _, _, _, q, _ => exact absurd (ceq_len q) (by simp)
        | c :: cs, x :: ds, c1, c2, hl, q, q1 =>
          simp only [CR] at c1 c2
          obtain ⟨v, vs', e3, o1, v1, _⟩ := c1
          obtain ⟨u, us', e4, o2, v2, _⟩ := c2
          have g1 : vs[off]? = some v := by rw [← Array.getElem?_toList, ← List.head?_drop, e3]; rfl
          have g2 : us[off]? = some u := by rw [← Array.getElem?_toList, ← List.head?_drop, e4]; rfl
          refine ⟨v, u, by simp [part, isAgg_run t1, g1], by simp [part, isAgg_run t1, g2], ?_⟩
          refine hg _ _ e1 e2 _ _ [c] [x] r1 ⟨false, t1, (by simp), (by simp), fun _ => ⟨o1, o2⟩⟩ ?_ ?_ rfl (by simpa using q1)
          · rw [cells_one o1]; exact CR.one o1 v1
          · rw [cells_one o2]; exact CR.one o2 v2
    obtain ⟨a, b, k1, k2, k3⟩ := key
    rw [Op.eqFields]
    simp only [if_pos hn, Sem.run_bind, k1, k2, k3, Result.andThen_ok]
    cases r1
    · simp
    · simpa using rest
theorem nInts_tag : ∀ (n : Nat) (t : TypeId) (m : Nat), nInts P n t = some m → ∃ q, tag P t = some q ∧ (q = false → m = 1)
  | 0, t, m, e => by cases e
  | n + 1, t, m, e => by
    simp only [nInts] at e
    split at e
    case h_1 k hu => cases e; exact ⟨false, by simp [tag, hu], fun _ => rfl⟩
    case h_2 fs hu => exact ⟨true, by simp [tag, hu], fun e => by cases e⟩
    case h_3 => cases e
theorem eq_ints : ∀ (n : Nat) (d : Nat) (t : TypeId) (m : Nat), nInts P n t = some m → ∀ (a b : Value) (cs ds : List PV) (r : Bool), (∃ q, tag P t = some q ∧ (q = true → ∃ vs, a = .agg vs) ∧ (q = true → ∃ vs, b = .agg vs) ∧ (q = false → a.oneCell' = true ∧ b.oneCell' = true)) →
      CR w h N cs a.cells.toList → CR w h N ds b.cells.toList → cs.length = m → ceq cs ds = some r → (Op.equalIn (d + n) t a b).run P w = .ok r w
  | 0, d, t, m, e => by cases e
  | n + 1, d, t, m, e => by
    intro a b cs ds r ⟨q, hq, qa, qb, qo⟩ c1 c2 hl hr
    simp only [nInts] at e
    split at e
    case h_1 k hu =>
      cases e
      have q0 : q = false := by simp [tag, hu] at hq; exact hq
      obtain ⟨o1, o2⟩ := qo q0
      obtain ⟨c, rfl⟩ := List.length_eq_one_iff.1 hl
      obtain ⟨c', rfl⟩ := List.length_eq_one_iff.1 ((ceq_len hr).symm.trans hl)
      cases c <;> cases c' <;> try (simp [ceq] at hr; done)
      · rename_i k1 x k2 y
        simp only [ceq] at hr
        split at hr
        · rename_i hk
          rw [cells_one o1] at c1; rw [cells_one o2] at c2
          simp only [CR] at c1 c2
          obtain ⟨v, vs, e1, _, v1, _⟩ := c1
          obtain ⟨u, us, e2, _, v2, _⟩ := c2
          cases e1; cases e2
          simp only [VR] at v1 v2
          subst v1 v2 hk
          simp at hr
          rw [← hr]
          simp only [← Nat.add_assoc, Op.equalIn, Sem.run_bind, run_underlying hu, Result.andThen_ok]
          simp
          rfl
        · cases hr
    case h_2 fs hu =>
      split at e
      case isFalse => cases e
      case isTrue hp =>
      have q0 : q = true := by simp [tag, hu] at hq; exact hq
      obtain ⟨vs, rfl⟩ := qa q0
      obtain ⟨us, rfl⟩ := qb q0
      have hf : P.fieldsOf t = fs := by simp [Program.fieldsOf, hu]
      rw [← Nat.add_assoc, run_equalIn_struct (P := P) w (d + n) t vs us (by rw [hf]; exact hu) hp, hf]
      exact eq_fields (d + n) (nInts P n) (fun t m e1 _ => eq_ints n d t m e1) (nInts_tag n) vs us fs.toList 0 m cs ds r e (by simpa [Value.cells] using c1) (by simpa [Value.cells] using c2) (by omega) (by omega) hr
    case h_3 => cases e
theorem eqGuard_agg {op : BinOp} {t : TypeId} {x y : Operand} {vs us : Array Value} (hg : P.eqGuardType P.depth t = false) : (eqGuard op t x y (.agg vs) (.agg us)).run P w = .ok () w := by
  cases op <;> simp [eqGuard, hg]
theorem eq_agg {t : TypeId} {vs us : Array Value} {cs ds : List PV} {r : Bool} (e : eqt P t = true) (c1 : CR w h N cs vs.toList) (c2 : CR w h N ds us.toList) (hl : tsz P t = some cs.length) (hr : ceq cs ds = some r) :
    (Op.equal t (.agg vs) (.agg us)).run P w = .ok r w ∧ P.eqGuardType P.depth t = false := by
  simp only [eqt, Bool.and_eq_true, Bool.not_eq_true'] at e
  obtain ⟨⟨e1, e2⟩, e3⟩ := e
  refine ⟨?_, e2⟩
  split at e3
  · rename_i m hm
    have : m = cs.length := by rw [hl] at e3; exact (by simpa using e3 : cs.length = m).symm
    subst this
    split at e1
    · rename_i fs hu
      exact eq_ints 9 9991 t _ hm _ _ cs ds r ⟨true, by simp [tag, hu], fun _ => ⟨_, rfl⟩, fun _ => ⟨_, rfl⟩, fun e => by cases e⟩ (by simpa [Value.cells] using c1) (by simpa [Value.cells] using c2) rfl hr
    · cases e1
  · cases e3

theorem eq_items (d : Nat) {e : TypeId} (hu : P.underlying e = some .bool) (hs : P.cellsOf e = 1) (ht : tag P e = some false) (xs ys : Array Value) : ∀ (cs ds : List PV) (off : Nat) (r : Bool), CR w h N cs (xs.toList.drop off) → CR w h N ds (ys.toList.drop off) → ceqB cs ds = some r →
    (Op.eqItems (d + 1) e (P.cellsOf e) xs ys (List.range' off cs.length)).run P w = .ok r w
  | [], ds, off, r, c1, c2, q => by
    cases ds with
    | nil => simp only [ceqB, Option.some.injEq] at q; subst q; simp [Op.eqItems]
    | cons x ds => simp [ceqB] at q
  | c :: cs, [], off, r, c1, c2, q => by cases c <;> simp [ceqB] at q
  | c :: cs, x :: ds, off, r, c1, c2, q => by
    have n1 := c1.drop 1
    have n2 := c2.drop 1
    rw [List.drop_drop] at n1 n2
    simp only [List.drop_succ_cons, List.drop_zero] at n1 n2
    simp only [CR] at c1 c2
    obtain ⟨v, vs', e3, o1, v1, _⟩ := c1
    obtain ⟨u, us', e4, o2, v2, _⟩ := c2
    cases c <;> try (simp [ceqB] at q; done)
    cases x <;> try (simp [ceqB] at q; done)
    rename_i a b
    simp only [ceqB] at q
    obtain ⟨r', hr, rfl⟩ := Option.map_eq_some_iff.1 q
    have g1 : xs[off]? = some v := by rw [← Array.getElem?_toList, ← List.head?_drop, e3]; rfl
    have g2 : ys[off]? = some u := by rw [← Array.getElem?_toList, ← List.head?_drop, e4]; rfl
    simp only [VR] at v1 v2
    subst v1 v2
    have k1 : (part e xs off).run P w = .ok (.bool a) w := by simp [part, isAgg_run ht, g1]
    have k2 : (part e ys off).run P w = .ok (.bool b) w := by simp [part, isAgg_run ht, g2]
    have k3 : (Op.equalIn (d + 1) e (.bool a) (.bool b)).run P w = .ok (a == b) w := by simp [Op.equalIn, run_underlying hu]
    have rest := eq_items d hu hs ht xs ys cs ds (off + 1) r' n1 n2 hr
    rw [List.length_cons, List.range'_succ]
    rw [Op.eqItems]
    simp only [hs, Nat.mul_one] at rest ⊢
    simp only [Sem.run_bind, k1, k2, k3, Result.andThen_ok]
    cases hab : (a == b)
    · simp
    · simpa using rest
theorem eq_aggB {t : TypeId} {vs us : Array Value} {cs ds : List PV} {r : Bool} (e : eqtB P t = true) (c1 : CR w h N cs vs.toList) (c2 : CR w h N ds us.toList) (hl : tsz P t = some cs.length) (hr : ceqB cs ds = some r) :
    (Op.equal t (.agg vs) (.agg us)).run P w = .ok r w ∧ P.eqGuardType P.depth t = false := by
  simp only [eqtB, Bool.and_eq_true, Bool.not_eq_true'] at e
  obtain ⟨e1, e2⟩ := e
  refine ⟨?_, e2⟩
  split at e1
  · rename_i n el hu
    simp only [Bool.and_eq_true, beq_iff_eq] at e1
    obtain ⟨⟨⟨b1, b2⟩, b3⟩, b4⟩ := e1
    have hb : P.underlying el = some .bool := by
      revert b1; cases P.underlying el with
      | none => simp
      | some d => cases d <;> simp
    have hi : ∃ i, P.info? el = some i ∧ i.size = 1 := by
      unfold tsz at b2; cases q : P.info? el with
      | none => simp [q] at b2
      | some i => exact ⟨i, rfl, by simpa [q] using b2⟩
    obtain ⟨i, hi, hi1⟩ := hi
    have hc : P.cellsOf el = 1 := by simp [Program.cellsOf, hi, hi1]
    have hn : n = cs.length := by rw [hl] at b4; exact (by simpa using b4 : cs.length = n).symm
    subst hn
    have := run_equalIn_array (P := P) w 9999 vs us hu hi
    rw [show Op.equal t (.agg vs) (.agg us) = Op.equalIn (9999 + 1) t (.agg vs) (.agg us) from rfl, this, List.range_eq_range']
    exact eq_items 9998 hb hc b3 vs us cs ds 0 r (by simpa using c1) (by simpa using c2) hr
  · cases e1
theorem eq_itemsI (d : Nat) {e : TypeId} {ki : IntKind} (hu : P.underlying e = some (.int ki)) (hs : P.cellsOf e = 1) (ht : tag P e = some false) (xs ys : Array Value) : ∀ (cs ds : List PV) (off : Nat) (r : Bool), CR w h N cs (xs.toList.drop off) → CR w h N ds (ys.toList.drop off) → ceq cs ds = some r →
    (Op.eqItems (d + 1) e (P.cellsOf e) xs ys (List.range' off cs.length)).run P w = .ok r w
  | [], ds, off, r, c1, c2, q => by
    cases ds with
    | nil => simp only [ceq, Option.some.injEq] at q; subst q; simp [Op.eqItems]
    | cons x ds => simp [ceq] at q
  | c :: cs, [], off, r, c1, c2, q => by cases c <;> simp [ceq] at q
  | c :: cs, x :: ds, off, r, c1, c2, q => by
    have n1 := c1.drop 1
    have n2 := c2.drop 1
    rw [List.drop_drop] at n1 n2
    simp only [List.drop_succ_cons, List.drop_zero] at n1 n2
    simp only [CR] at c1 c2
    obtain ⟨v, vs', e3, o1, v1, _⟩ := c1
    obtain ⟨u, us', e4, o2, v2, _⟩ := c2
    cases c <;> try (simp [ceq] at q; done)
    cases x <;> try (simp [ceq] at q; done)
    rename_i k1 a k2 b
    simp only [ceq] at q
    split at q
    case isFalse => cases q
    case isTrue hk =>
    subst hk
    obtain ⟨r', hr, rfl⟩ := Option.map_eq_some_iff.1 q
    have g1 : xs[off]? = some v := by rw [← Array.getElem?_toList, ← List.head?_drop, e3]; rfl
    have g2 : ys[off]? = some u := by rw [← Array.getElem?_toList, ← List.head?_drop, e4]; rfl
    simp only [VR] at v1 v2
    subst v1 v2
    have p1 : (part e xs off).run P w = .ok (.int k1 a) w := by simp [part, isAgg_run ht, g1]
    have p2 : (part e ys off).run P w = .ok (.int k1 b) w := by simp [part, isAgg_run ht, g2]
    have p3 : (Op.equalIn (d + 1) e (.int k1 a) (.int k1 b)).run P w = .ok (decide (a = b)) w := by
      simp only [Op.equalIn, Sem.run_bind, run_underlying hu, Result.andThen_ok]
      simp
      rfl
    have rest := eq_itemsI d hu hs ht xs ys cs ds (off + 1) r' n1 n2 hr
    rw [List.length_cons, List.range'_succ]
    rw [Op.eqItems]
    simp only [hs, Nat.mul_one] at rest ⊢
    simp only [Sem.run_bind, p1, p2, p3, Result.andThen_ok]
    cases hab : decide (a = b)
    · simp
    · simpa using rest
theorem eq_aggI {t : TypeId} {vs us : Array Value} {cs ds : List PV} {r : Bool} (e : eqtI P t = true) (c1 : CR w h N cs vs.toList) (c2 : CR w h N ds us.toList) (hl : tsz P t = some cs.length) (hr : ceq cs ds = some r) :
    (Op.equal t (.agg vs) (.agg us)).run P w = .ok r w ∧ P.eqGuardType P.depth t = false := by
  simp only [eqtI, Bool.and_eq_true, Bool.not_eq_true'] at e
  obtain ⟨e1, e2⟩ := e
  refine ⟨?_, e2⟩
  split at e1
  · rename_i n el hu
    simp only [Bool.and_eq_true, beq_iff_eq] at e1
    obtain ⟨⟨⟨b1, b2⟩, b3⟩, b4⟩ := e1
    have hb : ∃ ki, P.underlying el = some (.int ki) := by
      revert b1; cases P.underlying el with
      | none => simp
      | some d => cases d <;> simp
    obtain ⟨ki, hb⟩ := hb
    have hi : ∃ i, P.info? el = some i ∧ i.size = 1 := by
      unfold tsz at b2; cases q : P.info? el with
      | none => simp [q] at b2
      | some i => exact ⟨i, rfl, by simpa [q] using b2⟩
    obtain ⟨i, hi, hi1⟩ := hi
    have hc : P.cellsOf el = 1 := by simp [Program.cellsOf, hi, hi1]
    have hn : n = cs.length := by rw [hl] at b4; exact (by simpa using b4 : cs.length = n).symm
    subst hn
    have := run_equalIn_array (P := P) w 9999 vs us hu hi
    rw [show Op.equal t (.agg vs) (.agg us) = Op.equalIn (9999 + 1) t (.agg vs) (.agg us) from rfl, this, List.range_eq_range']
    exact eq_itemsI 9998 hb hc b3 vs us cs ds 0 r (by simpa using c1) (by simpa using c2) hr
  · cases e1
theorem eq_aggX {t : TypeId} {vs us : Array Value} {cs ds : List PV} {r : Bool} (e : (eqt P t || eqtI P t) = true) (c1 : CR w h N cs vs.toList) (c2 : CR w h N ds us.toList) (hl : tsz P t = some cs.length) (hr : ceq cs ds = some r) :
    (Op.equal t (.agg vs) (.agg us)).run P w = .ok r w ∧ P.eqGuardType P.depth t = false := by
  rcases Bool.or_eq_true_iff.1 e with e | e
  · exact eq_agg e c1 c2 hl hr
  · exact eq_aggI e c1 c2 hl hr
theorem bin_sound {op : BinOp} {t : TypeId} {x y v : PV} {a b : Value} (hx : VR w h N x a) (hy : VR w h N y b) (e : bin P op t x y = some v) :
    (∀ X Y, (eqGuard op t X Y a b).run P w = .ok () w) ∧ ∃ c, (binOp op t a b).run P w = .ok c w ∧ VR w h N v c := by
  unfold bin at e
  split at e
  · -- ints
    rename_i k a' k' b'
    simp only [VR] at hx hy
    subst hx hy
    refine ⟨fun X Y => eqGuard_skip (fun _ => by simp) (by simp), ?_⟩
    cases op <;> simp only at e
    case shl =>
      split at e
      · cases e; rename_i hb
        exact ⟨_, by simp [binOp, Op.shift, Int.not_lt.2 hb]; rfl, by simp only [VR]⟩
      · cases e
    case shr =>
      split at e
      · cases e; rename_i hb
        exact ⟨_, by simp [binOp, Op.shift, Int.not_lt.2 hb]; rfl, by simp only [VR]⟩
      · cases e
    all_goals
      split at e
      · rename_i hk
        subst hk
        first
          | (cases e; exact ⟨_, by simp only [binOp, ne_eq, not_true_eq_false, if_false, Op.intArith, Op.intDiv, Op.intBits, Op.intCmp]; rfl, by simp only [VR]⟩)
          | (split at e
             · cases e
             · cases e; rename_i hb; exact ⟨_, by simp [binOp, Op.intDiv, hb]; rfl, by simp only [VR]⟩)
      · cases e
  · -- strings
    simp only [VR] at hx hy
    subst hx hy
    refine ⟨fun X Y => eqGuard_skip (fun _ => by simp) (by simp), ?_⟩
    cases op <;> simp only [reduceCtorEq] at e <;> cases e <;> exact ⟨_, by simp [binOp, Op.stringOp]; rfl, by simp only [VR]⟩
  · -- bools
    simp only [VR] at hx hy
    subst hx hy
    refine ⟨fun X Y => eqGuard_skip (fun _ => by simp) (by simp), ?_⟩
    split at e
    · rename_i ht
      cases op <;> simp only [reduceCtorEq] at e <;> cases e <;> exact ⟨_, by simp [binOp, eq_bool ht]; rfl, by simp only [VR]⟩
    · cases e
  · -- structs
    simp only [VR] at hx hy
    obtain ⟨vs, rfl, c1⟩ := hx
    obtain ⟨us, rfl, c2⟩ := hy
    split at e
    · rename_i he
      split at e
      · rename_i hl
        split at e
        · rename_i r hr
          obtain ⟨q1, q2⟩ := eq_aggX he c1 c2 hl hr
          refine ⟨fun X Y => eqGuard_agg q2, ?_⟩
          cases op <;> simp only [reduceCtorEq] at e <;> cases e <;> exact ⟨_, by simp [binOp, q1]; rfl, by simp only [VR]⟩
        · cases e
      · cases e
    · split at e
      · rename_i he
        split at e
        · rename_i hl
          split at e
          · rename_i r hr
            obtain ⟨q1, q2⟩ := eq_aggB he c1 c2 hl hr
            refine ⟨fun X Y => eqGuard_agg q2, ?_⟩
            cases op <;> simp only [reduceCtorEq] at e <;> cases e <;> exact ⟨_, by simp [binOp, q1]; rfl, by simp only [VR]⟩
          · cases e
        · cases e
      · cases e
  · -- pointers
    simp only [VR] at hy
    subst hy
    split at e
    · rename_i ht
      split at e
      · simp only [VR] at hx
        subst hx
        refine ⟨fun X Y => eqGuard_skip (fun _ => by simp) (by simp), ?_⟩
        cases op <;> simp only [reduceCtorEq] at e <;> cases e <;> exact ⟨_, by simp [binOp, eq_ptr_nil ht]; rfl, by simp only [VR]⟩
      · simp only [VR] at hx
        subst hx
        refine ⟨fun X Y => eqGuard_skip (fun _ => by simp) (by simp), ?_⟩
        cases op <;> simp only [reduceCtorEq] at e <;> cases e <;> exact ⟨_, by simp [binOp, eq_ptr_nil ht]; rfl, by simp only [VR]⟩
      · simp only [VR] at hx
        obtain ⟨_, _, _, hx, _⟩ := hx
        subst hx
        refine ⟨fun X Y => eqGuard_skip (fun _ => by simp) (by simp), ?_⟩
        cases op <;> simp only [reduceCtorEq] at e <;> cases e <;> exact ⟨_, by simp [binOp, eq_ptr_nil ht]; rfl, by simp only [VR]⟩
      · cases e
    · cases e
  · -- slices
    simp only [VR] at hy
    subst hy
    split at e
    · rename_i ht
      split at e
      · simp only [VR] at hx
        subst hx
        refine ⟨fun X Y => eqGuard_skip (fun _ => by simp) (by simp), ?_⟩
        cases op <;> simp only [reduceCtorEq] at e <;> cases e <;> exact ⟨_, by simp [binOp, eq_slice_nil ht]; rfl, by simp only [VR]⟩
      · simp only [VR] at hx
        obtain ⟨_, hx, _⟩ := hx
        subst hx
        refine ⟨fun X Y => eqGuard_skip (fun _ => by simp) (by simp), ?_⟩
        cases op <;> simp only [reduceCtorEq] at e <;> cases e <;> exact ⟨_, by simp [binOp, eq_slice_nil ht]; rfl, by simp only [VR]⟩
      · simp only [VR] at hx
        split at e
        · obtain ⟨a', c, vs, hx, _⟩ := hx
          subst hx
          refine ⟨fun X Y => eqGuard_skip (fun _ => by simp) (by simp), ?_⟩
          cases op <;> simp only [reduceCtorEq] at e <;> cases e <;> exact ⟨_, by simp [binOp, eq_slice_nil ht]; rfl, by simp only [VR]; exact ⟨_, rfl⟩⟩
        · rename_i hn
          obtain ⟨a', c, vs, hx, _, _, _, h4⟩ := hx
          rcases h4 with h4 | ⟨b, o, rfl, _⟩
          · exact absurd h4 hn
          subst hx
          refine ⟨fun X Y => eqGuard_skip (fun _ => by simp) (by simp), ?_⟩
          cases op <;> simp only [reduceCtorEq] at e <;> cases e <;> exact ⟨_, by simp [binOp, eq_slice_nil ht]; rfl, by simp only [VR]⟩
      · cases e
    · cases e
  · cases e
end
end Go.Pm
