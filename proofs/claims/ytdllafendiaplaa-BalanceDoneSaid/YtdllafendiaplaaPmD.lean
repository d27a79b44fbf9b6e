/-
  An abstract machine over pure values, part D: addresses, parts, slices, what is built.
  Conditions: none.
-/
import Derived.Test.YtdllafendiaplaaPmC
namespace Go.Pm
set_option linter.unusedVariables false
set_option linter.unusedSimpArgs false

def un (op : UnOp) (x : PV) : Option PV :=
  match x with
  | .bool b => match op with | .not => some (.bool !b) | _ => none
  | .int k n => match op with | .neg => some (.int k (k.wrap (0 - n))) | _ => none
  | _ => none
def cv (P : Program) (s d : TypeId) (x : PV) : Option PV :=
  match (P.underlying s).isSome, P.underlying d, x with
  | true, some (.int k), .int _ n => some (.int k (k.wrap n))
  | _, _, _ => none
def fa (P : Program) (t : TypeId) (x : PV) (f : Nat) : Option PV :=
  match fld P t f with
  | some (o, _, n) => if n = 0 then none else match x with
    | .ptr b off => some (.ptr b (off + o))
    | .fptr fr cs off => some (.fptr fr cs (off + o))
    | _ => none
  | none => none
def fd (P : Program) (t : TypeId) (x : PV) (f : Nat) : Option PV :=
  match fld P t f, x with
  | some (o, g, n), .agg cs => ldv g n cs o
  | _, _ => none
def ixa (P : Program) (t : TypeId) (x i : PV) : Option PV :=
  match i with
  | .int _ j => match x with
    | .list fr E n cs => if 0 ≤ j ∧ j < n then (if (elt P t).bind (tsz P) = some E then some (.fptr fr cs (j.toNat * E)) else none) else none
    | .buf b E off n => if 0 ≤ j ∧ j < n then (if (elt P t).bind (tsz P) = some E then some (.ptr b (off + j.toNat * E)) else none) else none
    | .ptr b off => match arr P t with
      | some (n, e) => match tsz P e with
        | some E => if 0 ≤ j ∧ j < n then some (.ptr b (off + j.toNat * E)) else none
        | none => none
      | none => none
    | .fptr fr cs off => match arr P t with
      | some (n, e) => match tsz P e with
        | some E => if 0 ≤ j ∧ j < n then some (.fptr fr cs (off + j.toNat * E)) else none
        | none => none
      | none => none
    | _ => none
  | _ => none
def ixv (P : Program) (t : TypeId) (x i : PV) : Option PV :=
  match i with
  | .int _ j => match x with
    | .agg cs => match arr P t with
      | some (n, e) => match tag P e, tsz P e with
        | some g, some E => if 0 ≤ j ∧ j < n then ldv g E cs (j.toNat * E) else none
        | _, _ => none
      | none => none
    | .str s => match P.underlying t with
      | some .string => if 0 ≤ j then (s[j.toNat]?).map fun b => .int .u8 b.toNat else none
      | _ => none
    | _ => none
  | _ => none
/-- The bounds of a cut, with none above. -/
def cutB (n : Nat) (lo hi : Option PV) : Option (Nat × Nat) :=
  match lo, hi with
  | none, none => some (0, n)
  | some (.int _ l), none => if 0 ≤ l ∧ l ≤ n then some (l.toNat, n) else none
  | none, some (.int _ k) => if 0 ≤ k ∧ k ≤ n then some (0, k.toNat) else none
  | some (.int _ l), some (.int _ k) => if 0 ≤ l ∧ l ≤ k ∧ k ≤ n then some (l.toNat, k.toNat) else none
  | _, _ => none
def slc (P : Program) (t : TypeId) (x : PV) (lo hi : Option PV) : Option PV :=
  match x with
  | .str s => match P.underlying t with
    | some .string => (cutB s.size lo hi).map fun p => .str (s.extract p.1 p.2)
    | _ => none
  | .nils => if ((elt P t).bind (tsz P)).isSome then (cutB 0 lo hi).map fun _ => .nils else none
  | .list fr E n cs => if (elt P t).bind (tsz P) = some E then (cutB n lo hi).map fun p => .list fr E (p.2 - p.1) ((cs.drop (p.1 * E)).take ((p.2 - p.1) * E)) else none
  | .buf b E off n => if (elt P t).bind (tsz P) = some E then (cutB n lo hi).bind fun p =>
      if p.1 = 0 then some (.buf b E off p.2) else if p.1 < p.2 then some (.buf b E (off + p.1 * E) (p.2 - p.1)) else some (.list true E 0 []) else none
  | _ => none
def pfill (place : Nat → Option (Nat × Nat)) (cells : List PV) : List (Nat × PV) → Option (List PV)
  | [] => some cells
  | (i, v) :: rest => match place i, flat v with
    | some (off, size), some vs => if vs.length = size ∧ off + size ≤ cells.length then pfill place (wr cells off vs) rest else none
    | _, _ => none
def bld (P : Program) (t : TypeId) (parts : List (Nat × PV)) : Option PV :=
  match plc P t, zc P t with
  | some pl, some z => (pfill pl z parts).map .agg
  | _, _ => none
def lenv (x : PV) : Option PV :=
  match x with
  | .str s => some (.int .i64 s.size)
  | .nils => some (.int .i64 0)
  | .list _ _ n _ => some (.int .i64 n)
  | .buf _ _ _ n => some (.int .i64 n)
  | _ => none
/-- The capacity of what is nil (of nothing else is it told). -/
def capv (P : Program) (t : TypeId) (x : PV) : Option PV :=
  match x with
  | .nils => if (elt P t).isSome then some (.int .i64 0) else none
  | _ => none
def lenOk (P : Program) (t : TypeId) (x : PV) : Bool :=
  match P.underlying t, x with
  | some .string, .str _ => true
  | some (.slice _), .nils | some (.slice _), .list _ _ _ _ | some (.slice _), .buf _ _ _ _ => true
  | _, _ => false
def minv : List PV → Option PV
  | [.int k a, .int _ b] => some (.int k (if b < a then b else a))
  | _ => none
def maxv : List PV → Option PV
  | [.int k a, .int _ b] => some (.int k (if b > a then b else a))
  | _ => none

section
variable {P : Program} {w : World} {h : Heap} {N : Nat}

theorem un_sound {op : UnOp} {x v : PV} {a : Value} (hx : VR w h N x a) (e : un op x = some v) : ∃ c, (Op.unary op a).run P w = .ok c w ∧ VR w h N v c := by
  unfold un at e
  split at e
  · simp only [VR] at hx; subst hx
    cases op <;> simp only [reduceCtorEq] at e <;> cases e
    exact ⟨_, rfl, by simp only [VR]⟩
  · simp only [VR] at hx; subst hx
    cases op <;> simp only [reduceCtorEq] at e <;> cases e
    exact ⟨_, rfl, by simp only [VR]⟩
  · cases e
theorem cv_sound {s d : TypeId} {x v : PV} {a : Value} (hx : VR w h N x a) (e : cv P s d x = some v) : ∃ c, (convert s d a).run P w = .ok c w ∧ VR w h N v c := by
  unfold cv at e
  split at e
  · rename_i k _ n hs hd
    simp only [VR] at hx; subst hx
    cases e
    cases hs' : P.underlying s with
    | none => simp [hs'] at hs
    | some ds => exact ⟨_, by simp [convert, run_underlying hs', run_underlying hd, Conv.intToInt]; rfl, by simp only [VR]⟩
  · cases e
theorem fld_spec {t : TypeId} {f o n : Nat} {g : Bool} (e : fld P t f = some (o, g, n)) :
    ∃ fs x, P.underlying t = some (.struct fs) ∧ fs[f]? = some x ∧ x.offset = o ∧ tag P x.type = some g ∧ tsz P x.type = some n := by
  unfold fld at e
  split at e
  · rename_i fs hf
    split at e
    · rename_i x hx
      split at e
      · rename_i g' n' hg hn
        cases e
        exact ⟨fs, x, hf, hx, rfl, hg, hn⟩
      · cases e
    · cases e
  · cases e
theorem fa_sound {t : TypeId} {x v : PV} {f : Nat} {a : Value} (hx : VR w h N x a) (e : fa P t x f = some v) : ∃ c, (Instr.fieldAt t a f).run P w = .ok c w ∧ VR w h N v c := by
  unfold fa at e
  split at e
  · rename_i o g n hf
    obtain ⟨fs, y, h1, h2, rfl, h4, h5⟩ := fld_spec hf
    split at e
    · cases e
    · rename_i hn
      have key : ∀ (ad : Addr), (Instr.fieldAt t (.pointer (some ad)) f).run P w = .ok (.pointer (some (ad.add y.offset))) w := fun ad => by
        simp [Instr.fieldAt, run_underlying h1, h2, Instr.sureAddr, fieldPlace, sizeOf_run h5, hn]
      split at e
      · simp only [VR] at hx; subst hx; cases e
        exact ⟨_, key _, by simp only [VR, Addr.add_mid]⟩
      · simp only [VR] at hx
        obtain ⟨b, o, vs, rfl, q1, q2, q3, q4, q5⟩ := hx
        cases e
        exact ⟨_, key _, by simp only [VR, Addr.add_mid]; exact ⟨b, o, vs, by rw [Nat.add_assoc], q1, q2, q3, q4, q5⟩⟩
      · cases e
  · cases e
theorem part_sound {t : TypeId} {g : Bool} {n o : Nat} {cs : List PV} {vs : Array Value} {v : PV} (hg : tag P t = some g) (hn : tsz P t = some n) (hc : CR w h N cs vs.toList) (e : ldv g n cs o = some v) :
    ∃ c, (part t vs o).run P w = .ok c w ∧ VR w h N v c := by
  unfold ldv at e
  cases g with
  | true =>
    simp only [if_true] at e
    split at e
    · cases e
      refine ⟨.agg (vs.extract o (o + n)), by simp [part, isAgg_run hg, sizeOf_run hn], ?_⟩
      simp only [VR]
      refine ⟨_, rfl, ?_⟩
      have := (hc.drop o).take n
      rw [Array.toList_extract, List.extract_eq_take_drop]
      simpa using this
    · cases e
  | false =>
    simp only [Bool.false_eq_true, if_false] at e
    obtain ⟨c, h1, h2⟩ := hc.get o e
    have h1' : vs[o]? = some c := by simpa using h1
    exact ⟨c, by simp [part, isAgg_run hg, h1'], h2⟩
theorem fd_sound {t : TypeId} {x v : PV} {f : Nat} {a : Value} (hx : VR w h N x a) (e : fd P t x f = some v) : ∃ c, (Instr.field t a f).run P w = .ok c w ∧ VR w h N v c := by
  unfold fd at e
  split at e
  · rename_i o g n cs hf
    obtain ⟨fs, y, h1, h2, rfl, h4, h5⟩ := fld_spec hf
    simp only [VR] at hx
    obtain ⟨vs, rfl, hc⟩ := hx
    obtain ⟨c, q1, q2⟩ := part_sound h4 h5 hc e
    exact ⟨c, by simp [Instr.field, run_underlying h1, h2, asAgg, q1], q2⟩
  · cases e
theorem elt_spec {t : TypeId} {E : Nat} (e : (elt P t).bind (tsz P) = some E) : ∃ el, P.underlying t = some (.slice el) ∧ tsz P el = some E := by
  unfold elt at e
  split at e
  · rename_i el hu
    exact ⟨el, hu, by simpa using e⟩
  · simp at e
theorem arr_spec {t e : TypeId} {n : Nat} (q : arr P t = some (n, e)) : P.underlying t = some (.array n e) := by
  unfold arr at q
  split at q
  · rename_i n' e' hu; cases q; exact hu
  · cases q
theorem ixa_sound {t : TypeId} {x i v : PV} {a b : Value} (hx : VR w h N x a) (hi : VR w h N i b) (e : ixa P t x i = some v) : ∃ c, (Instr.indexAt t a b).run P w = .ok c w ∧ VR w h N v c := by
  unfold ixa at e
  split at e
  · rename_i k j
    simp only [VR] at hi; subst hi
    split at e
    · rename_i fr E n cs
      split at e
      · rename_i hj
        split at e
        · rename_i hE
          cases e
          obtain ⟨el, hu, hs⟩ := elt_spec hE
          simp only [VR] at hx
          obtain ⟨a', c, vs, rfl, q1, q2, q3, q4⟩ := hx
          rcases q4 with q4 | ⟨b', o, rfl, q5, q6, q7, q8⟩
          · omega
          refine ⟨.pointer (some ⟨b', o + j.toNat * E, none⟩), ?_, ?_⟩
          · simp [Instr.indexAt, asIntOf, run_underlying hu, hj, sizeOf_run hs, Addr.add_mid]
          · simp only [VR]
            exact ⟨b', o, vs, rfl, q5, q6, q7, q3, q8⟩
        · cases e
      · cases e
    · rename_i b' E off n
      split at e
      · rename_i hj
        split at e
        · rename_i hE
          cases e
          obtain ⟨el, hu, hs⟩ := elt_spec hE
          simp only [VR] at hx
          obtain ⟨c, rfl, q1, q2, q3⟩ := hx
          refine ⟨.pointer (some ⟨b', off + j.toNat * E, none⟩), ?_, ?_⟩
          · simp [Instr.indexAt, asIntOf, run_underlying hu, hj, sizeOf_run hs, Addr.add_mid]
          · simp only [VR]
        · cases e
      · cases e
    · split at e
      · rename_i b' off _ n el ha
        have hu := arr_spec ha
        split at e
        · rename_i E hs
          split at e
          · rename_i hj
            cases e
            simp only [VR] at hx; subst hx
            refine ⟨.pointer (some ⟨b', off + j.toNat * E, none⟩), ?_, by simp only [VR]⟩
            simp [Instr.indexAt, asIntOf, run_underlying hu, hj, sizeOf_run hs, Addr.add_mid, Instr.sureAddr]
          · cases e
        · cases e
      · cases e
    · split at e
      · rename_i fr cs off _ n el ha
        have hu := arr_spec ha
        split at e
        · rename_i E hs
          split at e
          · rename_i hj
            cases e
            simp only [VR] at hx
            obtain ⟨b', o, vs, rfl, q1, q2, q3, q4, q5⟩ := hx
            refine ⟨.pointer (some ⟨b', o + off + j.toNat * E, none⟩), ?_, ?_⟩
            · simp [Instr.indexAt, asIntOf, run_underlying hu, hj, sizeOf_run hs, Addr.add_mid, Instr.sureAddr]
            · simp only [VR]; exact ⟨b', o, vs, by rw [Nat.add_assoc], q1, q2, q3, q4, q5⟩
          · cases e
        · cases e
      · cases e
    · cases e
  · cases e
theorem ixv_sound {t : TypeId} {x i v : PV} {a b : Value} (hx : VR w h N x a) (hi : VR w h N i b) (e : ixv P t x i = some v) : ∃ c, (Instr.index t a b).run P w = .ok c w ∧ VR w h N v c := by
  unfold ixv at e
  split at e
  · rename_i k j
    simp only [VR] at hi; subst hi
    split at e
    · rename_i cs
      split at e
      · rename_i n el ha
        have hu := arr_spec ha
        split at e
        · rename_i g E hg hs
          split at e
          · rename_i hj
            simp only [VR] at hx
            obtain ⟨vs, rfl, hc⟩ := hx
            obtain ⟨c, q1, q2⟩ := part_sound hg hs hc e
            exact ⟨c, by simp [Instr.index, asIntOf, run_underlying hu, hj, sizeOf_run hs, q1], q2⟩
          · cases e
        · cases e
      · cases e
    · rename_i s
      split at e
      · rename_i hu
        split at e
        · rename_i hj
          simp only [VR] at hx; subst hx
          cases hb : s[j.toNat]? with
          | none => simp [hb] at e
          | some c =>
            simp only [hb, Option.map_some, Option.some.injEq] at e
            subst e
            exact ⟨_, by simp [Instr.index, asIntOf, run_underlying hu, hj, hb]; rfl, by simp only [VR]⟩
        · cases e
      · cases e
    · cases e
  · cases e
end
end Go.Pm
