/-
  An abstract machine over pure values, part P: a row's arguments as pure values, and what a row asks behind the call.
  Conditions: the arguments are whole numbers, truths, structs of such, and slices of such.
-/
import Derived.Test.YtdllafendiaplaaPmO
import Derived.ChangeSlices
import Derived.WideShapes
import Derived.SizedLaws
import Derived.Carry
import Derived.RowKit
namespace Go.Pm
open Go.ChangeShapes Go.WideShapes Go.RowKit
set_option linter.unusedVariables false
set_option linter.unusedSimpArgs false

def atomsF (g : TypeId → Option (List (Option IntKind))) (P : Program) : List Field → Nat → Option (List (Option IntKind))
  | [], _ => some []
  | f :: fs, off => if f.offset = off then
      match g f.type with
      | some a => if a.length = P.cellsOf f.type then (match atomsF g P fs (off + a.length) with | some r => some (a ++ r) | none => none) else none
      | none => none
    else none
/-- The kinds of a type's cells, if they are whole numbers (of a kind) and truths alone. -/
def atoms (P : Program) : Nat → TypeId → Option (List (Option IntKind))
  | 0, _ => none
  | n + 1, t => match P.underlying t with
    | some (.int k) => some [some k]
    | some .bool => some [none]
    | some (.struct fs) => match atomsF (atoms P n) P fs.toList 0 with | some r => if r.length = P.cellsOf t then some r else none | none => none
    | _ => none
def Fits : List (Option IntKind) → List PV → Prop
  | [], l => l = []
  | some k :: ks, l => ∃ n r, l = .int k n :: r ∧ (Lit.int k n).wf = true ∧ Fits ks r
  | none :: ks, l => ∃ b r, l = .bool b :: r ∧ Fits ks r
theorem Fits.length : ∀ {ks : List (Option IntKind)} {l : List PV}, Fits ks l → l.length = ks.length
  | [], l, h => by simp only [Fits] at h; simp [h]
  | some k :: ks, l, h => by simp only [Fits] at h; obtain ⟨n, r, rfl, _, h⟩ := h; simp [Fits.length h]
  | none :: ks, l, h => by simp only [Fits] at h; obtain ⟨n, r, rfl, h⟩ := h; simp [Fits.length h]
theorem Fits.append : ∀ {as bs : List (Option IntKind)} {l m : List PV}, Fits as l → Fits bs m → Fits (as ++ bs) (l ++ m)
  | [], bs, l, m, h, h2 => by simp only [Fits] at h; simpa [h] using h2
  | some k :: ks, bs, l, m, h, h2 => by simp only [Fits] at h; obtain ⟨n, r, rfl, hw, h⟩ := h; exact ⟨n, r ++ m, rfl, hw, Fits.append h h2⟩
  | none :: ks, bs, l, m, h, h2 => by simp only [Fits] at h; obtain ⟨n, r, rfl, h⟩ := h; exact ⟨n, r ++ m, rfl, Fits.append h h2⟩

section
variable {H : Type} {enc : TypeId × Value → H} {P : Program} {w : World} {base : Nat} {spare : Nat → Bool} {held : Bool}
theorem open_fields (W : World) (h : Heap) (N : Nat) (g : TypeId → Option (List (Option IntKind))) (cs : List Value)
    (hg : ∀ (f : Field) a, g f.type = some a → a.length = P.cellsOf f.type → (∃ fuel y, DataW.trod enc P w base spare held fuel f.type ((cs.drop f.offset).take (P.cellsOf f.type)) = some y) → ∃ l, Fits a l ∧ CR W h N l ((cs.drop f.offset).take (P.cellsOf f.type))) :
    ∀ (fs : List Field) (off : Nat) (ks : List (Option IntKind)), atomsF g P fs off = some ks →
      (∀ f ∈ fs, ∃ fuel y, DataW.trod enc P w base spare held fuel f.type ((cs.drop f.offset).take (P.cellsOf f.type)) = some y) → ∃ l, Fits ks l ∧ CR W h N l ((cs.drop off).take ks.length)
  | [], off, ks, e, _ => by simp only [atomsF, Option.some.injEq] at e; subst e; exact ⟨[], rfl, by simp [CR]⟩
  | f :: fs, off, ks, e, ha => by
    simp only [atomsF] at e
    split at e
    case isFalse => cases e
    case isTrue ho =>
    split at e
    case h_2 => cases e
    case h_1 a ea =>
    split at e
    case isFalse => cases e
    case isTrue hl =>
    split at e
    case h_2 => cases e
    case h_1 r er =>
    cases e
    obtain ⟨l, f1, c1⟩ := hg f a ea hl (ha f (by simp))
    obtain ⟨m, f2, c2⟩ := open_fields W h N g cs hg fs _ r er (fun f' hf' => ha f' (by simp [hf']))
    refine ⟨l ++ m, f1.append f2, ?_⟩
    have := CR.append c1 c2
    rw [ho, ← hl] at this
    have e2 : List.take (a ++ r).length (List.drop off cs) = List.take a.length (List.drop off cs) ++ List.take r.length (List.drop (off + a.length) cs) := by
      rw [List.length_append, List.take_add, List.drop_drop]
    rw [e2]; exact this
theorem open_atoms (W : World) (h : Heap) (N : Nat) : ∀ (n : Nat) (t : TypeId) (ks : List (Option IntKind)) (fuel : Nat) (cs : List Value) (x : DataW H × List MemPlace), atoms P n t = some ks →
    DataW.trod enc P w base spare held fuel t cs = some x → ∃ l, Fits ks l ∧ CR W h N l cs
  | 0, t, ks, fuel, cs, x, e, _ => by cases e
  | n + 1, t, ks, fuel, cs, x, e, ht => by
    simp only [atoms] at e
    split at e
    case h_1 k hu =>
      cases e
      obtain ⟨m, rfl, _, hw⟩ := DataW.trod_int hu ht
      exact ⟨[.int k m], ⟨m, [], rfl, hw, rfl⟩, ⟨_, _, rfl, rfl, rfl, rfl⟩⟩
    case h_2 hu =>
      cases e
      obtain ⟨b, rfl, _⟩ := DataW.trod_bool hu ht
      exact ⟨[.bool b], ⟨b, [], rfl, rfl⟩, ⟨_, _, rfl, rfl, rfl, rfl⟩⟩
    case h_3 fs hu =>
      split at e
      case h_2 => cases e
      case h_1 r er =>
      split at e
      case isFalse => cases e
      case isTrue hl =>
      cases e
      obtain ⟨xs, m, _, _, hcl, hxl, hf⟩ := DataW.trod_struct hu ht
      obtain ⟨l, f1, c1⟩ := open_fields (enc := enc) (w := w) (base := base) (spare := spare) (held := held) W h N (atoms P n) cs
        (fun f a ea hal ⟨fuel, y, hy⟩ => open_atoms W h N n f.type a fuel _ y ea hy) fs.toList 0 _ er (fun f hf' => by
          obtain ⟨i, hi⟩ := List.getElem?_of_mem hf'
          rw [Array.getElem?_toList] at hi
          have := hf i f hi
          have hlt : i < fs.size := by
            rcases Nat.lt_or_ge i fs.size with h | h
            · exact h
            · rw [Array.getElem?_eq_none h] at hi; cases hi
          rw [List.getElem?_eq_getElem (by omega)] at this
          exact ⟨m, _, this⟩)
      refine ⟨l, f1, ?_⟩
      rw [hl, ← hcl, List.drop_zero, List.take_length] at c1
      exact c1
    case h_4 => cases e

inductive AKind where
  | one (a : Option IntKind)
  | st (ks : List (Option IntKind))
  | row (ks : List (Option IntKind)) (B : Nat)
def aKind (P : Program) (t : TypeId) : Option AKind := match P.underlying t with
  | some (.slice e) => match atoms P 9 e with | some ks => if ks.length = P.cellsOf e ∧ 0 < ks.length then some (.row ks (P.bytesOf e)) else none | none => none
  | some (.struct _) => match atoms P 9 t with | some ks => some (.st ks) | none => none
  | some (.int k) => some (.one (some k))
  | some .bool => some (.one none)
  | _ => none
def aKinds (P : Program) : List TypeId → Option (List AKind)
  | [] => some []
  | t :: ts => match aKind P t, aKinds P ts with | some k, some ks => some (k :: ks) | _, _ => none
def IsArg : AKind → PV → Prop
  | .one (some k), p => ∃ n, p = .int k n ∧ (Lit.int k n).wf = true
  | .one none, p => ∃ b, p = .bool b
  | .st ks, p => ∃ cs, p = .agg cs ∧ Fits ks cs
  | .row ks B, p => ∃ rows : List (List PV), (∀ r ∈ rows, Fits ks r) ∧ rows.length * B ≤ 140737488351232 ∧ rows.length ≤ 9223372036854775807 ∧ p = .list false ks.length rows.length rows.flatten
def IsArgs : List AKind → List PV → Prop
  | [], l => l = []
  | k :: ks, l => ∃ p r, l = p :: r ∧ IsArg k p ∧ IsArgs ks r

theorem CR.oneCR {W : World} {h : Heap} {N : Nat} {c : PV} {v : Value} (e : CR W h N [c] [v]) : VR W h N c v := by
  simp only [CR] at e
  obtain ⟨v', vs, e1, _, e2, _⟩ := e
  cases e1; exact e2

/-- A row of elements: what lies in memory, as cells one behind the other. -/
theorem open_row {W : World} {e : TypeId} {ks : List (Option IntKind)} {a : Addr} {n m : Nat} {len : Nat} (he : atoms P m e = some ks) (hE : ks.length = P.cellsOf e)
    {elems : List (DataW H × List MemPlace)} (hl : elems.length = len)
    (hel : ∀ i, i < len → (W.cells? 0 (a.add (i * P.cellsOf e)) (P.cellsOf e)).bind (DataW.trod enc P W 0 spare held n e) = elems[i]?) (h : Heap) (N : Nat) :
    ∀ k, k ≤ len → ∃ (rows : List (List PV)) (vs : List Value), rows.length = k ∧ (∀ r ∈ rows, Fits ks r) ∧ CR W h N rows.flatten vs ∧ vs.length = k * ks.length ∧ ∀ j v, vs[j]? = some v → W.cell? (a.add j) = some v
  | 0, _ => ⟨[], [], rfl, by simp, by simp [CR], by simp, by simp⟩
  | k + 1, hk => by
    obtain ⟨rows, vs, h1, h2, h3, h4, h5⟩ := open_row he hE hl hel h N k (by omega)
    have := hel k (by omega)
    rw [List.getElem?_eq_getElem (by omega), Option.bind_eq_some_iff] at this
    obtain ⟨cs, hc, ht⟩ := this
    obtain ⟨l, f1, c1⟩ := open_atoms W h N m e ks n cs _ he ht
    obtain ⟨_, hcl, hcell⟩ := World.cells?_some hc
    refine ⟨rows ++ [l], vs ++ cs, by simp [h1], ?_, ?_, ?_, ?_⟩
    · intro r hr
      rcases List.mem_append.1 hr with hr | hr
      · exact h2 r hr
      · rw [List.mem_singleton.1 hr]; exact f1
    · rw [List.flatten_append]
      simpa using CR.append h3 c1
    · rw [List.length_append, h4, hcl, ← hE, Nat.succ_mul]
    · intro j v hj
      by_cases hlt : j < vs.length
      · rw [List.getElem?_append_left hlt] at hj; exact h5 j v hj
      · rw [List.getElem?_append_right (by omega)] at hj
        have hj2 : j - vs.length < P.cellsOf e := by
          have := (List.getElem?_eq_some_iff.1 hj).1; omega
        have := hcell (j - vs.length) hj2
        rw [hj, Addr.add_add, ← hE, ← h4, show vs.length + (j - vs.length) = j by omega] at this
        exact this

theorem flatten_len {ks : List (Option IntKind)} : ∀ {rows : List (List PV)}, (∀ r ∈ rows, Fits ks r) → rows.flatten.length = rows.length * ks.length
  | [], _ => by simp
  | r :: rows, h => by
    rw [List.flatten_cons, List.length_append, (h r (by simp)).length, flatten_len (fun r hr => h r (by simp [hr])), List.length_cons, Nat.succ_mul]; omega

theorem add_none {a : Addr} (h : a.spot = none) (i : Nat) : a.add i = ⟨a.block, a.off + i, none⟩ := by
  cases a; simp only at h; subst h
  unfold Addr.add; split
  · subst_vars; rfl
  · rfl

theorem open_arg {W : World} {t : TypeId} {v : Value} {d : DataW H} {ps : List MemPlace} {k : AKind} {ts : List TypeId} {ds : List (DataW H)} {j b0 : Nat} {r : Reach} (hk : aKind P t = some k)
    (hv : Value.okWide P W r b0 t v) (ht : ts[j]? = some t) (hd : ds[j]? = some d) (hsz : (DataW.weightsEach P ts ds).all (· ≤ reachBytes) = true)
    (h : DataW.Trod enc P W 0 (fun _ => true) held t v d ps) : ∃ p, IsArg k p ∧ VR W Heap.nil 0 p v := by
  have hA := h
  obtain ⟨fuel, hf⟩ := h
  simp only [aKind] at hk
  split at hk
  case h_1 e hu =>
    split at hk
    case h_2 => cases hk
    case h_1 ks he =>
    split at hk
    case isFalse => cases hk
    case isTrue hE =>
    cases hk
    obtain ⟨a, len, cap, rfl⟩ := okWide_slice hu hv
    rcases DataW.trod_slice hu hf with ⟨hcs, _⟩ | ⟨a', len', cap', elems, rest, n, _, hcs, hx, hb, hl, hm, hlen, hel, hsp, _⟩
    · simp [Value.cells] at hcs
      obtain ⟨rfl, rfl, rfl⟩ := hcs
      exact ⟨.list false ks.length 0 [], ⟨[], by simp, by simp, by simp, rfl⟩, ⟨none, 0, [], rfl, Nat.le_refl _, by simp, by simp [CR], .inl rfl⟩⟩
    · simp [Value.cells] at hcs
      obtain ⟨rfl, rfl, rfl⟩ := hcs
      obtain ⟨rows, vs, h1, h2, h3, h4, h5⟩ := open_row he hE.1 hlen hel Heap.nil 0 len (Nat.le_refl _)
      obtain ⟨hx, _⟩ := Prod.mk.inj hx
      subst hx
      have z := sized_slice hsz ht hd hu
      have z2 : rows.length * P.bytesOf e ≤ 140737488351232 := by
        refine Nat.le_trans (Nat.mul_le_mul_right _ ?_) z
        simp only [List.length_map]; omega
      refine ⟨.list false ks.length rows.length rows.flatten, ⟨rows, h2, z2, ?_, rfl⟩, ?_⟩
      · rw [h1]; exact Nat.le_trans hl (Nat.le_trans hm (by decide))
      · simp only [VR]
        refine ⟨some a', cap, vs, by rw [h1], by rw [h1]; exact hl, flatten_len h2, h3, ?_⟩
        rcases Nat.eq_zero_or_pos len with h0 | h0
        · left; omega
        · right
          have hp : 0 < vs.length := by rw [h4]; exact Nat.mul_pos h0 hE.2
          have c0 := h5 0 _ (List.getElem?_eq_getElem hp)
          have hs : a'.spot = none := by
            have := World.cell?_spot c0
            simpa [Addr.add] using this
          refine ⟨a'.block, a'.off, by cases a'; simp only at hs; subst hs; rfl, ?_, rfl, by simp, ?_⟩
          · unfold World.cell? at c0
            have : (a'.add 0).block = a'.block := by simp [Addr.add]
            rw [this] at c0
            rcases Nat.lt_or_ge a'.block W.heap.size with hlt | hge
            · exact hlt
            · rw [Array.getElem?_eq_none hge] at c0; cases c0
          · intro i v hi
            rw [← add_none hs]; exact h5 i v hi
  case h_2 fs hu =>
    split at hk
    case h_2 => cases hk
    case h_1 ks he =>
    cases hk
    obtain ⟨cs, rfl, _⟩ := okWide_struct hu hv
    obtain ⟨l, f1, c1⟩ := open_atoms W Heap.nil 0 9 t ks fuel _ _ he hf
    exact ⟨.agg l, ⟨l, rfl, f1⟩, ⟨cs, rfl, by simpa [Value.cells] using c1⟩⟩
  case h_3 k hu =>
    cases hk
    obtain ⟨n, rfl⟩ := okWide_int hu hv
    obtain ⟨m, e, _, hw⟩ := DataW.trod_int hu hf
    simp [Value.cells] at e
    subst e
    exact ⟨.int k n, ⟨n, rfl, hw⟩, rfl⟩
  case h_4 hu =>
    cases hk
    obtain ⟨b, rfl⟩ := okWide_bool hu hv
    exact ⟨.bool b, ⟨b, rfl⟩, rfl⟩
  case h_5 => cases hk

theorem open_args {W : World} {b0 : Nat} {r : Reach} : ∀ {ts : List TypeId} {vs : List Value} {ds : List (DataW H)} {ps : List MemPlace} {ks : List AKind} {us : List TypeId} {gs es : List (DataW H)} {pre : List TypeId},
    aKinds P ts = some ks → DataW.TrodAll enc P W 0 (fun _ => true) held ts vs ds ps → (∀ (j : Nat) t v, ts[j]? = some t → vs[j]? = some v → Value.okWide P W r b0 t v) →
    pre.length = es.length → (DataW.weightsEach P (pre ++ ts ++ us) (es ++ ds ++ gs)).all (· ≤ reachBytes) = true → ∃ l, IsArgs ks l ∧ TR W Heap.nil 0 l vs
  | [], vs, ds, ps, ks, us, gs, es, pre, hk, h, _, _, _ => by
    simp only [aKinds, Option.some.injEq] at hk; subst hk
    obtain ⟨rfl, rfl, rfl⟩ := trodAll_nil h
    exact ⟨[], rfl, rfl⟩
  | t :: ts, vs, ds, ps, ks, us, gs, es, pre, hk, h, hv, hp, hsz => by
    obtain ⟨v, vs', d, ds', p, q, rfl, rfl, rfl, h0, r0⟩ := trodAll_cons h
    simp only [aKinds] at hk
    split at hk
    case h_2 => cases hk
    case h_1 k ks' e1 e2 =>
    cases hk
    obtain ⟨x, i1, v1⟩ := open_arg e1 (hv 0 t v rfl rfl) (ts := pre ++ (t :: ts) ++ us) (ds := es ++ (d :: ds') ++ gs) (j := pre.length) (by simp) (by rw [hp]; simp) hsz h0
    obtain ⟨l, i2, t2⟩ := open_args (us := us) (gs := gs) (es := es ++ [d]) (pre := pre ++ [t]) e2 r0 (fun j t v a b => hv (j + 1) t v (by simpa using a) (by simpa using b)) (by simp [hp]) (by simpa using hsz)
    exact ⟨x :: l, ⟨x, l, rfl, i1, i2⟩, ⟨v, vs', rfl, v1, t2⟩⟩

theorem wr_nil (W : World) : WR W Heap.nil 0 := fun b cs e => by cases e

/-- What a row of a law asks: it returns true, and what was there before is as it was. -/
theorem true_calls {f : FuncId} {W : World} {pvs : List PV} {args : Array Value} (c : CanP P f pvs Heap.nil (fun v _ => v = .bool true)) (tr : TR W Heap.nil 0 pvs args.toList) :
    Calls P f args W (fun e W' => e = .returned (.bool true) ∧ Below W.heap.size W W') := by
  refine (c.2 W args (wr_nil W) tr).mono fun e w' ⟨v, x, h', q1, q2, q3, q4, q5⟩ => ?_
  subst q5
  simp only [VR] at q4
  subst q4
  exact ⟨q1, ⟨q2.os, q2.tape, q2.output, q2.size, fun k hk => q2.keep k hk rfl⟩⟩

theorem args_below {W W' : World} (hl : laidOutB P = true) (hb : Below W.heap.size W W') : ∀ {ts : List TypeId} {vs : List Value} {ds : List (DataW H)} {ps : List MemPlace},
    (ts.all fun t => P.readableRec t && decide (t < P.types.size)) = true → DataW.TrodAll enc P W 0 (fun _ => true) true ts vs ds ps →
    DataW.TrodAll enc P W' 0 (fun b => decide (b < W.heap.size)) true ts vs ds ps
  | [], vs, ds, ps, _, h => by
    obtain ⟨rfl, rfl, rfl⟩ := trodAll_nil h
    exact trodAll_mk0
  | t :: ts, vs, ds, ps, ht, h => by
    obtain ⟨v, vs', d, ds', p, q, rfl, rfl, rfl, h0, r0⟩ := trodAll_cons h
    simp only [List.all_cons, Bool.and_eq_true, decide_eq_true_eq] at ht
    exact ⟨p, q, Below.trod hl ht.1.1 ht.1.2 h0 hb (by obtain ⟨m, hm⟩ := h0; exact DataW.trod_lt m _ _ _ hm), args_below hl hb (by simpa using ht.2) r0, rfl⟩
end

/-- Elements of a row, each as what it stands for. -/
theorem rows_of {α : Type} {ks : List (Option IntKind)} (f : α → List PV) (ok : α → Prop) (hf : ∀ r, Fits ks r → ∃ x, r = f x ∧ ok x) : ∀ {rows : List (List PV)}, (∀ r ∈ rows, Fits ks r) → ∃ l : List α, rows = l.map f ∧ ∀ x ∈ l, ok x
  | [], _ => ⟨[], rfl, by simp⟩
  | r :: rows, h => by
    obtain ⟨x, rfl, ox⟩ := hf r (h r (by simp))
    obtain ⟨l, rfl, ol⟩ := rows_of f ok hf (rows := rows) (fun r hr => h r (by simp [hr]))
    exact ⟨x :: l, rfl, fun y hy => by rcases List.mem_cons.1 hy with rfl | hy; exact ox; exact ol y hy⟩
end Go.Pm
