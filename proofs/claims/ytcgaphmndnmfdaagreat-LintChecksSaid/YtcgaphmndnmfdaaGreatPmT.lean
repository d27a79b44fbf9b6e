/-
  An abstract machine over pure values, part P: a row's arguments as pure values, and what a row asks behind the call.
  Conditions: the arguments are whole numbers, truths, structs of such, and slices of such.
-/
import Derived.Test.YtcgaphmndnmfdaaGreatPmO
import Derived.ChangeSlices
import Derived.WideShapes
import Derived.SizedLaws
import Derived.Carry
import Derived.RowKit
namespace Go.Pm
open Go.ChangeShapes Go.WideShapes Go.RowKit
set_option linter.unusedVariables false
set_option linter.unusedSimpArgs false

def atomsF (g : TypeId → Option (List (Option IntKind))) (P : Program) : List Field → Nat → Option (List (Option IntKind))
  | [], _ => some []
  | f :: fs, off => if f.offset = off then
      match g f.type with
      | some a => if a.length = P.cellsOf f.type then (match atomsF g P fs (off + a.length) with | some r => some (a ++ r) | none => none) else none
      | none => none
    else none
/-- The kinds of a type's cells, if they are whole numbers (of a kind) and truths alone. -/
def atoms (P : Program) : Nat → TypeId → Option (List (Option IntKind))
  | 0, _ => none
  | n + 1, t => match P.underlying t with
    | some (.int k) => some [some k]
    | some .bool => some [none]
    | some (.struct fs) => match atomsF (atoms P n) P fs.toList 0 with | some r => if r.length = P.cellsOf t then some r else none | none => none
    | _ => none
def Fits : List (Option IntKind) → List PV → Prop
  | [], l => l = []
  | some k :: ks, l => ∃ n r, l = .int k n :: r ∧ (Lit.int k n).wf = true ∧ Fits ks r
  | none :: ks, l => ∃ b r, l = .bool b :: r ∧ Fits ks r
theorem Fits.length : ∀ {ks : List (Option IntKind)} {l : List PV}, Fits ks l → l.length = ks.length
  | [], l, h => by simp only [Fits] at h; simp [h]
  | some k :: ks, l, h => by simp only [Fits] at h; obtain ⟨n, r, rfl, _, h⟩ := h; simp [Fits.length h]
  | none :: ks, l, h => by simp only [Fits] at h; obtain ⟨n, r, rfl, h⟩ := h; simp [Fits.length h]
theorem Fits.append : ∀ {as bs : List (Option IntKind)} {l m : List PV}, Fits as l → Fits bs m → Fits (as ++ bs) (l ++ m)
  | [], bs, l, m, h, h2 => by simp only [Fits] at h; simpa [h] using h2
  | some k :: ks, bs, l, m, h, h2 => by simp only [Fits] at h; obtain ⟨n, r, rfl, hw, h⟩ := h; exact ⟨n, r ++ m, rfl, hw, Fits.append h h2⟩
  | none :: ks, bs, l, m, h, h2 => by simp only [Fits] at h; obtain ⟨n, r, rfl, h⟩ := h; exact ⟨n, r ++ m, rfl, Fits.append h h2⟩

section
variable {H : Type} {enc : TypeId × Value → H} {P : Program} {w : World} {base : Nat} {spare : Nat → Bool} {held : Bool}
theorem open_fields (W : World) (h : Heap) (N : Nat) (g : TypeId → Option (List (Option IntKind))) (cs : List Value)
    (hg : ∀ (f : Field) a, g f.type = some a → a.length = P.cellsOf f.type → (∃ fuel y, DataW.trod enc P w base spare held fuel f.type ((cs.drop f.offset).take (P.cellsOf f.type)) = some y) → ∃ l, Fits a l ∧ CR W h N l ((cs.drop f.offset).take (P.cellsOf f.type))) :
    ∀ (fs : List Field) (off : Nat) (ks : List (Option IntKind)), atomsF g P fs off = some ks →
      (∀ f ∈ fs, ∃ fuel y, DataW.trod enc P w base spare held fuel f.type ((cs.drop f.offset).take (P.cellsOf f.type)) = some y) → ∃ l, Fits ks l ∧ CR W h N l ((cs.drop off).take ks.length)
  | [], off, ks, e, _ => by simp only [atomsF, Option.some.injEq] at e; subst e; exact ⟨[], rfl, by simp [CR]⟩
  | f :: fs, off, ks, e, ha => by
    simp only [atomsF] at e
    split at e
    case isFalse => cases e
    case isTrue ho =>
    split at e
    case h_2 => cases e
    case h_1 a ea =>
    split at e
    case isFalse => cases e
    case isTrue hl =>
    split at e
    case h_2 => cases e
    case h_1 r er =>
    cases e
    obtain ⟨l, f1, c1⟩ := hg f a ea hl (ha f (by simp))
    obtain ⟨m, f2, c2⟩ := open_fields W h N g cs hg fs _ r er (fun f' hf' => ha f' (by simp [hf']))
    refine ⟨l ++ m, f1.append f2, ?_⟩
    have := CR.append c1 c2
    rw [ho, ← hl] at this
    have e2 : List.take (a ++ r).length (List.drop off cs) = List.take a.length (List.drop off cs) ++ List.take r.length (List.drop (off + a.length) cs) := by
      rw [List.length_append, List.take_add, List.drop_drop]
    rw [e2]; exact this
theorem open_atoms (W : World) (h : Heap) (N : Nat) : ∀ (n : Nat) (t : TypeId) (ks : List (Option IntKind)) (fuel : Nat) (cs : List Value) (x : DataW H × List MemPlace), atoms P n t = some ks →
    DataW.trod enc P w base spare held fuel t cs = some x → ∃ l, Fits ks l ∧ CR W h N l cs
  | 0, t, ks, fuel, cs, x, e, _ => by cases e
  | n + 1, t, ks, fuel, cs, x, e, ht => by
    simp only [atoms] at e
    split at e
    case h_1 k hu =>
      cases e
      obtain ⟨m, rfl, _, hw⟩ := DataW.trod_int hu ht
      exact ⟨[.int k m], ⟨m, [], rfl, hw, rfl⟩, ⟨_, _, rfl, rfl, rfl, rfl⟩⟩
    case h_2 hu =>
      cases e
      obtain ⟨b, rfl, _⟩ := DataW.trod_bool hu ht
      exact ⟨[.bool b], ⟨b, [], rfl, rfl⟩, ⟨_, _, rfl, rfl, rfl, rfl⟩⟩
    case h_3 fs hu =>
      split at e
      case h_2 => cases e
      case h_1 r er =>
      split at e
      case isFalse => cases e
      case isTrue hl =>
      cases e
      obtain ⟨xs, m, _, _, hcl, hxl, hf⟩ := DataW.trod_struct hu ht
      obtain ⟨l, f1, c1⟩ := open_fields (enc := enc) (w := w) (base := base) (spare := spare) (held := held) W h N (atoms P n) cs
        (fun f a ea hal ⟨fuel, y, hy⟩ => open_atoms W h N n f.type a fuel _ y ea hy) fs.toList 0 _ er (fun f hf' => by
          obtain ⟨i, hi⟩ := List.getElem?_of_mem hf'
          rw [Array.getElem?_toList] at hi
          have := hf i f hi
          have hlt : i < fs.size := by
            rcases Nat.lt_or_ge i fs.size with h | h
            · exact h
            · rw [Array.getElem?_eq_none h] at hi; cases hi
          rw [List.getElem?_eq_getElem (by omega)] at this
          exact ⟨m, _, this⟩)
      refine ⟨l, f1, ?_⟩
      rw [hl, ← hcl, List.drop_zero, List.take_length] at c1
      exact c1
    case h_4 => cases e

inductive AKind where
  | one (a : Option IntKind)
  | st (ks : List (Option IntKind))
  | row (ks : List (Option IntKind)) (B : Nat)
def aKind (P : Program) (t : TypeId) : Option AKind := match P.underlying t with
  | some (.slice e) => match atoms P 9 e with | some ks => if ks.length = P.cellsOf e ∧ 0 < ks.length then some (.row ks (P.bytesOf e)) else none | none => none
  | some (.struct _) => match atoms P 9 t with | some ks => some (.st ks) | none => none
  | some (.int k) => some (.one (some k))
  | some .bool => some (.one none)
  | _ => none
def aKinds (P : Program) : List TypeId → Option (List AKind)
  | [] => some []
  | t :: ts => match aKind P t, aKinds P ts with | some k, some ks => some (k :: ks) | _, _ => none
def IsArg : AKind → PV → Prop
  | .one (some k), p => ∃ n, p = .int k n ∧ (Lit.int k n).wf = true
  | .one none, p => ∃ b, p = .bool b
  | .st ks, p => ∃ cs, p = .agg cs ∧ Fits ks cs
  | .row ks B, p => ∃ rows : List (List PV), (∀ r ∈ rows, Fits ks r) ∧ rows.length * B ≤ 140737488351232 ∧ rows.length ≤ 9223372036854775807 ∧ p = .list false ks.length rows.length rows.flatten
def IsArgs : List AKind → List PV → Prop
  | [], l => l = []
  | k :: ks, l => ∃ p r, l = p :: r ∧ IsArg k p ∧ IsArgs ks r

theorem CR.oneCR {W : World} {h : Heap} {N : Nat} {c : PV} {v : Value} (e : CR W h N [c] [v]) : VR W h N c v := by
  simp only [CR] at e
  obtain ⟨v', vs, e1, _, e2, _⟩ := e
  cases e1; exact e2

/-- A row of elements: what lies in memory, as cells one behind the other. -/
theorem open_row {W : World} {e : TypeId} {ks : List (Option IntKind)} {a : Addr} {n m : Nat} {len : Nat} (he : atoms P m e = some ks) (hE : ks.length = P.cellsOf e)
    {elems : List (DataW H × List MemPlace)} (hl : elems.length = len)
    (hel : ∀ i, i < len → (W.cells? 0 (a.add (i * P.cellsOf e)) (P.cellsOf e)).bind (DataW.trod enc P W 0 spare held n e) = elems[i]?) (h : Heap) (N : Nat) :
    ∀ k, k ≤ len → ∃ (rows : List (List PV)) (vs : List Value), rows.length = k ∧ (∀ r ∈ rows, Fits ks r) ∧ CR W h N rows.flatten vs ∧ vs.length = k * ks.length ∧ ∀ j v, vs[j]? = some v → W.cell? (a.add j) = some v
  | 0, _ => ⟨[], [], rfl, by simp, by simp [CR], by simp, by simp⟩
  | k + 1, hk => by
    obtain ⟨rows, vs, h1, h2, h3, h4, h5⟩ := open_row he hE hl hel h N k (by omega)
    have := hel k (by omega)
    rw [List.getElem?_eq_getElem (by omega), Option.bind_eq_some_iff] at this
    obtain ⟨cs, hc, ht⟩ := this
    obtain ⟨l, f1, c1⟩ := open_atoms W h N m e ks n cs _ he ht
    obtain ⟨_, hcl, hcell⟩ := World.cells?_some hc
    refine ⟨rows ++ [l], vs ++ cs, by simp [h1], ?_, ?_, ?_, ?_⟩
    · intro r hr
      rcases List.mem_append.1 hr with hr | hr
      · exact h2 r hr
      · rw [List.mem_singleton.1 hr]; exact f1
    · rw [List.flatten_append]
      simpa using CR.append h3 c1
    · rw [List.length_append, h4, hcl, ← hE, Nat.succ_mul]
    · intro j v hj
      by_cases hlt : j < vs.length
      · rw [List.getElem?_append_left hlt] at hj; exact h5 j v hj
      · rw [List.getElem?_append_right (by omega)] at hj
        have hj2 : j - vs.length < P.cellsOf e := by
          have := (List.getElem?_eq_some_iff.1 hj).1; omega
        have := hcell (j - vs.length) hj2
        rw [hj, Addr.add_add, ← hE, ← h4, show vs.length + (j - vs.length) = j by omega] at this
        exact this

theorem flatten_len {ks : List (Option IntKind)} : ∀ {rows : List (List PV)}, (∀ r ∈ rows, Fits ks r) → rows.flatten.length = rows.length * ks.length
  | [], _ => by simp
  | r :: rows, h => by
    rw [List.flatten_cons, List.length_append, (h r (by simp)).length, flatten_len (fun r hr => h r (by simp [hr])), List.length_cons, Nat.succ_mul]; omega

theorem add_none {a : Addr} (h : a.spot = none) (i : Nat) : a.add i = ⟨a.block, a.off + i, none⟩ := by
  cases a; simp only at h; subst h
  unfold Addr.add; split
  · subst_vars; rfl
  · rfl

theorem open_arg {W : World} {t : TypeId} {v : Value} {d : DataW H} {ps : List MemPlace} {k : AKind} {ts : List TypeId} {ds : List (DataW H)} {j b0 : Nat} {r : Reach} (hk : aKind P t = some k)
    (hv : Value.okWide P W r b0 t v) (ht : ts[j]? = some t) (hd : ds[j]? = some d) (hsz : (DataW.weightsEach P ts ds).all (· ≤ reachBytes) = true)
    (h : DataW.Trod enc P W 0 (fun _ => true) held t v d ps) : ∃ p, IsArg k p ∧ VR W Heap.nil 0 p v := by
  have hA := h
  obtain ⟨fuel, hf⟩ := h
  simp only [aKind] at hk
  split at hk
  case h_1 e hu =>
    split at hk
    case h_2 => cases hk
    case h_1 ks he =>
    split at hk
    case isFalse => cases hk
    case isTrue hE =>
    cases hk
    obtain ⟨a, len, cap, rfl⟩ := okWide_slice hu hv
    rcases DataW.trod_slice hu hf with ⟨hcs, _⟩ | ⟨a', len', cap', elems, rest, n, _, hcs, hx, hb, hl, hm, hlen, hel, hsp, _⟩
    · simp [Value.cells] at hcs
      obtain ⟨rfl, rfl, rfl⟩ := hcs
      exact ⟨.list false ks.length 0 [], ⟨[], by simp, by simp, by simp, rfl⟩, ⟨none, 0, [], rfl, Nat.le_refl _, by simp, by simp [CR], .inl rfl⟩⟩
    · simp [Value.cells] at hcs
      obtain ⟨rfl, rfl, rfl⟩ := hcs
      obtain ⟨rows, vs, h1, h2, h3, h4, h5⟩ := open_row he hE.1 hlen hel Heap.nil 0 len (Nat.le_refl _)
      obtain ⟨hx, _⟩ := Prod.mk.inj hx
      subst hx
      have z := sized_slice hsz ht hd hu
      have z2 : rows.length * P.bytesOf e ≤ 140737488351232 := by
        refine Nat.le_trans (Nat.mul_le_mul_right _ ?_) z
        simp only [List.length_map]; omega
      refine ⟨.list false ks.length rows.length rows.flatten, ⟨rows, h2, z2, ?_, rfl⟩, ?_⟩
      · rw [h1]; exact Nat.le_trans hl (Nat.le_trans hm (by decide))
      · simp only [VR]
        refine ⟨some a', cap, vs, by rw [h1], by rw [h1]; exact hl, flatten_len h2, h3, ?_⟩
        rcases Nat.eq_zero_or_pos len with h0 | h0
        · left; omega
        · right
          have hp : 0 < vs.length := by rw [h4]; exact Nat.mul_pos h0 hE.2
          have c0 := h5 0 _ (List.getElem?_eq_getElem hp)
          have hs : a'.spot = none := by
            have := World.cell?_spot c0
            simpa [Addr.add] using this
          refine ⟨a'.block, a'.off, by cases a'; simp only at hs; subst hs; rfl, ?_, rfl, by simp, ?_⟩
          · unfold World.cell? at c0
            have : (a'.add 0).block = a'.block := by simp [Addr.add]
            rw [this] at c0
            rcases Nat.lt_or_ge a'.block W.heap.size with hlt | hge
            · exact hlt
            · rw [Array.getElem?_eq_none hge] at c0; cases c0
          · intro i v hi
            rw [← add_none hs]; exact h5 i v hi
  case h_2 fs hu =>
    split at hk
    case h_2 => cases hk
    case h_1 ks he =>
    cases hk
    obtain ⟨cs, rfl, _⟩ := okWide_struct hu hv
    obtain ⟨l, f1, c1⟩ := open_atoms W Heap.nil 0 9 t ks fuel _ _ he hf
    exact ⟨.agg l, ⟨l, rfl, f1⟩, ⟨cs, rfl, by simpa [Value.cells] using c1⟩⟩
  case h_3 k hu =>
    cases hk
    obtain ⟨n, rfl⟩ := okWide_int hu hv
    obtain ⟨m, e, _, hw⟩ := DataW.trod_int hu hf
    simp [Value.cells] at e
    subst e
    exact ⟨.int k n, ⟨n, rfl, hw⟩, rfl⟩
  case h_4 hu =>
    cases hk
    obtain ⟨b, rfl⟩ := okWide_bool hu hv
    exact ⟨.bool b, ⟨b, rfl⟩, rfl⟩
  case h_5 => cases hk

theorem open_args {W : World} {b0 : Nat} {r : Reach} : ∀ {ts : List TypeId} {vs : List Value} {ds : List (DataW H)} {ps : List MemPlace} {ks : List AKind} {us : List TypeId} {gs es : List (DataW H)} {pre : List TypeId},
    aKinds P ts = some ks → DataW.TrodAll enc P W 0 (fun _ => true) held ts vs ds ps → (∀ (j : Nat) t v, ts[j]? = some t → vs[j]? = some v → Value.okWide P W r b0 t v) →
    pre.length = es.length → (DataW.weightsEach P (pre ++ ts ++ us) (es ++ ds ++ gs)).all (· ≤ reachBytes) = true → ∃ l, IsArgs ks l ∧ TR W Heap.nil 0 l vs
  | [], vs, ds, ps, ks, us, gs, es, pre, hk, h, _, _, _ => by
    simp only [aKinds, Option.some.injEq] at hk; subst hk
    obtain ⟨rfl, rfl, rfl⟩ := trodAll_nil h
    exact ⟨[], rfl, rfl⟩
  | t :: ts, vs, ds, ps, ks, us, gs, es, pre, hk, h, hv, hp, hsz => by
    obtain ⟨v, vs', d, ds', p, q, rfl, rfl, rfl, h0, r0⟩ := trodAll_cons h
    simp only [aKinds] at hk
    split at hk
    case h_2 => cases hk
    case h_1 k ks' e1 e2 =>
    cases hk
    obtain ⟨x, i1, v1⟩ := open_arg e1 (hv 0 t v rfl rfl) (ts := pre ++ (t :: ts) ++ us) (ds := es ++ (d :: ds') ++ gs) (j := pre.length) (by simp) (by rw [hp]; simp) hsz h0
    obtain ⟨l, i2, t2⟩ := open_args (us := us) (gs := gs) (es := es ++ [d]) (pre := pre ++ [t]) e2 r0 (fun j t v a b => hv (j + 1) t v (by simpa using a) (by simpa using b)) (by simp [hp]) (by simpa using hsz)
    exact ⟨x :: l, ⟨x, l, rfl, i1, i2⟩, ⟨v, vs', rfl, v1, t2⟩⟩

theorem wr_nil (W : World) : WR W Heap.nil 0 := fun b cs e => by cases e

/-- What a row of a law asks: it returns true, and what was there before is as it was. -/
theorem true_calls {f : FuncId} {W : World} {pvs : List PV} {args : Array Value} (c : CanP P f pvs Heap.nil (fun v _ => v = .bool true)) (tr : TR W Heap.nil 0 pvs args.toList) :
    Calls P f args W (fun e W' => e = .returned (.bool true) ∧ Below W.heap.size W W') := by
  refine (c.2 W args (wr_nil W) tr).mono fun e w' ⟨v, x, h', q1, q2, q3, q4, q5⟩ => ?_
  subst q5
  simp only [VR] at q4
  subst q4
  exact ⟨q1, ⟨q2.os, q2.tape, q2.output, q2.size, fun k hk => q2.keep k hk rfl⟩⟩

theorem args_below {W W' : World} (hl : laidOutB P = true) (hb : Below W.heap.size W W') : ∀ {ts : List TypeId} {vs : List Value} {ds : List (DataW H)} {ps : List MemPlace},
    (ts.all fun t => P.readableRec t && decide (t < P.types.size)) = true → DataW.TrodAll enc P W 0 (fun _ => true) true ts vs ds ps →
    DataW.TrodAll enc P W' 0 (fun b => decide (b < W.heap.size)) true ts vs ds ps
  | [], vs, ds, ps, _, h => by
    obtain ⟨rfl, rfl, rfl⟩ := trodAll_nil h
    exact trodAll_mk0
  | t :: ts, vs, ds, ps, ht, h => by
    obtain ⟨v, vs', d, ds', p, q, rfl, rfl, rfl, h0, r0⟩ := trodAll_cons h
    simp only [List.all_cons, Bool.and_eq_true, decide_eq_true_eq] at ht
    exact ⟨p, q, Below.trod hl ht.1.1 ht.1.2 h0 hb (by obtain ⟨m, hm⟩ := h0; exact DataW.trod_lt m _ _ _ hm), args_below hl hb (by simpa using ht.2) r0, rfl⟩
end

/-- Elements of a row, each as what it stands for. -/
theorem rows_of {α : Type} {ks : List (Option IntKind)} (f : α → List PV) (ok : α → Prop) (hf : ∀ r, Fits ks r → ∃ x, r = f x ∧ ok x) : ∀ {rows : List (List PV)}, (∀ r ∈ rows, Fits ks r) → ∃ l : List α, rows = l.map f ∧ ∀ x ∈ l, ok x
  | [], _ => ⟨[], rfl, by simp⟩
  | r :: rows, h => by
    obtain ⟨x, rfl, ox⟩ := hf r (h r (by simp))
    obtain ⟨l, rfl, ol⟩ := rows_of f ok hf (rows := rows) (fun r hr => h r (by simp [hr]))
    exact ⟨x :: l, rfl, fun y hy => by rcases List.mem_cons.1 hy with rfl | hy; exact ox; exact ol y hy⟩
end Go.Pm

/-
  An abstract machine over pure values, part Q: loops over a row, and what a walk needs besides.
  Conditions: none.
-/
namespace Go.Pm
set_option linter.unusedVariables false
set_option linter.unusedSimpArgs false

section
variable {P : Program} {L : List Nat} {Q : Exit → Sl → Heap → Prop} {σ : Sl} {h : Heap}
/-- A loop that counts up to `N`: what holds ahead of round `i`. -/
theorem pwp_up {a : PC} (N : Nat) (J : Nat → Sl → Heap → Prop) (h0 : J 0 σ h)
    (round : ∀ i σ h (K : Sl → Heap → Prop), i ≤ N → J i σ h → (i < N → ∀ σ' h', J (i + 1) σ' h' → K σ' h') → pwp P L a (thn K Q) σ h) : pwp P L (.loop a) Q σ h :=
  pwp_loop (fun k σ h => ∃ i, i + k = N ∧ J i σ h) N ⟨0, by omega, h0⟩ fun k σ h ⟨i, hi, hj⟩ =>
    round i σ h _ (by omega) hj fun hlt σ' h' q => ⟨k - 1, by omega, i + 1, by omega, q⟩
end
theorem wf64 {n : Int} (h : (Lit.int .i64 n).wf = true) : -9223372036854775808 ≤ n ∧ n ≤ 9223372036854775807 := by
  simp [Lit.wf, IntKind.min, IntKind.max, IntKind.signed, IntKind.bits] at h; omega
theorem wf8 {n : Int} (h : (Lit.int .u8 n).wf = true) : 0 ≤ n ∧ n ≤ 255 := by
  simp [Lit.wf, IntKind.min, IntKind.max, IntKind.signed, IntKind.bits] at h; omega
theorem pmW : (∀ cs, wr cs 0 [] = cs) ∧ (∀ (c x : PV) cs new, wr (c :: cs) 0 (x :: new) = x :: wr cs 0 new) ∧ (∀ (c : PV) cs o new, wr (c :: cs) (o + 1) new = c :: wr cs o new) := by
  refine ⟨by simp [wr], by simp [wr], ?_⟩
  intro c cs o new
  simp only [wr, List.take_succ_cons, List.cons_append, List.cons.injEq, true_and]
  rw [show o + 1 + new.length = (o + new.length) + 1 by omega, List.drop_succ_cons]
def pf2 (a : Option (Nat × Nat)) (v : Option (List PV)) (pl : Nat → Option (Nat × Nat)) (cs : List PV) (rest : List (Nat × PV)) : Option (List PV) := match a, v with
  | some (off, size), some vs => if vs.length = size ∧ off + size ≤ cs.length then pfill pl (wr cs off vs) rest else none
  | _, _ => none
def bs2 (a : Option Nat) (z : Option (List PV)) (n : Nat) (ps : List (Nat × PV)) : Option (Nat × List PV) := match a, z with
  | some E, some z => if z.length = E ∧ n * E ≤ 16777216 ∧ n ≤ 16777216 then (pfill (fun i => some (i * E, E)) (rep n z) ps).map fun cs => (E, cs) else none
  | _, _ => none
def bs1 (P : Program) (el : Option TypeId) (n : Nat) (ps : List (Nat × PV)) : Option (Nat × List PV) := match el with
  | some el => bs2 (tsz P el) (zc P el) n ps
  | none => none
def src2 (c : Option (List PV)) (e : Bool) (E E' off m : Nat) : Option (Nat × List PV) := match c with
  | some cs => if E' = E ∧ e ∧ off + m * E ≤ cs.length then some (m, (cs.drop off).take (m * E)) else none
  | none => none
def ldp3 (c : Option (List PV)) (g : Bool) (n off : Nat) : Option PV := match c with | some cs => (ldv g n cs off).map PV.old | none => none
theorem pmB : (∀ g n h b off, ldp2 (some g) (some n) h (.ptr b off) = ldp3 (h.f b) g n off) ∧ (∀ cs g n off, ldp3 (some cs) g n off = (ldv g n cs off).map PV.old) ∧
    (∀ pl z ps K h, bldK (some pl) (some z) ps K h = bl2K (pfill pl z ps) K h) ∧ (∀ pl cs, pfill pl cs [] = some cs) ∧ (∀ pl cs i v rest, pfill pl cs ((i, v) :: rest) = pf2 (pl i) (flat v) pl cs rest) ∧
    (∀ off size vs pl cs rest, pf2 (some (off, size)) (some vs) pl cs rest = if vs.length = size ∧ off + size ≤ cs.length then pfill pl (wr cs off vs) rest else none) ∧
    (∀ P t n ps, bsl P t n ps = bs1 P (elt P t) n ps) ∧ (∀ P el n ps, bs1 P (some el) n ps = bs2 (tsz P el) (zc P el) n ps) ∧
    (∀ E z n ps, bs2 (some E) (some z) n ps = if z.length = E ∧ n * E ≤ 16777216 ∧ n ≤ 16777216 then (pfill (fun i => some (i * E, E)) (rep n z) ps).map fun cs => (E, cs) else none) ∧
    (∀ z, rep 0 z = []) ∧ (∀ n z, rep (n + 1) z = z ++ rep n z) ∧
    (∀ P h E tx, srcv P h E tx .nils = if (elt P tx).isSome then some (0, []) else none) ∧ (∀ P h E tx fr E' m cs, srcv P h E tx (.list fr E' m cs) = if E' = E ∧ (elt P tx).isSome then some (m, cs) else none) ∧
    (∀ P h E tx b E' off m, srcv P h E tx (.buf b E' off m) = src2 (h.f b) (elt P tx).isSome E E' off m) ∧ (∀ cs e E E' off m, src2 (some cs) e E E' off m = if E' = E ∧ e ∧ off + m * E ≤ cs.length then some (m, (cs.drop off).take (m * E)) else none) := by
  refine ⟨fun _ _ _ _ _ => rfl, fun _ _ _ _ => rfl, fun _ _ _ _ _ => rfl, fun _ _ => rfl, fun pl cs i v rest => ?_, fun _ _ _ _ _ _ => rfl, fun P t n ps => ?_, fun _ _ _ _ => rfl, fun _ _ _ _ => rfl, fun _ => rfl, fun n z => ?_, fun _ _ _ _ => rfl, fun _ _ _ _ _ _ _ _ => rfl, fun _ h _ _ b _ _ _ => ?_, fun _ _ _ _ _ _ => rfl⟩
  · rw [pfill.eq_def, pf2.eq_def]; dsimp only; rcases pl i with _ | ⟨a, b⟩ <;> cases flat v <;> rfl
  · rw [bsl.eq_def, bs1.eq_def]; cases elt P t with
    | none => rfl
    | some el => simp only [bs2]; cases tsz P el <;> cases zc P el <;> rfl
  · rw [rep, List.replicate_succ, List.flatten_cons]; rfl
  · rw [srcv.eq_def, src2.eq_def]; dsimp only; cases h.f b <;> rfl
def blkOf : PV → Option Nat
  | .buf b _ _ _ => some b
  | .ptr b _ => some b
  | _ => none
/-- A row that is being gathered: nothing yet, or a live block of its own. `h`: the heap ahead of it all. -/
def Acc (h h' : Heap) (v : PV) (E n : Nat) (cs : List PV) : Prop := (v = .nils ∧ n = 0 ∧ cs = []) ∨ ∃ b, v = .buf b E 0 n ∧ h.f b = none ∧ h'.f b = some cs ∧ cs.length = n * E
/-- A live block that is a variable of this call. -/
def Own (h h' : Heap) (b : Nat) (cs : List PV) : Prop := h.f b = none ∧ h'.f b = some cs
/-- What is live beside `v` is as it was, and is not `v'`. -/
def Beside (h' : Heap) (v : PV) (h'' : Heap) (v' : PV) : Prop := ∀ x cs, h'.f x = some cs → blkOf v ≠ some x → h''.f x = some cs ∧ blkOf v' ≠ some x
theorem Own.beside {h h' h'' : Heap} {b : Nat} {cs : List PV} {v v' : PV} (o : Own h h' b cs) (s : Beside h' v h'' v') (d : blkOf v ≠ some b) : Own h h'' b cs ∧ blkOf v' ≠ some b :=
  ⟨⟨o.1, (s b cs o.2 d).1⟩, (s b cs o.2 d).2⟩
theorem Acc.beside {h h' h'' : Heap} {u : PV} {E n : Nat} {cs : List PV} {v v' : PV} (a : Acc h h' u E n cs) (s : Beside h' v h'' v') (d : ∀ b, blkOf u = some b → blkOf v ≠ some b) : Acc h h'' u E n cs ∧ ∀ b, blkOf u = some b → blkOf v' ≠ some b := by
  rcases a with ⟨rfl, rfl, rfl⟩ | ⟨b, rfl, h1, h2, h3⟩
  · exact ⟨.inl ⟨rfl, rfl, rfl⟩, fun b e => by cases e⟩
  · have := s b cs h2 (d b rfl)
    exact ⟨.inr ⟨b, rfl, h1, this.1, h3⟩, fun x e => by cases e; exact this.2⟩
theorem Acc.nil (h h' : Heap) (E : Nat) : Acc h h' .nils E 0 [] := .inl ⟨rfl, rfl, rfl⟩
theorem Acc.buf {h h' : Heap} {b E n : Nat} {cs : List PV} (e : h.f b = none) (e2 : h'.f b = some cs) (l : cs.length = n * E) : Acc h h' (.buf b E 0 n) E n cs := .inr ⟨b, rfl, e, e2, l⟩
theorem Acc.len {h h' : Heap} {v : PV} {E n : Nat} {cs : List PV} (a : Acc h h' v E n cs) : cs.length = n * E := by
  rcases a with ⟨_, rfl, rfl⟩ | ⟨b, _, _, _, l⟩
  · simp
  · exact l
/-- One that is appended to. -/
theorem Acc.app {h h' : Heap} {v : PV} {E n m by_ : Nat} {cs new : List PV} {K : Kt} (a : Acc h h' v E n cs) (l : h.le h') (hm : m ≠ 0) (hn : new.length = m * E) (b1 : (n + m) * by_ ≤ 140737488355328) (b2 : n + m ≤ maxLen)
    (k : ∀ v' h'', Acc h h'' v' E (n + m) (cs ++ new) → h.le h'' → Beside h' v h'' v' → K v' h'') : ap2K (some (m, new)) E by_ v K h' := by
  rcases a with ⟨rfl, rfl, rfl⟩ | ⟨b, rfl, e1, e2, e3⟩
  · refine ⟨by simpa using b1, by simpa using b2, ?_⟩
    unfold apnK; rw [if_neg hm]
    intro b hb
    have hb0 : h.f b = none := by
      cases e : h.f b with
      | none => rfl
      | some c => rw [l b c e] at hb; cases hb
    refine k _ _ (.inr ⟨b, by simp, hb0, Heap.set_same _ _ _, by simpa using hn⟩) (Heap.le_set l hb0) ?_
    intro x ds hx _
    have hne : x ≠ b := fun e => by rw [e, hb] at hx; cases hx
    exact ⟨by rw [Heap.set_ne _ _ hne]; exact hx, by simp [blkOf]; exact fun e => hne e.symm⟩
  · refine ⟨rfl, rfl, b1, b2, ?_⟩
    rw [e2]
    refine ⟨by omega, fun b' hb' => ?_⟩
    have ht : cs.take (n * E) = cs := List.take_of_length_le (by omega)
    rw [ht]
    have hb0 : h.f b' = none := by
      rcases hb' with rfl | hb'
      · exact e1
      · cases e : h.f b' with
        | none => rfl
        | some c => rw [l b' c e] at hb'; cases hb'
    refine k _ _ (.inr ⟨b', rfl, hb0, Heap.set_same _ _ _, by rw [List.length_append, e3, hn, Nat.add_mul]⟩) (Heap.le_set (Heap.le_kill l e1) hb0) ?_
    intro x ds hx hv
    have h1 : x ≠ b := fun e => hv (by rw [e]; rfl)
    have h2 : x ≠ b' := by
      rintro rfl
      rcases hb' with rfl | hb'
      · exact h1 rfl
      · rw [hb'] at hx; cases hx
    exact ⟨by rw [Heap.set_ne _ _ h2, Heap.kill_ne _ h1]; exact hx, by simp [blkOf]; exact fun e => h2 e.symm⟩
theorem Acc.wk {h h' : Heap} {v : PV} {E n : Nat} {cs : List PV} (a : Acc h h' v E n cs) (l : h.le h') : Wk h h' v h (.list true E n (olds cs)) := by
  rcases a with ⟨rfl, rfl, rfl⟩ | ⟨b, rfl, e1, e2, e3⟩
  · exact Wk.nil l true E
  · have := Wk.buf (E := E) (off := 0) (n := n) l e1 e2 e1 (by omega)
    rwa [List.drop_zero, List.take_of_length_le (by omega)] at this
/-- A row that comes back. -/
theorem Acc.fin {h h' : Heap} {v : PV} {E n : Nat} {cs : List PV} {K : Kt} (a : Acc h h' v E n cs) (l : h.le h') (k : K (.list true E n (olds cs)) h) : finK v h K h' := finK_wk (a.wk l) k
/-- A row that comes back beside another result. -/
theorem Acc.fin2 {h h' : Heap} {v u : PV} {E n : Nat} {cs : List PV} {K : Kt} (a : Acc h h' v E n cs) (l : h.le h') (k : K (.tup [.list true E n (olds cs), u]) h) : finK (.tup [v, u]) h K h' :=
  finK_wk (Wk.tup (us := [.list true E n (olds cs), u]) l ⟨a.wk l, Wk.drop u l, trivial⟩) k
theorem Own.set {h h' : Heap} {b : Nat} {cs ds : List PV} (o : Own h h' b cs) : Own h (h'.set b ds) b ds := ⟨o.1, Heap.set_same _ _ _⟩
theorem Own.le {h h' : Heap} {b : Nat} {cs ds : List PV} (o : Own h h' b cs) (l : h.le h') : h.le (h'.set b ds) := Heap.le_set l o.1
theorem Own.other {h h' : Heap} {b x : Nat} {cs ds : List PV} (o : Own h h' b cs) (e : x ≠ b) : Own h (h'.set x ds) b cs := ⟨o.1, by rw [Heap.set_ne _ _ (Ne.symm e)]; exact o.2⟩
theorem Acc.set {h h' : Heap} {v : PV} {E n x : Nat} {cs ds : List PV} (a : Acc h h' v E n cs) (e : blkOf v ≠ some x) : Acc h (h'.set x ds) v E n cs := by
  rcases a with ⟨rfl, rfl, rfl⟩ | ⟨b, rfl, h1, h2, h3⟩
  · exact .inl ⟨rfl, rfl, rfl⟩
  · exact .inr ⟨b, rfl, h1, by rw [Heap.set_ne]; exact h2; exact fun e' => e (by rw [e']; rfl), h3⟩
theorem drop_getD {α : Type} [Inhabited α] (l : List α) {i : Nat} (h : i < l.length) : l.drop i = l.getD i default :: l.drop (i + 1) := by
  rw [List.drop_eq_getElem_cons h]; simp [List.getD, h]
theorem Heap.kill_none {h : Heap} {b : Nat} (e : h.f b = none) : h.kill b = h := by
  apply Heap.ext'; intro x; by_cases e' : x = b
  · subst e'; simp [Heap.kill, e]
  · simp [Heap.kill, e']
theorem finK_rf {v : PV} {h0 h : Heap} {K : Kt} (k : K v h) : finK v h0 K h := ⟨v, h, Wk.refl _ _ _, k⟩
/-- One element of a row is written. -/
theorem wr_flat {α : Type} (f : α → List PV) (E : Nat) (he : ∀ x, (f x).length = E) (x : α) : ∀ (l : List α) {i : Nat}, i < l.length → wr (l.flatMap f) (i * E) (f x) = (l.set i x).flatMap f
  | [], i, h => absurd h (by simp)
  | a :: l, 0, h => by
    simp only [wr, List.flatMap_cons, Nat.zero_mul, List.take_zero, List.nil_append, Nat.zero_add, List.set_cons_zero, he]
    rw [show E = (f a).length from (he a).symm, List.drop_left]
  | a :: l, i + 1, h => by
    have ih := wr_flat f E he x l (i := i) (by simpa using h)
    simp only [wr, he, List.flatMap_cons, List.set_cons_succ] at ih ⊢
    rw [← ih, show (i + 1) * E = (f a).length + i * E by rw [he, Nat.add_mul]; omega, Nat.add_assoc, List.take_length_add_append, List.drop_length_add_append]
    simp only [List.append_assoc]
theorem wr_map {α : Type} (f : α → PV) (x : α) (l : List α) {i : Nat} (h : i < l.length) : wr (l.map f) i [f x] = (l.set i x).map f := by
  have := wr_flat (fun x => [f x]) 1 (fun _ => rfl) x l h
  simp only [Nat.mul_one] at this
  have e : ∀ l : List α, l.flatMap (fun x => [f x]) = l.map f := fun l => by induction l with | nil => rfl | cons a l ih => simp [ih]
  rwa [e, e] at this
theorem rep_map {α : Type} (f : α → PV) (x : α) : ∀ n : Nat, rep n [f x] = (List.replicate n x).map f
  | 0 => rfl
  | n + 1 => by
    have := rep_map f x n
    simp only [rep, List.replicate_succ, List.flatten_cons, List.map_cons, List.singleton_append] at this ⊢
    rw [this]
theorem Acc.live {h h' : Heap} {v : PV} {E n : Nat} {cs : List PV} (a : Acc h h' v E n cs) : (v = .nils ∧ n = 0 ∧ cs = []) ∨ ∃ b, v = .buf b E 0 n ∧ h.f b = none ∧ h'.f b = some cs ∧ cs.length = n * E := a
end Go.Pm

/-
  An abstract machine over pure values, part R: plain facts on lists that the walks share.
  Conditions: none.
-/
namespace Go.Pm
set_option linter.unusedVariables false
set_option linter.unusedSimpArgs false

section
variable {P : Program} {L : List Nat} {Q : Exit → Sl → Heap → Prop} {σ : Sl} {h : Heap}
/-- A loop whose measure falls. -/
theorem pwp_fall {a : PC} (J : Nat → Sl → Heap → Prop) (N : Nat) (h0 : J N σ h)
    (round : ∀ m σ h (K : Sl → Heap → Prop), J m σ h → (∀ m' σ' h', m' < m → J m' σ' h' → K σ' h') → pwp P L a (thn K Q) σ h) : pwp P L (.loop a) Q σ h :=
  pwp_loop J N h0 fun m σ h hj => round m σ h _ hj fun m' σ' h' hm q => ⟨m', hm, q⟩
end
theorem fresh_or {h : Heap} {b b' : Nat} {cs : List PV} (hb : h.f b = none) (e : b' = b ∨ (h.set b cs).f b' = none) : h.f b' = none := by
  rcases e with rfl | e
  · exact hb
  · by_cases q : b' = b
    · rw [q]; exact hb
    · rwa [Heap.set_ne _ _ q] at e
theorem Heap.le_none {h g : Heap} (l : h.le g) {b : Nat} (e : g.f b = none) : h.f b = none := by
  cases e2 : h.f b with
  | none => rfl
  | some c => rw [l _ _ e2] at e; cases e
theorem olds_flat {α : Type} (f g : α → List PV) (e : ∀ x, olds (f x) = g x) (l : List α) : olds (l.flatMap f) = l.flatMap g := by
  induction l with
  | nil => rfl
  | cons p l ih => rw [List.flatMap_cons, olds_eq, List.map_append, ← olds_eq, ← olds_eq, ih, e]; rfl
/-- The first that is so, counted from `i` on; -1: none. -/
def findI {α : Type} (q : α → Bool) : List α → Int → Int
  | [], _ => -1
  | p :: l, i => if q p then i else findI q l (i + 1)
theorem findI_cases {α : Type} [Inhabited α] (q : α → Bool) : ∀ (l : List α) (i : Int), (findI q l i = -1 ∧ ∀ p ∈ l, q p = false) ∨ ∃ j : Nat, j < l.length ∧ findI q l i = i + j ∧ q (l.getD j default) = true ∧ ∀ k, k < j → q (l.getD k default) = false
  | [], i => .inl ⟨rfl, by simp⟩
  | p :: l, i => by
    cases hp : q p
    · rcases findI_cases q l (i + 1) with ⟨e, a⟩ | ⟨j, h1, h2, h3, h4⟩
      · exact .inl ⟨by simpa [findI, hp] using e, by simpa [hp] using a⟩
      · refine .inr ⟨j + 1, by simpa using h1, by simp only [findI, hp, Bool.false_eq_true, if_false, h2]; omega, by simpa using h3, fun k hk => ?_⟩
        cases k with
        | zero => simpa using hp
        | succ k => simpa using h4 k (by omega)
    · exact .inr ⟨0, by simp, by simp [findI, hp], by simpa using hp, fun k hk => by omega⟩
theorem findI_nonneg {α : Type} (q : α → Bool) : ∀ (l : List α) (i : Int), 0 ≤ i → (decide (0 ≤ findI q l i) = l.any q)
  | [], i, _ => by simp [findI]
  | p :: l, i, hi => by
    cases hp : q p
    · simp [findI, hp, findI_nonneg q l (i + 1) (by omega)]
    · simp [findI, hp, hi]
/-- A row turned step by step: the first `i` and the last `i` have changed places. -/
def swapd {α : Type} [Inhabited α] (l : List α) : Nat → List α
  | 0 => l
  | i + 1 => ((swapd l i).set i ((swapd l i).getD (l.length - 1 - i) default)).set (l.length - 1 - i) ((swapd l i).getD i default)
theorem swapd_len {α : Type} [Inhabited α] (l : List α) : ∀ i, (swapd l i).length = l.length
  | 0 => rfl
  | i + 1 => by simp [swapd, swapd_len l i]
theorem swapd_get {α : Type} [Inhabited α] (l : List α) : ∀ i, 2 * i ≤ l.length → ∀ k, (swapd l i)[k]? = if k < i ∨ l.length - i ≤ k then l.reverse[k]? else l[k]?
  | 0, h, k => by
    rw [swapd]
    split
    · rw [List.getElem?_eq_none (by omega), List.getElem?_eq_none (by simp; omega)]
    · rfl
  | i + 1, h, k => by
    have ih := swapd_get l i (by omega)
    have hl := swapd_len l i
    have e1 : (swapd l i).getD i default = l.getD i default := by
      simp only [List.getD, ih i]
      rw [if_neg (by omega)]
    have e2 : (swapd l i).getD (l.length - 1 - i) default = l.getD (l.length - 1 - i) default := by
      simp only [List.getD, ih (l.length - 1 - i)]
      rw [if_neg (by omega)]
    simp only [swapd, e1, e2, List.getElem?_set, List.length_set, hl, ih k]
    by_cases q1 : l.length - 1 - i = k
    · subst q1
      rw [if_pos rfl, if_pos (by omega), if_pos (by omega), List.getElem?_reverse (by omega)]
      simp only [List.getD, show l.length - 1 - (l.length - 1 - i) = i by omega]
      rw [List.getElem?_eq_getElem (by omega)]; simp
    · rw [if_neg q1]
      by_cases q2 : i = k
      · subst q2
        rw [if_pos rfl, if_pos (by omega), if_pos (by omega), List.getElem?_reverse (by omega)]
        simp only [List.getD]
        rw [List.getElem?_eq_getElem (by omega)]; simp
      · rw [if_neg q2]
        by_cases q3 : k < i ∨ l.length - i ≤ k
        · rw [if_pos q3, if_pos (by omega)]
        · rw [if_neg q3, if_neg (by omega)]
theorem swapd_rev {α : Type} [Inhabited α] (l : List α) : swapd l (l.length / 2) = l.reverse := by
  apply List.ext_getElem?
  intro k
  rw [swapd_get l _ (by omega)]
  split
  · rfl
  · by_cases q : k < l.length
    · rw [List.getElem?_reverse q]; congr 1; omega
    · rw [List.getElem?_eq_none (by omega), List.getElem?_eq_none (by simp; omega)]
theorem take_succ_map {α β : Type} [Inhabited α] (f : α → β) (l : List α) {i : Nat} (h : i < l.length) : (l.take (i + 1)).map f = (l.take i).map f ++ [f (l.getD i default)] := by
  rw [List.take_succ_eq_append_getElem h, List.map_append]; simp only [List.map_cons, List.map_nil, List.getD, List.getElem?_eq_getElem h, Option.getD_some]
theorem take_succ_flat {α β : Type} [Inhabited α] (f : α → List β) (l : List α) {i : Nat} (h : i < l.length) : (l.take (i + 1)).flatMap f = (l.take i).flatMap f ++ f (l.getD i default) := by
  rw [List.take_succ_eq_append_getElem h, List.flatMap_append]; simp only [List.flatMap_cons, List.flatMap_nil, List.append_nil, List.getD, List.getElem?_eq_getElem h, Option.getD_some]
/-- A row that is filled from its beginning on. -/
theorem fill_set {α β : Type} [Inhabited α] (f : α → β) (z : β) (l : List α) {i : Nat} (h : i < l.length) : ((l.take i).map f ++ List.replicate (l.length - i) z).set i (f (l.getD i default)) = (l.take (i + 1)).map f ++ List.replicate (l.length - (i + 1)) z := by
  rw [List.set_append_right _ _ (by simp; omega)]
  simp only [List.length_map, List.length_take, Nat.min_eq_left (Nat.le_of_lt h), Nat.sub_self]
  rw [show l.length - i = (l.length - (i + 1)) + 1 by omega, List.replicate_succ, List.set_cons_zero, take_succ_map f l h, List.append_assoc]; rfl
theorem fill_same {α β : Type} [Inhabited α] [Inhabited β] (f : α → β) (z : β) (l : List α) {i : Nat} (h : i < l.length) (e : f (l.getD i default) = z) : (l.take i).map f ++ List.replicate (l.length - i) z = (l.take (i + 1)).map f ++ List.replicate (l.length - (i + 1)) z := by
  rw [take_succ_map f l h, e, show l.length - i = (l.length - (i + 1)) + 1 by omega, List.replicate_succ, List.append_assoc]; rfl
/-- One more of a row of whole numbers has been written. -/
theorem take_drop_set {α : Type} (f : α → α) (l : List α) [Inhabited α] {i : Nat} (h : i < l.length) : ((l.take i).map f ++ l.drop i).set i (f (l.getD i default)) = (l.take (i + 1)).map f ++ l.drop (i + 1) := by
  rw [List.set_append_right _ _ (by simp; omega)]
  simp only [List.length_map, List.length_take, Nat.min_eq_left (Nat.le_of_lt h), Nat.sub_self]
  rw [drop_getD l h, List.set_cons_zero, List.take_succ_eq_append_getElem h]
  simp only [List.map_append, List.map_cons, List.map_nil, List.append_assoc, List.singleton_append, List.getD, List.getElem?_eq_getElem h, Option.getD_some]
end Go.Pm

/-
  An abstract machine over pure values, part S: cutting rows, as equations for a walk.
  Conditions: none.
-/
namespace Go.Pm
set_option linter.unusedVariables false
set_option linter.unusedSimpArgs false

theorem cut_lo {n j : Nat} (h : j ≤ n) : cutB n (some (.int .i64 (j : Int))) none = some (j, n) := by
  have h1 : (0 : Int) ≤ j := by omega
  have h2 : (j : Int) ≤ n := by omega
  simp [cutB, h1, h2]
theorem cut_hi {n j : Nat} (h : j ≤ n) : cutB n none (some (.int .i64 (j : Int))) = some (0, j) := by
  have h1 : (0 : Int) ≤ j := by omega
  have h2 : (j : Int) ≤ n := by omega
  simp [cutB, h1, h2]
theorem cut_both {n i j : Nat} (h0 : i ≤ j) (h : j ≤ n) : cutB n (some (.int .i64 (i : Int))) (some (.int .i64 (j : Int))) = some (i, j) := by
  have h1 : (0 : Int) ≤ i := by omega
  have h2 : (i : Int) ≤ j := by omega
  have h3 : (j : Int) ≤ n := by omega
  simp [cutB, h1, h2, h3]
theorem ex_cut {x : Option (Nat × Nat)} {r : Nat × Nat} {F : Nat × Nat → Prop} (e : x = some r) : (∃ p, x = some p ∧ F p) = F r := by
  subst e
  apply propext
  constructor
  · rintro ⟨p, hp, q⟩; cases hp; exact q
  · intro q; exact ⟨r, rfl, q⟩
section
variable {K : Kt} {h : Heap} {b E off n i j : Nat} {fr : Bool} {cs : List PV} {k : Option Nat}
/-- A live row, from a place on. -/
theorem slcB_lo (h1 : 0 < j) (h2 : j < n) : slcK k (some E) (.buf b E off n) (some (.int .i64 (j : Int))) none K h = K (.buf b E (off + j * E) (n - j)) h := by
  simp only [slcK, true_and, ex_cut (cut_lo (Nat.le_of_lt h2))]
  rw [if_neg (by omega), if_pos h2]
theorem slcB_lo0 : slcK k (some E) (.buf b E off n) (some (.int .i64 0)) none K h = K (.buf b E off n) h := by
  have := cut_lo (n := n) (j := 0) (Nat.zero_le _)
  simp only [slcK, true_and]
  rw [show ((0 : Int)) = ((0 : Nat) : Int) from rfl, ex_cut this]; simp
theorem slcB_hi (h2 : j ≤ n) : slcK k (some E) (.buf b E off n) none (some (.int .i64 (j : Int))) K h = K (.buf b E off j) h := by
  simp only [slcK, true_and, ex_cut (cut_hi h2), if_true]
theorem slcB_both (h0 : 0 < i) (h1 : i < j) (h2 : j ≤ n) : slcK k (some E) (.buf b E off n) (some (.int .i64 (i : Int))) (some (.int .i64 (j : Int))) K h = K (.buf b E (off + i * E) (j - i)) h := by
  simp only [slcK, true_and, ex_cut (cut_both (Nat.le_of_lt h1) h2)]
  rw [if_neg (by omega), if_pos h1]
theorem slcB_none (h0 : 0 < i) (h2 : i ≤ n) : slcK k (some E) (.buf b E off n) (some (.int .i64 (i : Int))) (some (.int .i64 (i : Int))) K h = K (.list true E 0 []) h := by
  simp only [slcK, true_and, ex_cut (cut_both (Nat.le_refl i) h2)]
  rw [if_neg (by omega), if_neg (by omega)]
theorem slcB_both0 (h2 : j ≤ n) : slcK k (some E) (.buf b E off n) (some (.int .i64 0)) (some (.int .i64 (j : Int))) K h = K (.buf b E off j) h := by
  have e := cut_both (Nat.zero_le j) h2
  rw [show ((0 : Nat) : Int) = 0 from rfl] at e
  simp only [slcK, true_and, ex_cut e, if_true]
theorem slcB_00 : slcK k (some E) (.buf b E off n) (some (.int .i64 0)) (some (.int .i64 0)) K h = K (.buf b E off 0) h :=
  slcB_both0 (j := 0) (Nat.zero_le n)
/-- What is only read, cut. -/
theorem slcL_both (h1 : i ≤ j) (h2 : j ≤ n) : slcK k (some E) (.list fr E n cs) (some (.int .i64 (i : Int))) (some (.int .i64 (j : Int))) K h = K (.list fr E (j - i) ((cs.drop (i * E)).take ((j - i) * E))) h := by
  simp only [slcK, true_and, ex_cut (cut_both h1 h2)]
theorem slcL_hi (h2 : j ≤ n) : slcK k (some E) (.list fr E n cs) none (some (.int .i64 (j : Int))) K h = K (.list fr E j (cs.take (j * E))) h := by
  simp only [slcK, true_and, ex_cut (cut_hi h2)]; simp
theorem slcL_lo (h2 : j ≤ n) : slcK k (some E) (.list fr E n cs) (some (.int .i64 (j : Int))) none K h = K (.list fr E (n - j) ((cs.drop (j * E)).take ((n - j) * E))) h := by
  simp only [slcK, true_and, ex_cut (cut_lo h2)]
theorem slcN_hi : slcK k (some E) .nils none (some (.int .i64 0)) K h = K .nils h := by
  have := cut_hi (n := 0) (j := 0) (Nat.le_refl _)
  simp only [slcK, Option.isSome_some, true_and]
  rw [show ((0 : Int)) = ((0 : Nat) : Int) from rfl, ex_cut this]
end
/-- A row that is used as a stack: nothing yet, or the beginning of a live block of its own. -/
def Stk (h h' : Heap) (v : PV) (E n : Nat) (cs : List PV) : Prop := (v = .nils ∧ n = 0 ∧ cs = []) ∨ ∃ b ds, v = .buf b E 0 n ∧ h.f b = none ∧ h'.f b = some ds ∧ n * E ≤ ds.length ∧ cs = ds.take (n * E)
theorem Stk.nil (h h' : Heap) (E : Nat) : Stk h h' .nils E 0 [] := .inl ⟨rfl, rfl, rfl⟩
theorem Stk.len {h h' : Heap} {v : PV} {E n : Nat} {cs : List PV} (a : Stk h h' v E n cs) : cs.length = n * E := by
  rcases a with ⟨_, rfl, rfl⟩ | ⟨b, ds, _, _, _, l, rfl⟩
  · simp
  · simp; omega
theorem Stk.beside {h h' h'' : Heap} {u : PV} {E n : Nat} {cs : List PV} {v v' : PV} (a : Stk h h' u E n cs) (s : Beside h' v h'' v') (d : ∀ b, blkOf u = some b → blkOf v ≠ some b) : Stk h h'' u E n cs ∧ ∀ b, blkOf u = some b → blkOf v' ≠ some b := by
  rcases a with ⟨rfl, rfl, rfl⟩ | ⟨b, ds, rfl, h1, h2, h3, h4⟩
  · exact ⟨.inl ⟨rfl, rfl, rfl⟩, fun b e => by cases e⟩
  · have := s b ds h2 (d b rfl)
    exact ⟨.inr ⟨b, ds, rfl, h1, this.1, h3, h4⟩, fun x e => by cases e; exact this.2⟩
theorem Stk.set {h h' : Heap} {v : PV} {E n x : Nat} {cs ds : List PV} (a : Stk h h' v E n cs) (e : blkOf v ≠ some x) : Stk h (h'.set x ds) v E n cs := by
  rcases a with ⟨rfl, rfl, rfl⟩ | ⟨b, es, rfl, h1, h2, h3, h4⟩
  · exact .inl ⟨rfl, rfl, rfl⟩
  · exact .inr ⟨b, es, rfl, h1, by rw [Heap.set_ne]; exact h2; exact fun e' => e (by rw [e']; rfl), h3, h4⟩
theorem Stk.app {h h' : Heap} {v : PV} {E n m by_ : Nat} {cs new : List PV} {K : Kt} (a : Stk h h' v E n cs) (l : h.le h') (hm : m ≠ 0) (hn : new.length = m * E) (b1 : (n + m) * by_ ≤ 140737488355328) (b2 : n + m ≤ maxLen)
    (k : ∀ v' h'', Stk h h'' v' E (n + m) (cs ++ new) → h.le h'' → Beside h' v h'' v' → K v' h'') : ap2K (some (m, new)) E by_ v K h' := by
  rcases a with ⟨rfl, rfl, rfl⟩ | ⟨b, ds, rfl, e1, e2, e3, e4⟩
  · refine ⟨by simpa using b1, by simpa using b2, ?_⟩
    unfold apnK; rw [if_neg hm]
    intro b hb
    have hb0 : h.f b = none := Heap.le_none l hb
    refine k _ _ (.inr ⟨b, new, by simp, hb0, Heap.set_same _ _ _, by simp; omega, by simp [List.take_of_length_le (Nat.le_of_eq hn)]⟩) (Heap.le_set l hb0) ?_
    intro x ds hx _
    have hne : x ≠ b := fun e => by rw [e, hb] at hx; cases hx
    exact ⟨by rw [Heap.set_ne _ _ hne]; exact hx, by simp [blkOf]; exact fun e => hne e.symm⟩
  · refine ⟨rfl, rfl, b1, b2, ?_⟩
    rw [e2]
    refine ⟨e3, fun b' hb' => ?_⟩
    rw [← e4]
    have hb0 : h.f b' = none := by
      rcases hb' with rfl | hb'
      · exact e1
      · exact Heap.le_none l hb'
    have hl : (cs ++ new).length = (n + m) * E := by rw [List.length_append, hn, e4, List.length_take, Nat.add_mul]; omega
    refine k _ _ (.inr ⟨b', cs ++ new, rfl, hb0, Heap.set_same _ _ _, by omega, by rw [List.take_of_length_le (by omega)]⟩) (Heap.le_set (Heap.le_kill l e1) hb0) ?_
    intro x ds hx hv
    have h1 : x ≠ b := fun e => hv (by rw [e]; rfl)
    have h2 : x ≠ b' := by
      rintro rfl
      rcases hb' with rfl | hb'
      · exact h1 rfl
      · rw [hb'] at hx; cases hx
    exact ⟨by rw [Heap.set_ne _ _ h2, Heap.kill_ne _ h1]; exact hx, by simp [blkOf]; exact fun e => h2 e.symm⟩
/-- One that is cut. -/
theorem Stk.cut {h h' : Heap} {b E n m : Nat} {cs : List PV} (a : Stk h h' (.buf b E 0 n) E n cs) (hm : m ≤ n) : Stk h h' (.buf b E 0 m) E m (cs.take (m * E)) := by
  rcases a with ⟨e, _⟩ | ⟨b', ds, e, e1, e2, e3, e4⟩
  · cases e
  · cases e
    have := Nat.mul_le_mul_right E hm
    exact .inr ⟨b, ds, rfl, e1, e2, by omega, by rw [e4, List.take_take, Nat.min_eq_left this]⟩
theorem Stk.wk {h h' : Heap} {v : PV} {E n : Nat} {cs : List PV} (a : Stk h h' v E n cs) (l : h.le h') : Wk h h' v h (.list true E n (olds cs)) := by
  rcases a with ⟨rfl, rfl, rfl⟩ | ⟨b, ds, rfl, e1, e2, e3, rfl⟩
  · exact Wk.nil l true E
  · have := Wk.buf (E := E) (off := 0) (n := n) l e1 e2 e1 (by omega)
    rwa [List.drop_zero] at this
theorem Stk.fin {h h' : Heap} {v : PV} {E n : Nat} {cs : List PV} {K : Kt} (a : Stk h h' v E n cs) (l : h.le h') (k : K (.list true E n (olds cs)) h) : finK v h K h' := finK_wk (a.wk l) k
/-- What stands in it. -/
theorem Stk.get {h h' : Heap} {b E n : Nat} {cs : List PV} (a : Stk h h' (.buf b E 0 n) E n cs) : ∃ ds, h.f b = none ∧ h'.f b = some ds ∧ ∀ i, i < n * E → ds[i]? = cs[i]? := by
  rcases a with ⟨e, _⟩ | ⟨b', ds, e, e1, e2, e3, e4⟩
  · cases e
  · cases e
    exact ⟨ds, e1, e2, fun i hi => by rw [e4, List.getElem?_take, if_pos hi]⟩
theorem Stk.live {h h' : Heap} {v : PV} {E n : Nat} {cs : List PV} (a : Stk h h' v E n cs) (hn : 0 < n) : ∃ b, v = .buf b E 0 n := by
  rcases a with ⟨_, rfl, _⟩ | ⟨b, ds, e, _⟩
  · omega
  · exact ⟨b, e⟩
/-- One that is appended to, by however many. -/
theorem Acc.appA {h h' : Heap} {v : PV} {E n m by_ : Nat} {cs new : List PV} {K : Kt} (a : Acc h h' v E n cs) (l : h.le h') (hn : new.length = m * E) (b1 : (n + m) * by_ ≤ 140737488355328) (b2 : n + m ≤ maxLen)
    (k : ∀ v' h'', Acc h h'' v' E (n + m) (cs ++ new) → h.le h'' → Beside h' v h'' v' → K v' h'') : ap2K (some (m, new)) E by_ v K h' := by
  by_cases hm : m = 0
  · subst hm
    have hnew : new = [] := List.length_eq_zero_iff.1 (by omega)
    subst hnew
    rcases a with ⟨rfl, rfl, rfl⟩ | ⟨b, rfl, e1, e2, e3⟩
    · refine ⟨by simp, by simp, ?_⟩
      unfold apnK; rw [if_pos rfl]
      exact k _ _ (Acc.nil _ _ _) l fun x ds hx _ => ⟨hx, fun e => by cases e⟩
    · refine ⟨rfl, rfl, b1, b2, ?_⟩
      rw [e2]
      refine ⟨by omega, fun b' hb' => ?_⟩
      have ht : cs.take (n * E) = cs := List.take_of_length_le (by omega)
      rw [ht]
      have hb0 : h.f b' = none := by
        rcases hb' with rfl | hb'
        · exact e1
        · exact Heap.le_none l hb'
      refine k _ _ (.inr ⟨b', rfl, hb0, Heap.set_same _ _ _, by rw [List.length_append, e3]; simp⟩) (Heap.le_set (Heap.le_kill l e1) hb0) ?_
      intro x ds hx hv
      have h1 : x ≠ b := fun e => hv (by rw [e]; rfl)
      have h2 : x ≠ b' := by
        rintro rfl
        rcases hb' with rfl | hb'
        · exact h1 rfl
        · rw [hb'] at hx; cases hx
      exact ⟨by rw [Heap.set_ne _ _ h2, Heap.kill_ne _ h1]; exact hx, by simp [blkOf]; exact fun e => h2 e.symm⟩
  · exact a.app l hm hn b1 b2 k
end Go.Pm

/-
  An abstract machine over pure values, part T: rows that are put in order, plainly: cells and elements, changes of places, what an order keeps.
  Conditions: none.
-/
namespace Go.Pm
set_option linter.unusedVariables false
set_option linter.unusedSimpArgs false
set_option linter.unusedSectionVars false

/-! ### Cells of a part of a live block -/
def rowC {α : Type} (enc : α → List PV) (pre post : List PV) (l : List α) : List PV := pre ++ l.flatMap enc ++ post
section
variable {α : Type} [Inhabited α] {enc : α → List PV} {E : Nat} (he : ∀ x, (enc x).length = E) {pre post : List PV} {l : List α} {i : Nat}
include he
theorem rowC_len : (rowC enc pre post l).length = pre.length + l.length * E + post.length := by
  unfold rowC; rw [List.length_append, List.length_append, flat_length enc E he]
theorem rowC_in (h : i < l.length) : pre.length + i * E + E ≤ (rowC enc pre post l).length := by
  rw [rowC_len he]
  have : (i + 1) * E ≤ l.length * E := Nat.mul_le_mul_right _ h
  rw [Nat.add_mul] at this; omega
theorem rowC_at (h : i < l.length) : ((rowC enc pre post l).drop (pre.length + i * E)).take E = enc (l.getD i default) := by
  unfold rowC
  have hl : (i + 1) * E ≤ l.length * E := Nat.mul_le_mul_right _ h
  rw [Nat.add_mul] at hl
  have hf := flat_length enc E he l
  rw [List.append_assoc, List.drop_append, List.drop_eq_nil_of_le (by omega), List.nil_append, show pre.length + i * E - pre.length = i * E by omega, List.drop_append_of_le_length (by omega), List.take_append_of_le_length (by rw [List.length_drop]; omega), flat_at enc E he l h]
theorem rowC_wr (h : i < l.length) (x : α) : wr (rowC enc pre post l) (pre.length + i * E) (enc x) = rowC enc pre post (l.set i x) := by
  unfold rowC
  rw [← wr_flat enc E he x l h]
  have hl : (i + 1) * E ≤ l.length * E := Nat.mul_le_mul_right _ h
  rw [Nat.add_mul] at hl
  have hf := flat_length enc E he l
  simp only [wr, he]
  rw [List.append_assoc pre, List.take_append, List.take_of_length_le (by omega), show pre.length + i * E - pre.length = i * E by omega, List.take_append_of_le_length (by omega)]
  rw [List.drop_append, List.drop_eq_nil_of_le (as := pre) (by omega), List.nil_append, show pre.length + i * E + E - pre.length = i * E + E by omega, List.drop_append_of_le_length (by omega)]
  simp only [List.append_assoc]
end
theorem rowC_int {pre post : List PV} {l : List Int} {i : Nat} (h : i < l.length) : (rowC (fun x => [PV.int .i64 x]) pre post l)[pre.length + i]? = some (.int .i64 (l.getD i default)) := by
  have := rowC_at (enc := fun x => [PV.int .i64 x]) (E := 1) (fun _ => rfl) (pre := pre) (post := post) h
  rw [Nat.mul_one] at this
  have h2 := congrArg (fun l : List PV => l[0]?) this
  simpa [List.getElem?_take, List.getElem?_drop] using h2

/-! ### Changing places -/
def swp {α : Type} [Inhabited α] (l : List α) (i j : Nat) : List α := (l.set i (l.getD j default)).set j (l.getD i default)
theorem swp_len {α : Type} [Inhabited α] (l : List α) (i j : Nat) : (swp l i j).length = l.length := by simp [swp]
def swpR {α : Type} [Inhabited α] (l : List α) (i j : Nat) : Nat → List α
  | 0 => l
  | m + 1 => swp (swpR l i j m) (i + m) (j + m)
theorem swpR_len {α : Type} [Inhabited α] (l : List α) (i j : Nat) : ∀ m, (swpR l i j m).length = l.length
  | 0 => rfl
  | m + 1 => by rw [swpR, swp_len, swpR_len]
theorem swpR_get {α : Type} [Inhabited α] (l : List α) (i j : Nat) : ∀ m, i + m ≤ j → j + m ≤ l.length → ∀ k, (swpR l i j m)[k]? = if i ≤ k ∧ k < i + m then l[k - i + j]? else if j ≤ k ∧ k < j + m then l[k - j + i]? else l[k]?
  | 0, _, _, k => by rw [swpR, if_neg (by omega), if_neg (by omega)]
  | m + 1, h1, h2, k => by
    have hl := swpR_len l i j m
    have ih := swpR_get l i j m (by omega) (by omega)
    have e1 : (swpR l i j m).getD (j + m) default = l.getD (j + m) default := by
      simp only [List.getD, ih]; rw [if_neg (by omega), if_neg (by omega)]
    have e2 : (swpR l i j m).getD (i + m) default = l.getD (i + m) default := by
      simp only [List.getD, ih]; rw [if_neg (by omega), if_neg (by omega)]
    rw [swpR, swp, e1, e2]
    simp only [List.getElem?_set, List.length_set, hl, ih k]
    by_cases q1 : j + m = k
    · subst q1
      rw [if_pos rfl, if_pos (by omega), if_neg (by omega), if_pos (by omega)]
      simp only [List.getD, show j + m - j + i = i + m by omega]
      rw [List.getElem?_eq_getElem (by omega)]; simp
    · rw [if_neg q1]
      by_cases q2 : i + m = k
      · subst q2
        rw [if_pos rfl, if_pos (by omega), if_pos (by omega)]
        simp only [List.getD, show i + m - i + j = j + m by omega]
        rw [List.getElem?_eq_getElem (by omega)]; simp
      · rw [if_neg q2]
        by_cases q3 : i ≤ k ∧ k < i + m
        · rw [if_pos q3, if_pos (by omega)]
        · rw [if_neg q3, if_neg (show ¬ (i ≤ k ∧ k < i + (m + 1)) by omega)]
          by_cases q4 : j ≤ k ∧ k < j + m
          · rw [if_pos q4, if_pos (show j ≤ k ∧ k < j + (m + 1) by omega)]
          · rw [if_neg q4, if_neg (show ¬ (j ≤ k ∧ k < j + (m + 1)) by omega)]
/-- Two parts of one length have changed places. -/
theorem swpR_parts {α : Type} [Inhabited α] (P X M Y Q : List α) (h : X.length = Y.length) : swpR (P ++ X ++ M ++ Y ++ Q) P.length (P.length + X.length + M.length) X.length = P ++ Y ++ M ++ X ++ Q := by
  apply List.ext_getElem?
  intro k
  rw [swpR_get _ _ _ _ (by omega) (by simp; omega)]
  simp only [List.getElem?_append, List.length_append, List.append_assoc, h]
  repeat' split
  all_goals first | omega | (congr 1; omega) | rfl
theorem swp_next {α : Type} [Inhabited α] (P : List α) (x y : α) (Q : List α) : swp (P ++ x :: y :: Q) P.length (P.length + 1) = P ++ y :: x :: Q := by
  have := swpR_parts P [x] [] [y] Q rfl
  simpa [swpR] using this

/-! ### What an order keeps -/
section
variable {α : Type} (key : α → Int)
def Srt (l : List α) : Prop := l.Pairwise fun x y => key x ≤ key y
/-- Of each key the same ones in the same order. -/
def Fil (l m : List α) : Prop := ∀ k, l.filter (fun x => decide (key x = k)) = m.filter fun x => decide (key x = k)
variable {key}
theorem Fil.refl (l : List α) : Fil key l l := fun _ => rfl
theorem Fil.trans {l m n : List α} (a : Fil key l m) (b : Fil key m n) : Fil key l n := fun k => (a k).trans (b k)
theorem Fil.symm {l m : List α} (a : Fil key l m) : Fil key m l := fun k => (a k).symm
theorem Fil.app {l m l' m' : List α} (a : Fil key l l') (b : Fil key m m') : Fil key (l ++ m) (l' ++ m') := fun k => by rw [List.filter_append, List.filter_append, a k, b k]
theorem Fil.cons {l l' : List α} (x : α) (a : Fil key l l') : Fil key (x :: l) (x :: l') := (Fil.refl [x]).app a
/-- What stands ahead of greater ones may go behind them. -/
theorem Fil.swap {l m : List α} (h : ∀ x ∈ l, ∀ y ∈ m, key y < key x) : Fil key (l ++ m) (m ++ l) := fun k => by
  rw [List.filter_append, List.filter_append]
  by_cases h1 : ∃ x ∈ l, key x = k
  · obtain ⟨x, hx, e⟩ := h1
    have : m.filter (fun x => decide (key x = k)) = [] := List.filter_eq_nil_iff.2 fun y hy => by have := h x hx y hy; simp; omega
    rw [this]; simp
  · have : l.filter (fun x => decide (key x = k)) = [] := List.filter_eq_nil_iff.2 fun y hy => by
      simp only [decide_eq_true_eq]; exact fun e => h1 ⟨y, hy, e⟩
    rw [this]; simp
theorem Fil.mem {l m : List α} (a : Fil key l m) {x : α} : x ∈ l ↔ x ∈ m := by
  have := a (key x)
  constructor
  · intro h
    have : x ∈ m.filter fun y => decide (key y = key x) := by rw [← this]; exact List.mem_filter.2 ⟨h, by simp⟩
    exact (List.mem_filter.1 this).1
  · intro h
    have : x ∈ l.filter fun y => decide (key y = key x) := by rw [this]; exact List.mem_filter.2 ⟨h, by simp⟩
    exact (List.mem_filter.1 this).1
theorem Fil.nil {l : List α} (a : Fil key [] l) : l = [] := by
  cases l with
  | nil => rfl
  | cons x l => have := (a.mem (x := x)).2 (by simp); cases this
theorem Srt.head {x : α} {l : List α} (s : Srt key (x :: l)) : ∀ y ∈ x :: l, key x ≤ key y := fun y hy => by
  rcases List.mem_cons.1 hy with rfl | hy
  · exact Int.le_refl _
  · exact (List.pairwise_cons.1 s).1 y hy
/-- There is one order. -/
theorem srt_one : ∀ {l m : List α}, Srt key l → Srt key m → Fil key l m → l = m
  | [], m, _, _, f => f.nil.symm
  | x :: l, [], _, _, f => f.symm.nil
  | x :: l, y :: m, a, b, f => by
    have e1 := a.head y (f.mem.2 (by simp))
    have e2 := b.head x (f.mem.1 (by simp))
    have e : key x = key y := by omega
    have hf := f (key x)
    rw [List.filter_cons_of_pos (by simp), List.filter_cons_of_pos (by simp [e])] at hf
    have hxy : x = y := (List.cons.inj hf).1
    subst hxy
    have f2 : Fil key l m := fun k => by
      have := f k
      by_cases hk : key x = k
      · rw [List.filter_cons_of_pos (by simp [hk]), List.filter_cons_of_pos (by simp [hk])] at this
        exact (List.cons.inj this).2
      · rwa [List.filter_cons_of_neg (by simp [hk]), List.filter_cons_of_neg (by simp [hk])] at this
    rw [srt_one (List.pairwise_cons.1 a).2 (List.pairwise_cons.1 b).2 f2]
theorem Fil.perm {l m : List α} [DecidableEq α] (f : Fil key l m) : l.Perm m := by
  rw [List.perm_iff_count]
  intro x
  have h : ∀ l : List α, l.count x = (l.filter fun y => decide (key y = key x)).count x := fun l => by
    rw [List.count_filter (by simp)]
  rw [h l, h m, f]
theorem Srt.app {l m : List α} (a : Srt key l) (b : Srt key m) (h : ∀ x ∈ l, ∀ y ∈ m, key x ≤ key y) : Srt key (l ++ m) := List.pairwise_append.2 ⟨a, b, h⟩
theorem Srt.left {l m : List α} (a : Srt key (l ++ m)) : Srt key l := (List.pairwise_append.1 a).1
theorem Srt.right {l m : List α} (a : Srt key (l ++ m)) : Srt key m := (List.pairwise_append.1 a).2.1
theorem Srt.cross {l m : List α} (a : Srt key (l ++ m)) : ∀ x ∈ l, ∀ y ∈ m, key x ≤ key y := (List.pairwise_append.1 a).2.2
/-- The order, step by step. -/
def ins (key : α → Int) (x : α) : List α → List α
  | [] => [x]
  | y :: l => if key x < key y then x :: y :: l else y :: ins key x l
def srt (key : α → Int) (l : List α) : List α := l.foldl (fun s x => ins key x s) []
theorem ins_fil (x : α) : ∀ l : List α, Srt key l → Fil key (l ++ [x]) (ins key x l)
  | [], _ => Fil.refl _
  | y :: l, s => by
    unfold ins
    split
    · rename_i h
      exact Fil.swap (l := y :: l) (m := [x]) fun z hz w hw => by
        have := s.head z hz; simp at hw; subst hw; omega
    · exact Fil.cons y (ins_fil x l (List.pairwise_cons.1 s).2)
theorem ins_srt (x : α) : ∀ l : List α, Srt key l → Srt key (ins key x l)
  | [], _ => by simp [ins, Srt]
  | y :: l, s => by
    have ih := ins_srt x l (List.pairwise_cons.1 s).2
    have hf := ins_fil x l (List.pairwise_cons.1 s).2
    unfold ins
    split
    · rename_i h
      exact List.pairwise_cons.2 ⟨fun z hz => by have := s.head z hz; omega, s⟩
    · rename_i h
      refine List.pairwise_cons.2 ⟨fun z hz => ?_, ih⟩
      have := hf.mem.2 hz
      rcases List.mem_append.1 this with hz | hz
      · exact s.head z (by simp [hz])
      · simp at hz; subst hz; omega
theorem srt_go : ∀ (l s : List α), Srt key s → Srt key (l.foldl (fun s x => ins key x s) s) ∧ Fil key (s ++ l) (l.foldl (fun s x => ins key x s) s)
  | [], s, h => ⟨h, by simp; exact Fil.refl _⟩
  | x :: l, s, h => by
    obtain ⟨a, b⟩ := srt_go l (ins key x s) (ins_srt x s h)
    refine ⟨a, ?_⟩
    have : Fil key (s ++ x :: l) (ins key x s ++ l) := by
      have e : s ++ x :: l = (s ++ [x]) ++ l := by simp
      rw [e]; exact (ins_fil x s h).app (Fil.refl l)
    exact this.trans b
theorem srt_srt (l : List α) : Srt key (srt key l) := (srt_go l [] List.Pairwise.nil).1
theorem srt_fil (l : List α) : Fil key l (srt key l) := (srt_go l [] List.Pairwise.nil).2
theorem srt_len (l : List α) : (srt key l).length = l.length := by
  have h : ∀ (x : α) (s : List α), (ins key x s).length = s.length + 1 := fun x s => by
    induction s with
    | nil => rfl
    | cons y s ih => unfold ins; split <;> simp [ih]
  have g : ∀ (l s : List α), (l.foldl (fun s x => ins key x s) s).length = s.length + l.length := fun l => by
    induction l with
    | nil => simp
    | cons x l ih => intro s; simp only [List.foldl_cons, ih, h, List.length_cons]; omega
  simpa [srt] using g l []
theorem Fil.length {l m : List α} (f : Fil key l m) : l.length = m.length := by
  have e : srt key l = srt key m := srt_one (srt_srt l) (srt_srt m) ((srt_fil l).symm.trans (f.trans (srt_fil m)))
  rw [← srt_len (key := key) l, e, srt_len]
theorem srt_of {l m : List α} (s : Srt key m) (f : Fil key l m) : m = srt key l := srt_one s (srt_srt l) (f.symm.trans (srt_fil l))
end
theorem Heap.set_self {h : Heap} {b : Nat} {cs : List PV} (e : h.f b = some cs) : h.set b cs = h := by
  apply Heap.ext'; intro x; by_cases e' : x = b
  · subst e'; simp [Heap.set, e]
  · simp [Heap.set, e']
/-- Half of a sum of two places. -/
theorem halfU {a c : Nat} (h : a + c ≤ 4000000) : IntKind.i64.wrap ((IntKind.u64.wrap ((a + c : Nat) : Int)).fdiv (2 ^ min 1 IntKind.u64.bits)) = (((a + c) / 2 : Nat) : Int) := by
  have h1 : IntKind.u64.wrap ((a + c : Nat) : Int) = ((a + c : Nat) : Int) := by
    have : IntKind.u64.wrap ((a + c : Nat) : Int) = ((a + c : Nat) : Int) % 18446744073709551616 := by simp [IntKind.wrap, IntKind.bits, IntKind.signed]
    rw [this]; omega
  have h2 : (2 ^ min 1 IntKind.u64.bits : Int) = 2 := by rfl
  rw [h1, h2, Int.fdiv_eq_ediv_of_nonneg _ (by decide), wrap_in (by omega) (by omega)]
  omega
section
variable {α : Type} [Inhabited α]
theorem get_mid (X : List α) (y : α) (Z : List α) : (X ++ y :: Z).getD X.length default = y := by simp [List.getD]
theorem get_mid1 (X : List α) (y x : α) (Z : List α) : (X ++ y :: x :: Z).getD (X.length + 1) default = x := by simp [List.getD, List.getElem?_append]
theorem set_two (X : List α) (y x u v : α) (Z : List α) : ((X ++ y :: x :: Z).set (X.length + 1) u).set X.length v = X ++ v :: u :: Z := by
  rw [List.set_append_right _ _ (by omega), List.set_append_right _ _ (by omega)]; simp
theorem set_two' (X : List α) (y x u v : α) (Z : List α) : ((X ++ y :: x :: Z).set X.length v).set (X.length + 1) u = X ++ v :: u :: Z := by
  rw [List.set_append_right _ _ (by omega), List.set_append_right _ _ (by omega)]; simp
theorem get_app (X : List α) (Y : List α) {i : Nat} (h : X.length ≤ i) : (X ++ Y).getD i default = Y.getD (i - X.length) default := by
  simp only [List.getD]; rw [List.getElem?_append_right h]
theorem get_left (X : List α) (Y : List α) {i : Nat} (h : i < X.length) : (X ++ Y).getD i default = X.getD i default := by
  simp only [List.getD]; rw [List.getElem?_append_left h]
theorem get_mem (X : List α) {i : Nat} (h : i < X.length) : X.getD i default ∈ X := by simp [List.getD, h]
variable {key : α → Int}
theorem srt_le {B : List α} (s : Srt key B) {p q : Nat} (h : p ≤ q) (hq : q < B.length) : key (B.getD p default) ≤ key (B.getD q default) := by
  by_cases e : p = q
  · subst e; exact Int.le_refl _
  · have := List.pairwise_iff_getElem.1 s p q (by omega) hq (by omega)
    simpa [List.getD, hq, show p < B.length by omega] using this
theorem mem_take_get {B : List α} {n : Nat} {x : α} (h : x ∈ B.take n) : ∃ p, p < n ∧ p < B.length ∧ x = B.getD p default := by
  obtain ⟨p, hp, e⟩ := List.mem_iff_getElem.1 h
  rw [List.length_take] at hp
  exact ⟨p, by omega, by omega, by rw [← e, List.getElem_take]; simp [List.getD, show p < B.length by omega]⟩
theorem mem_drop_get {B : List α} {n : Nat} {x : α} (h : x ∈ B.drop n) : ∃ p, n ≤ p ∧ p < B.length ∧ x = B.getD p default := by
  obtain ⟨p, hp, e⟩ := List.mem_iff_getElem.1 h
  rw [List.length_drop] at hp
  exact ⟨n + p, by omega, by omega, by rw [← e, List.getElem_drop]; simp [List.getD, show n + p < B.length by omega]⟩
end
section
variable {α : Type} [Inhabited α] {key : α → Int}
theorem mergeL (x : α) (B : List α) (t : Nat) (sB : Srt key B) (ht : t ≤ B.length) (h1 : t = 0 ∨ key (B.getD (t - 1) default) < key x) (h2 : t = B.length ∨ ¬ key (B.getD t default) < key x) :
    Srt key (B.take t ++ x :: B.drop t) ∧ Fil key ([x] ++ B) (B.take t ++ x :: B.drop t) := by
  have c1 : ∀ y ∈ B.take t, key y < key x := fun y hy => by
    obtain ⟨p, p1, p2, rfl⟩ := mem_take_get hy
    have := srt_le sB (show p ≤ t - 1 by omega) (by omega)
    rcases h1 with h | h <;> omega
  have c2 : ∀ y ∈ B.drop t, key x ≤ key y := fun y hy => by
    obtain ⟨p, p1, p2, rfl⟩ := mem_drop_get hy
    have := srt_le sB (show t ≤ p by omega) (by omega)
    rcases h2 with h | h <;> omega
  have e : B = B.take t ++ B.drop t := (List.take_append_drop t B).symm
  have sB' := sB
  rw [e] at sB'
  refine ⟨sB'.left.app (List.pairwise_cons.2 ⟨c2, sB'.right⟩) fun y hy z hz => ?_, ?_⟩
  · rcases List.mem_cons.1 hz with rfl | hz
    · have := c1 y hy; omega
    · exact sB'.cross y hy z hz
  · have f : Fil key ([x] ++ B.take t) (B.take t ++ [x]) := Fil.swap fun z hz y hy => by simp at hz; subst hz; exact c1 y hy
    have := f.app (Fil.refl (B.drop t))
    rw [List.append_assoc, List.take_append_drop, List.append_assoc] at this
    exact this
theorem mergeR (y : α) (A : List α) (t : Nat) (sA : Srt key A) (ht : t ≤ A.length) (h1 : t = 0 ∨ ¬ key y < key (A.getD (t - 1) default)) (h2 : t = A.length ∨ key y < key (A.getD t default)) :
    Srt key (A.take t ++ y :: A.drop t) ∧ Fil key (A ++ [y]) (A.take t ++ y :: A.drop t) := by
  have c1 : ∀ z ∈ A.take t, key z ≤ key y := fun z hz => by
    obtain ⟨p, p1, p2, rfl⟩ := mem_take_get hz
    have := srt_le sA (show p ≤ t - 1 by omega) (by omega)
    rcases h1 with h | h <;> omega
  have c2 : ∀ z ∈ A.drop t, key y < key z := fun z hz => by
    obtain ⟨p, p1, p2, rfl⟩ := mem_drop_get hz
    have := srt_le sA (show t ≤ p by omega) (by omega)
    rcases h2 with h | h <;> omega
  have e : A = A.take t ++ A.drop t := (List.take_append_drop t A).symm
  have sA' := sA
  rw [e] at sA'
  refine ⟨sA'.left.app (List.pairwise_cons.2 ⟨fun z hz => by have := c2 z hz; omega, sA'.right⟩) fun z hz w hw => ?_, ?_⟩
  · rcases List.mem_cons.1 hw with rfl | hw
    · exact c1 z hz
    · exact sA'.cross z hz w hw
  · have f : Fil key (A.drop t ++ [y]) ([y] ++ A.drop t) := Fil.swap fun z hz w hw => by simp at hw; subst hw; exact c2 z hz
    have := (Fil.refl (A.take t)).app f
    rw [← List.append_assoc, List.take_append_drop] at this
    exact this
theorem merge2 (A B : List α) (s u : Nat) (sA : Srt key A) (sB : Srt key B) (hs : s ≤ A.length) (hu : u ≤ B.length) (h1 : s = 0 ∨ u = B.length ∨ key (A.getD (s - 1) default) ≤ key (B.getD u default))
    (h2 : s = A.length ∨ u = 0 ∨ key (B.getD (u - 1) default) < key (A.getD s default)) :
    (∀ x ∈ A.take s, ∀ y ∈ B.drop u, key x ≤ key y) ∧ (∀ y ∈ B.take u, ∀ x ∈ A.drop s, key y < key x) := by
  constructor
  · intro x hx y hy
    obtain ⟨p, p1, p2, rfl⟩ := mem_take_get hx
    obtain ⟨q, q1, q2, rfl⟩ := mem_drop_get hy
    have e1 := srt_le sA (show p ≤ s - 1 by omega) (by omega)
    have e2 := srt_le sB q1 q2
    rcases h1 with h | h | h <;> omega
  · intro y hy x hx
    obtain ⟨p, p1, p2, rfl⟩ := mem_take_get hy
    obtain ⟨q, q1, q2, rfl⟩ := mem_drop_get hx
    have e1 := srt_le sB (show p ≤ u - 1 by omega) (by omega)
    have e2 := srt_le sA q1 q2
    rcases h2 with h | h | h <;> omega
theorem merge3 {A1 A2 B1 B2 S1 S2 : List α} (s1 : Srt key S1) (f1 : Fil key (A1 ++ B1) S1) (s2 : Srt key S2) (f2 : Fil key (A2 ++ B2) S2) (sA : Srt key (A1 ++ A2)) (sB : Srt key (B1 ++ B2))
    (c1 : ∀ x ∈ A1, ∀ y ∈ B2, key x ≤ key y) (c2 : ∀ y ∈ B1, ∀ x ∈ A2, key y < key x) : Srt key (S1 ++ S2) ∧ Fil key ((A1 ++ A2) ++ (B1 ++ B2)) (S1 ++ S2) := by
  refine ⟨s1.app s2 fun x hx y hy => ?_, ?_⟩
  · rcases List.mem_append.1 (f1.mem.2 hx) with hx | hx <;> rcases List.mem_append.1 (f2.mem.2 hy) with hy | hy
    · exact sA.cross x hx y hy
    · exact c1 x hx y hy
    · have := c2 x hx y hy; omega
    · exact sB.cross x hx y hy
  · have f0 : Fil key (A2 ++ B1) (B1 ++ A2) := Fil.swap fun x hx y hy => c2 y hy x hx
    have f3 := (((Fil.refl A1).app f0).app (Fil.refl B2))
    have f4 := f1.app f2
    have e1 : A1 ++ A2 ++ (B1 ++ B2) = A1 ++ (A2 ++ B1) ++ B2 := by simp
    have e2 : A1 ++ B1 ++ (A2 ++ B2) = A1 ++ (B1 ++ A2) ++ B2 := by simp
    rw [e1]
    rw [e2] at f4
    exact f3.trans f4
end
/-! ### Blocks -/
section
variable {α : Type} [Inhabited α] {key : α → Int}
def blkL (L : List α) (q w : Nat) : List α := (L.drop (q * w)).take w
def BOk (key : α → Int) (l L : List α) (w q : Nat) : Prop := Fil key (blkL l q w) (blkL L q w) ∧ Srt key (blkL L q w)
theorem blk_left {X Q : List α} {q w : Nat} (h : (q + 1) * w ≤ X.length) : blkL (X ++ Q) q w = blkL X q w := by
  rw [Nat.add_mul] at h
  unfold blkL
  rw [List.drop_append_of_le_length (by omega), List.take_append_of_le_length (by rw [List.length_drop]; omega)]
theorem blk_far {X Y Q : List α} {q w : Nat} (h : X.length = Y.length) (h2 : X.length ≤ q * w) : blkL (X ++ Q) q w = blkL (Y ++ Q) q w := by
  unfold blkL
  rw [List.drop_append, List.drop_append, List.drop_eq_nil_of_le h2, List.drop_eq_nil_of_le (as := Y) (by omega), h]
theorem blk_at {P S Q : List α} {q w : Nat} (h : P.length = q * w) (hS : S.length = w ∨ (S.length ≤ w ∧ Q = [])) : blkL (P ++ S ++ Q) q w = S := by
  unfold blkL
  rw [List.append_assoc, List.drop_left' h]
  rcases hS with hS | ⟨hS, rfl⟩
  · rw [List.take_left' hS]
  · rw [List.append_nil, List.take_of_length_le hS]
theorem blk_two (L : List α) (q w : Nat) : blkL L q (2 * w) = blkL L (2 * q) w ++ blkL L (2 * q + 1) w := by
  unfold blkL
  rw [show 2 * w = w + w by omega, List.take_add, List.drop_drop, show q * (w + w) = 2 * q * w by rw [Nat.mul_add, Nat.mul_assoc, Nat.two_mul], show 2 * q * w + w = (2 * q + 1) * w by rw [Nat.add_mul]; omega]
theorem blk_nil {L : List α} {q w : Nat} (h : L.length ≤ q * w) : blkL L q w = [] := by
  unfold blkL; rw [List.drop_eq_nil_of_le h]; simp
theorem blk_len {L : List α} {q w : Nat} (h : (q + 1) * w ≤ L.length) : (blkL L q w).length = w := by
  rw [Nat.add_mul] at h
  unfold blkL; rw [List.length_take, List.length_drop]; omega
theorem blk_one {L : List α} {q w : Nat} (h : L.length ≤ (q + 1) * w) : blkL L q w = L.drop (q * w) := by
  rw [Nat.add_mul] at h
  unfold blkL; rw [List.take_of_length_le]; rw [List.length_drop]; omega
theorem BOk.nil {l L : List α} {q w : Nat} (h : l.length = L.length) (h2 : L.length ≤ q * w) : BOk key l L w q := by
  unfold BOk; rw [blk_nil h2, blk_nil (h ▸ h2)]; exact ⟨Fil.refl _, List.Pairwise.nil⟩
/-- A block that is put in order by itself. -/
theorem BOk.sort {l P A S Q : List α} {q w : Nat} (h : P.length = q * w) (hA : A.length = w ∨ (A.length ≤ w ∧ Q = [])) (e : blkL l q w = A) (s : Srt key S) (f : Fil key A S) : BOk key l (P ++ S ++ Q) w q := by
  have hl := f.length
  have : blkL (P ++ S ++ Q) q w = S := blk_at h (by rcases hA with h | h; exact .inl (by omega); exact .inr ⟨by omega, h.2⟩)
  unfold BOk; rw [this, e]; exact ⟨f, s⟩
/-- Two blocks that become one. -/
theorem BOk.merge {l L P S Q : List α} {q w : Nat} (h : P.length = q * (2 * w)) (a : BOk key l L w (2 * q)) (b : BOk key l L w (2 * q + 1)) (hS : S.length = 2 * w ∨ (S.length ≤ 2 * w ∧ Q = [])) (s : Srt key S) (f : Fil key (blkL L (2 * q) w ++ blkL L (2 * q + 1) w) S) : BOk key l (P ++ S ++ Q) (2 * w) q := by
  unfold BOk
  rw [blk_at h hS, blk_two]
  exact ⟨(a.1.app b.1).trans f, s⟩
theorem BOk.left {l X Q R : List α} {q w : Nat} (h : (q + 1) * w ≤ X.length) (e : BOk key l (X ++ Q) w q) : BOk key l (X ++ R) w q := by
  unfold BOk at *; rw [blk_left h] at *; exact e
theorem BOk.far {l X Y Q : List α} {q w : Nat} (h : X.length = Y.length) (h2 : X.length ≤ q * w) (e : BOk key l (X ++ Q) w q) : BOk key l (Y ++ Q) w q := by
  unfold BOk at *; rw [← blk_far h h2]; exact e
end
theorem split3 {α : Type} (L : List α) (a w : Nat) (h : a + w ≤ L.length) : ∃ P A Q, L = P ++ A ++ Q ∧ P.length = a ∧ A.length = w :=
  ⟨L.take a, (L.drop a).take w, L.drop (a + w), by rw [List.append_assoc, ← List.drop_drop, List.take_append_drop, List.take_append_drop], by rw [List.length_take]; omega, by rw [List.length_take, List.length_drop]; omega⟩
theorem split2 {α : Type} (L : List α) (a : Nat) (h : a ≤ L.length) : ∃ P A, L = P ++ A ∧ P.length = a := ⟨L.take a, L.drop a, (List.take_append_drop _ _).symm, by rw [List.length_take]; omega⟩
end Go.Pm
