/-
  An abstract machine over pure values, part G: one operation, and calls.
  Conditions: none.
-/
import Derived.Test.YtdllafendiaplaaPmF
import Derived.Deep.LoopGhost
namespace Go.Pm
set_option linter.unusedVariables false
set_option linter.unusedSimpArgs false
open Go.RowKit

/-- A call of `f` comes back with what `K` tells of, whatever the memory is that the arguments are read in. -/
def CanP (P : Program) (f : FuncId) (args : List PV) (h : Heap) (K : PV → Heap → Prop) : Prop :=
  (∃ fn, P.funcs[f]? = some fn ∧ (fn.name == "runtime.NumGoroutine") = false ∧ fn.body.isNone = false) ∧
  ∀ (w : World) (cargs : Array Value), WR w h 0 → TR w h 0 args cargs.toList →
    Calls P f cargs w fun e w' => ∃ v c h', e = .returned c ∧ St w h w' h' ∧ WR w' h' 0 ∧ VR w' h' w.heap.size v c ∧ K v h'

theorem CanP.mono {P : Program} {f : FuncId} {args : List PV} {h : Heap} {K K' : PV → Heap → Prop} (c : CanP P f args h K) (hk : ∀ v h', K v h' → K' v h') : CanP P f args h K' :=
  ⟨c.1, fun w cargs hw ha => (c.2 w cargs hw ha).mono fun e w' ⟨v, x, h', q1, q2, q3, q4, q5⟩ => ⟨v, x, h', q1, q2, q3, q4, hk v h' q5⟩⟩

/-- What an operation that only computes yields. -/
def dv (P : Program) (o : Op) (σ : Nat → PV) : Option PV :=
  match o with
  | .move x | .assign x => some (ev σ x)
  | .pick c a b => match ev σ c with | .bool t => some (if t then ev σ a else ev σ b) | _ => none
  | .nilCheck x => match ev σ x with | .ptr b o => some (.ptr b o) | .fptr fr cs o => some (.fptr fr cs o) | _ => none
  | .binOp op t x y _ => bin P op t (ev σ x) (ev σ y)
  | .unOp op _ x => un op (ev σ x)
  | .convert s d x => cv P s d (ev σ x)
  | .fieldAddr t x f => fa P t (ev σ x) f
  | .field t x f => fd P t (ev σ x) f
  | .indexAddr t x i => ixa P t (ev σ x) (ev σ i)
  | .index t x i => ixv P t (ev σ x) (ev σ i)
  | .slice t x lo hi none => slc P t (ev σ x) (lo.map (ev σ)) (hi.map (ev σ))
  | .extract x i => match ev σ x with | .tup cs => cs[i]? | _ => none
  | .makeFunc (.func f) first caps => some (.fn f (first.toList.map (ev σ)) (caps.toList.map (ev σ)))
  | .build t ps => bld P t (ps.toList.map fun p => (p.1, ev σ p.2))
  | .call ⟨.builtin .len, args, ts⟩ => match ts.toList, args.toList with
    | [t], [x] => if lenOk P t (ev σ x) then lenv (ev σ x) else none
    | _, _ => none
  | .call ⟨.builtin .cap, args, ts⟩ => match ts.toList, args.toList with
    | [t], [x] => capv P t (ev σ x)
    | _, _ => none
  | .call ⟨.builtin .min, args, _⟩ => minv (args.toList.map (ev σ))
  | .call ⟨.builtin .max, args, _⟩ => maxv (args.toList.map (ev σ))
  | _ => none

section
variable {P : Program} {w : World} {h : Heap} {N : Nat}

theorem TR.map {σ : Nat → PV} {ρ : Operand → Value} : ∀ (l : List Operand), (∀ x ∈ l, VR w h N (ev σ x) (ρ x)) → TR w h N (l.map (ev σ)) (l.map ρ)
  | [], _ => by simp [TR]
  | x :: l, hl => by
    simp only [List.map_cons, TR]
    exact ⟨_, _, rfl, hl x (by simp), TR.map l fun y hy => hl y (by simp [hy])⟩
theorem PartsR.map {σ : Nat → PV} {ρ : Operand → Value} : ∀ (l : List (Nat × Operand)), (∀ p ∈ l, VR w h N (ev σ p.2) (ρ p.2)) → PartsR w h N (l.map fun p => (p.1, ev σ p.2)) (l.map fun p => (p.1, ρ p.2))
  | [], _ => .nil
  | p :: l, hl => .cons (hl p (by simp)) (PartsR.map l fun y hy => hl y (by simp [hy]))

theorem dv_sound {o : Oper} {ρ : Operand → Value} {σ : Nat → PV} {v : PV} (hx : ∀ x ∈ o.op.operands, VR w h N (ev σ x) (ρ x)) (e : dv P o.op σ = some v) :
    ∃ c, (execOp ρ o).run P w = .ok (.value c) w ∧ VR w h N v c := by
  obtain ⟨dst, op, type, pos, after, guard⟩ := o
  simp only at hx e
  unfold dv at e
  split at e
  · cases e; exact ⟨_, by simp [execOp], hx _ (by simp [Op.operands])⟩
  · cases e; exact ⟨_, by simp [execOp], hx _ (by simp [Op.operands])⟩
  · rename_i c a b
    have hc := hx c (by simp [Op.operands])
    split at e
    · rename_i t ht
      cases e
      rw [ht] at hc
      simp only [VR] at hc
      refine ⟨if t then ρ a else ρ b, by simp [execOp, hc, asBool], ?_⟩
      cases t
      · exact hx b (by simp [Op.operands])
      · exact hx a (by simp [Op.operands])
    · cases e
  · rename_i x
    have hc := hx x (by simp [Op.operands])
    split at e
    · rename_i b o ht
      cases e
      rw [ht] at hc
      have hc' := hc
      simp only [VR] at hc
      exact ⟨ρ x, by simp [execOp, hc], hc'⟩
    · rename_i fr cs o ht
      cases e
      rw [ht] at hc
      have hc' := hc
      simp only [VR] at hc
      obtain ⟨b, o', vs, hc, _⟩ := hc
      exact ⟨ρ x, by simp [execOp, hc], hc'⟩
    · cases e
  · rename_i op' t x y yt
    obtain ⟨q1, c, q2, q3⟩ := bin_sound (hx x (by simp [Op.operands])) (hx y (by simp [Op.operands])) e
    exact ⟨c, by simp [execOp, q1, q2], q3⟩
  · rename_i op' t x
    obtain ⟨c, q2, q3⟩ := un_sound (P := P) (hx x (by simp [Op.operands])) e
    exact ⟨c, by simp [execOp, q2], q3⟩
  · rename_i s d x
    obtain ⟨c, q2, q3⟩ := cv_sound (hx x (by simp [Op.operands])) e
    exact ⟨c, by simp [execOp, q2], q3⟩
  · rename_i t x f
    obtain ⟨c, q2, q3⟩ := fa_sound (hx x (by simp [Op.operands])) e
    exact ⟨c, by simp [execOp, q2], q3⟩
  · rename_i t x f
    obtain ⟨c, q2, q3⟩ := fd_sound (hx x (by simp [Op.operands])) e
    exact ⟨c, by simp [execOp, q2], q3⟩
  · rename_i t x i
    obtain ⟨c, q2, q3⟩ := ixa_sound (hx x (by simp [Op.operands])) (hx i (by simp [Op.operands])) e
    exact ⟨c, by simp [execOp, q2], q3⟩
  · rename_i t x i
    obtain ⟨c, q2, q3⟩ := ixv_sound (hx x (by simp [Op.operands])) (hx i (by simp [Op.operands])) e
    exact ⟨c, by simp [execOp, q2], q3⟩
  · rename_i t x lo hi
    have o1 : OR w h N (lo.map (ev σ)) (lo.map ρ) := by
      cases lo with
      | none => simp [OR]
      | some y => simp only [Option.map_some, OR]; exact hx y (by simp [Op.operands])
    have o2 : OR w h N (hi.map (ev σ)) (hi.map ρ) := by
      cases hi with
      | none => simp [OR]
      | some y => simp only [Option.map_some, OR]; exact hx y (by simp [Op.operands])
    obtain ⟨c, q2, q3⟩ := slc_sound (hx x (by simp [Op.operands])) o1 o2 e
    exact ⟨c, by simp [execOp, q2], q3⟩
  · rename_i x i
    have hc := hx x (by simp [Op.operands])
    split at e
    · rename_i cs ht
      rw [ht] at hc
      simp only [VR] at hc
      obtain ⟨vs, hv, ht⟩ := hc
      obtain ⟨c, q1, q2⟩ := ht.get i e
      have q1' : vs[i]? = some c := by simpa using q1
      exact ⟨c, by simp [execOp, Instr.extract, hv, q1'], q2⟩
    · cases e
  · rename_i f first caps
    cases e
    refine ⟨.func (.func f) (first.map ρ) (caps.map ρ), by simp [execOp, Instr.makeFunc], ?_⟩
    simp only [VR]
    exact ⟨_, _, rfl, by simpa using TR.map first.toList fun x hm => hx x (by simp [Op.operands]; exact .inl (by simpa using hm)), by simpa using TR.map caps.toList fun x hm => hx x (by simp [Op.operands]; exact .inr (by simpa using hm))⟩
  · rename_i t ps
    have hp : PartsR w h N (ps.toList.map fun p => (p.1, ev σ p.2)) ((ps.map fun p => (p.1, ρ p.2)).toList) := by
      rw [Array.toList_map]
      exact PartsR.map ps.toList fun p hm => hx p.2 (by simp [Op.operands]; exact ⟨p.1, by simpa using hm⟩)
    obtain ⟨c, q2, q3⟩ := bld_sound hp e
    exact ⟨c, by simp [execOp, q2], q3⟩
  · rename_i args ts
    split at e
    · rename_i t x ht hxs
      split at e
      · rename_i hok
        have ea : args = #[x] := by apply Array.ext'; simpa using hxs
        have et : ts = #[t] := by apply Array.ext'; simpa using ht
        subst ea et
        obtain ⟨c, q2, q3⟩ := len_sound (ty := type) (hx x (by simp [Op.operands, Call.operands])) hok e
        exact ⟨c, by simp [execOp, resolve, invoke, builtin, q2], q3⟩
      · cases e
    · cases e
  · rename_i args ts
    split at e
    · rename_i t x ht hxs
      have ea : args = #[x] := by apply Array.ext'; simpa using hxs
      have et : ts = #[t] := by apply Array.ext'; simpa using ht
      subst ea et
      obtain ⟨c, q2, q3⟩ := cap_sound (ty := type) (hx x (by simp [Op.operands, Call.operands])) e
      exact ⟨c, by simp [execOp, resolve, invoke, builtin, q2], q3⟩
    · cases e
  · rename_i args ts
    obtain ⟨c, q2, q3⟩ := min_sound (P := P) (ts := ts) (ty := type) (as := args.map ρ) (by rw [Array.toList_map]; exact TR.map args.toList fun x hm => hx x (by simpa [Op.operands, Call.operands] using hm)) e
    exact ⟨c, by simp [execOp, resolve, invoke, builtin, q2], q3⟩
  · rename_i args ts
    obtain ⟨c, q2, q3⟩ := max_sound (P := P) (ts := ts) (ty := type) (as := args.map ρ) (by rw [Array.toList_map]; exact TR.map args.toList fun x hm => hx x (by simpa [Op.operands, Call.operands] using hm)) e
    exact ⟨c, by simp [execOp, resolve, invoke, builtin, q2], q3⟩
  · cases e
end

/-- What a slice literal holds. -/
def bsl (P : Program) (t : TypeId) (n : Nat) (ps : List (Nat × PV)) : Option (Nat × List PV) :=
  match elt P t with
  | some el => match tsz P el, zc P el with
    | some E, some z => if z.length = E ∧ n * E ≤ 16777216 ∧ n ≤ 16777216 then (pfill (fun i => some (i * E, E)) (rep n z) ps).map fun cs => (E, cs) else none
    | _, _ => none
  | none => none
/-- An element type's size, bytes, zero. -/
def eli (P : Program) (t : TypeId) : Option (Nat × Nat × List PV) :=
  match elt P t with
  | some el => match P.info? el, zc P el with
    | some i, some z => if z.length = i.size then some (i.size, i.bytes, z) else none
    | _, _ => none
  | none => none

/-- What a copy of `m` elements does. -/
def cpv (d : PV) (E m : Nat) (new : List PV) (K : PV → Heap → Prop) (h : Heap) : Prop :=
  match d with
  | .nils => K (.int .i64 0) h
  | .list _ _ n _ => n = 0 ∧ K (.int .i64 0) h
  | .buf b E' off n => E' = E ∧ new.length = m * E ∧ ∃ cs, h.f b = some cs ∧ off + n * E ≤ cs.length ∧ K (.int .i64 (min m n : Nat)) (h.set b (wr cs off (new.take (min m n * E))))
  | _ => False
theorem cpv_mono {d : PV} {E m : Nat} {new : List PV} {K K' : PV → Heap → Prop} {h : Heap} (hk : ∀ v h', K v h' → K' v h') (hp : cpv d E m new K h) : cpv d E m new K' h := by
  unfold cpv at hp ⊢
  split <;> simp only at hp
  · exact hk _ _ hp
  · exact ⟨hp.1, hk _ _ hp.2⟩
  · obtain ⟨a, b, cs, c, d, e⟩ := hp; exact ⟨a, b, cs, c, d, hk _ _ e⟩
theorem cpv_some {d : PV} {E m : Nat} {new : List PV} {K : PV → Heap → Prop} {h : Heap} (hp : cpv d E m new K h) : ∃ v h', K v h' := by
  unfold cpv at hp
  split at hp
  · exact ⟨_, _, hp⟩
  · exact ⟨_, _, hp.2⟩
  · obtain ⟨a, b, cs, c, d, e⟩ := hp; exact ⟨_, _, e⟩
  · exact hp.elim
/-- One operation, as it is carried out in a region that does not draw its order. -/
def popv (P : Program) (o : Op) (σ : Nat → PV) (h : Heap) (K : PV → Heap → Prop) : Prop :=
  match o with
  | .load t a => ∃ v, ldp P h t (ev σ a) = some v ∧ K v h
  | .store t a x => ∃ h', stp P h t (ev σ a) (ev σ x) = some h' ∧ K .undef h'
  | .box t x => ∃ cs, flat (ev σ x) = some cs ∧ (K (.fptr true cs 0) h ∨ ∀ b, h.f b = none → K (.ptr b 0) (h.set b cs))
  | .alloc t => ∃ z, zc P t = some z ∧ (K (.fptr true z 0) h ∨ ∀ b, h.f b = none → K (.ptr b 0) (h.set b z))
  | .buildSlice t n ps => ∃ r, bsl P t n (ps.toList.map fun p => (p.1, ev σ p.2)) = some r ∧
      (K (.list true r.1 n r.2) h ∨ ∀ b, h.f b = none → K (.buf b r.1 0 n) (h.set b r.2))
  | .makeSlice t l c => ∃ r kl nl kc nc, eli P t = some r ∧ ev σ l = .int kl nl ∧ ev σ c = .int kc nc ∧ 0 ≤ nl ∧ nl ≤ nc ∧ (r.2.1 : Int) * nc ≤ 281474976710656 ∧ nc ≤ 9223372036854775807 ∧
      ∀ b, h.f b = none → K (.buf b r.1 0 nl.toNat) (h.set b (rep nl.toNat r.2.2))
  | .call ⟨.value f, args, _⟩ => match ev σ f with
    | .fn g first caps => CanP P g (first ++ args.toList.map (ev σ) ++ caps) h K
    | _ => False
  | .call ⟨.builtin .append, args, ts⟩ => match args.toList, ts.toList with
    | [s, x], [t, tx] => ∃ r m new, eli P t = some r ∧ srcv P h r.1 tx (ev σ x) = some (m, new) ∧
        match ev σ s with
        | .nils => m * r.2.1 ≤ 140737488355328 ∧ m ≤ maxLen ∧ if m = 0 then K .nils h else ∀ b, h.f b = none → K (.buf b r.1 0 m) (h.set b new)
        | .buf b E off n => E = r.1 ∧ off = 0 ∧ (n + m) * r.2.1 ≤ 140737488355328 ∧ n + m ≤ maxLen ∧ ∃ cs, h.f b = some cs ∧ n * E ≤ cs.length ∧
            ∀ b', (b' = b ∨ h.f b' = none) → K (.buf b' E 0 (n + m)) ((h.kill b).set b' (cs.take (n * E) ++ new))
        | _ => False
    | _, _ => False
  | .call ⟨.builtin .copy, args, ts⟩ => match args.toList, ts.toList with
    | [d, x], [t, tx] => ∃ E m new, (elt P t).bind (tsz P) = some E ∧ srcv P h E tx (ev σ x) = some (m, new) ∧ cpv (ev σ d) E m new K h
    | _, _ => False
  | o => ∃ v, dv P o σ = some v ∧ K v h
end Go.Pm
