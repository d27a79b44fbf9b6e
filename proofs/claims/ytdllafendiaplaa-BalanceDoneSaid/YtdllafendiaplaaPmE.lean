/-
  An abstract machine over pure values, part E: cuts, what is built, lengths.
  Conditions: none.
-/
import Derived.Test.YtdllafendiaplaaPmD
namespace Go.Pm
set_option linter.unusedVariables false
set_option linter.unusedSimpArgs false
section
variable {P : Program} {w : World} {h : Heap} {N : Nat}

/-- A part of a cut that may be absent. -/
def OR (w : World) (h : Heap) (N : Nat) : Option PV → Option Value → Prop
  | none, none => True
  | some c, some v => VR w h N c v
  | _, _ => False

theorem cutB_sound {n c : Nat} {isS : Bool} {lo hi : Option PV} {l k : Option Value} {p : Nat × Nat} (hl : OR w h N lo l) (hk : OR w h N hi k) (hc : n ≤ c) (e : cutB n lo hi = some p) :
    (Instr.sliceBounds isS n c l k none).run P w = .ok (p.1, p.2, c) w ∧ p.1 ≤ p.2 ∧ p.2 ≤ n := by
  unfold cutB at e
  split at e
  · cases e
    cases l <;> cases k <;> simp only [OR] at hl hk
    exact ⟨by simp [Instr.sliceBounds], by simp, by simp⟩
  · rename_i kk i
    cases l <;> cases k <;> simp only [OR, VR] at hl hk
    subst hl
    split at e
    · cases e
      rename_i q
      exact ⟨by simp [Instr.sliceBounds, Instr.sliceBound, asIntOf, q], by simp; omega, by simp⟩
    · cases e
  · rename_i kk i
    cases l <;> cases k <;> simp only [OR, VR] at hl hk
    subst hk
    split at e
    · cases e
      rename_i q
      have q2 : i ≤ (c : Int) := by omega
      exact ⟨by simp [Instr.sliceBounds, Instr.sliceBound, asIntOf, q, q2], by simp, by simp; omega⟩
    · cases e
  · rename_i k1 i k2 j
    cases l <;> cases k <;> simp only [OR, VR] at hl hk
    subst hl hk
    split at e
    · cases e
      rename_i q
      have q2 : j ≤ (c : Int) := by omega
      have q3 : 0 ≤ j := by omega
      have q4 : i ≤ j.toNat := by omega
      have q5 : ¬ (max j 0 < i) := by omega
      exact ⟨by simp [Instr.sliceBounds, Instr.sliceBound, asIntOf, q.1, q2, q3, q4, q5], by simp; omega, by simp; omega⟩
    · cases e
  · cases e

theorem slc_sound {t : TypeId} {x v : PV} {lo hi : Option PV} {a : Value} {l k : Option Value} (hx : VR w h N x a) (hl : OR w h N lo l) (hk : OR w h N hi k) (e : slc P t x lo hi = some v) :
    ∃ c, (Instr.sliceAt t a l k none).run P w = .ok c w ∧ VR w h N v c := by
  unfold slc at e
  split at e
  · -- a string
    rename_i s
    split at e
    · rename_i hu
      simp only [VR] at hx; subst hx
      cases hp : cutB s.size lo hi with
      | none => simp [hp] at e
      | some p =>
        simp only [hp, Option.map_some, Option.some.injEq] at e
        subst e
        obtain ⟨q1, q2, q3⟩ := cutB_sound (P := P) (isS := false) hl hk (Nat.le_refl _) hp
        exact ⟨_, by simp [Instr.sliceAt, Instr.slice, run_underlying hu, q1]; rfl, by simp only [VR]⟩
    · cases e
  · -- nil
    split at e
    · rename_i hu
      simp only [VR] at hx; subst hx
      cases hp : cutB 0 lo hi with
      | none => simp [hp] at e
      | some p =>
        simp only [hp, Option.map_some, Option.some.injEq] at e
        subst e
        obtain ⟨q1, q2, q3⟩ := cutB_sound (P := P) (isS := true) hl hk (Nat.le_refl _) hp
        obtain ⟨E, hE⟩ := Option.isSome_iff_exists.1 hu
        obtain ⟨el, hd, hs⟩ := elt_spec hE
        refine ⟨.slice none 0 0, ?_, by simp only [VR]⟩
        have hp2 : p.2 = 0 := by omega
        have hp1 : p.1 = 0 := by omega
        simp [Instr.sliceAt, Instr.slice, run_underlying hd, q1, sizeOf_run hs, hp1, hp2]
    · cases e
  · -- a list
    rename_i fr E n cs
    split at e
    · rename_i hE
      obtain ⟨el, hu, hs⟩ := elt_spec hE
      simp only [VR] at hx
      obtain ⟨a', c, vs, rfl, r1, r2, r3, r4⟩ := hx
      cases hp : cutB n lo hi with
      | none => simp [hp] at e
      | some p =>
        simp only [hp, Option.map_some, Option.some.injEq] at e
        subst e
        obtain ⟨q1, q2, q3⟩ := cutB_sound (P := P) (isS := true) hl hk r1 hp
        refine ⟨.slice (if c = p.1 then a' else a'.map (·.add (p.1 * E))) (p.2 - p.1) (c - p.1), by simp [Instr.sliceAt, Instr.slice, run_underlying hu, q1, sizeOf_run hs], ?_⟩
        simp only [VR]
        refine ⟨_, _, (vs.drop (p.1 * E)).take ((p.2 - p.1) * E), rfl, by omega, ?_, (r3.drop _).take _, ?_⟩
        · simp only [List.length_take, List.length_drop, r2]
          have : p.1 * E + (p.2 - p.1) * E ≤ n * E := by rw [← Nat.add_mul]; exact Nat.mul_le_mul_right _ (by omega)
          omega
        · by_cases hz : p.2 - p.1 = 0
          · exact .inl hz
          · rcases r4 with r4 | ⟨b, o, rfl, r5, r6, r7, r8⟩
            · omega
            · refine .inr ⟨b, o + p.1 * E, ?_, r5, r6, r7, ?_⟩
              · rw [if_neg (by omega)]; simp [Addr.add_mid]
              · intro i v hi
                rw [List.getElem?_take] at hi
                split at hi
                · rw [List.getElem?_drop] at hi
                  have := r8 _ _ hi
                  rwa [← Nat.add_assoc] at this
                · cases hi
    · cases e
  · -- a live block
    rename_i b E off n
    split at e
    · rename_i hE
      obtain ⟨el, hu, hs⟩ := elt_spec hE
      simp only [VR] at hx
      obtain ⟨c, rfl, r1, r2, r3⟩ := hx
      cases hp : cutB n lo hi with
      | none => simp [hp] at e
      | some p =>
        simp only [hp, Option.bind_some] at e
        obtain ⟨q1, q2, q3⟩ := cutB_sound (P := P) (isS := true) hl hk r1 hp
        have hrun : (Instr.sliceAt t (.slice (some ⟨b, off, none⟩) n c) l k none).run P w = .ok (.slice (if c = p.1 then some ⟨b, off, none⟩ else some ⟨b, off + p.1 * E, none⟩) (p.2 - p.1) (c - p.1)) w := by
          simp [Instr.sliceAt, Instr.slice, run_underlying hu, q1, sizeOf_run hs, Addr.add_mid]
        obtain ⟨cells, t', fz, s1, s2⟩ := r3
        refine ⟨_, hrun, ?_⟩
        by_cases h0 : p.1 = 0
        · simp only [h0, if_true, Option.some.injEq] at e
          subst e
          simp only [VR, h0, Nat.sub_zero, Nat.zero_mul, Nat.add_zero, ite_self]
          exact ⟨c, rfl, by omega, r2, cells, t', fz, s1, s2⟩
        · simp only [h0, if_false] at e
          by_cases h1 : p.1 < p.2
          · simp only [h1, if_true, Option.some.injEq] at e
            subst e
            simp only [VR]
            rw [if_neg (by omega)]
            refine ⟨c - p.1, rfl, by omega, by omega, cells, t', fz, s1, ?_⟩
            rw [s2, Nat.add_assoc, ← Nat.add_mul]
            congr 2
            omega
          · simp only [h1, if_false, Option.some.injEq] at e
            subst e
            simp only [VR]
            have : p.2 - p.1 = 0 := by omega
            rw [this]
            exact ⟨_, c - p.1, [], rfl, by omega, by simp, by simp [CR], .inl trivial⟩
    · cases e
  · cases e

/-! ### What is built -/
theorem arr_wr {cells : List PV} {arr : Array Value} {off : Nat} {vs : List PV} {us : Array Value} (hc : CR w h N cells arr.toList) (hv : CR w h N vs us.toList) (hl : off + vs.length ≤ cells.length) :
    ∃ arr' : Array Value, us.zipIdx.foldl (fun cs (c, j) => cs.setIfInBounds (off + j) c) arr = arr' ∧ CR w h N (wr cells off vs) arr'.toList := by
  refine ⟨_, rfl, ?_⟩
  rw [← Array.foldl_toList, Array.toList_zipIdx]
  have key : ∀ (us : List Value) (vs : List PV) (k : Nat) (cells : List PV) (arr : Array Value), CR w h N cells arr.toList → CR w h N vs us → off + k + vs.length ≤ cells.length →
      CR w h N (wr cells (off + k) vs) ((us.zipIdx k).foldl (fun (cs : Array Value) (x : Value × Nat) => cs.setIfInBounds (off + x.2) x.1) arr).toList := by
    intro us
    induction us with
    | nil =>
      intro vs k cells arr hc hv hl
      cases vs with
      | nil => simpa [wr] using hc
      | cons v vs => simp [CR] at hv
    | cons u us ih =>
      intro vs k cells arr hc hv hl
      cases vs with
      | nil => simp [CR] at hv
      | cons v vs =>
        simp only [CR, List.cons.injEq] at hv
        obtain ⟨v', vs', ⟨rfl, rfl⟩, h0, h1, h2⟩ := hv
        simp only [List.length_cons] at hl
        have hset : CR w h N (cells.set (off + k) v) (arr.setIfInBounds (off + k) u).toList := by
          rw [Array.toList_setIfInBounds]; exact hc.set _ h0 h1
        have := ih vs (k + 1) _ _ hset h2 (by simp; omega)
        simp only [List.zipIdx_cons, List.foldl_cons]
        have e : wr cells (off + k) (v :: vs) = wr (cells.set (off + k) v) (off + (k + 1)) vs := by
          apply List.ext_getElem?
          intro i
          simp only [wr, List.append_assoc, List.getElem?_append, List.length_take, List.length_set, List.length_cons, List.getElem?_take, List.getElem?_drop, List.getElem?_set, List.getElem?_cons]
          repeat' split
          all_goals first | omega | (congr 1; omega) | simp_all | skip
          all_goals (congr 1; omega)
        rw [e]
        exact this
  have := key us.toList vs 0 cells arr hc hv (by omega)
  simpa using this

inductive PartsR (w : World) (h : Heap) (N : Nat) : List (Nat × PV) → List (Nat × Value) → Prop
  | nil : PartsR w h N [] []
  | cons {i : Nat} {c : PV} {v : Value} {ps : List (Nat × PV)} {qs : List (Nat × Value)} (hc : VR w h N c v) (ht : PartsR w h N ps qs) : PartsR w h N ((i, c) :: ps) ((i, v) :: qs)

theorem pfill_sound {place : Nat → Option (Nat × Nat)} : ∀ (ps : List (Nat × PV)) (qs : List (Nat × Value)) (cells : List PV) (arr : Array Value) (r : List PV), PartsR w h N ps qs → CR w h N cells arr.toList →
    pfill place cells ps = some r → ∃ arr', Instr.fill place arr qs = some arr' ∧ CR w h N r arr'.toList
  | _, _, cells, arr, r, .nil, hc, e => by simp only [pfill, Option.some.injEq] at e; subst e; exact ⟨arr, rfl, hc⟩
  | _, _, cells, arr, r, .cons (i := i) (c := c) (v := v) (ps := ps) (qs := qs) hv ht, hc, e => by
    simp only [pfill] at e
    split at e
    · rename_i off size vs hp hf
      split at e
      · rename_i hl
        have hcr := hv.flat_CR hf
        have hlen := hcr.length
        have hlc := hc.length
        obtain ⟨arr1, q1, q2⟩ := arr_wr hc hcr (by omega : off + vs.length ≤ cells.length)
        obtain ⟨arr2, q3, q4⟩ := pfill_sound ps qs _ arr1 r ht q2 e
        refine ⟨arr2, ?_, q4⟩
        simp only [Instr.fill, hp]
        have hsz : v.cells.size = size := by simp at hlen; omega
        have hsz2 : arr.size = cells.length := by simp at hlc; omega
        rw [if_neg (by simp [hsz]; omega)]
        rw [q1]
        exact q3
      · cases e
    · cases e

theorem zc_spec {t : TypeId} {z : List PV} (e : zc P t = some z) : ∃ i zv, P.info? t = some i ∧ i.zero = some zv ∧ CR w h N z zv.cells.toList := by
  unfold zc at e
  split at e
  · rename_i i hi
    cases hz : i.zero with
    | none => simp [hz] at e
    | some zv =>
      simp only [hz, Option.bind_some] at e
      exact ⟨i, zv, hi, hz, (VR.cval zv).flat_CR e⟩
  · cases e
theorem bld_sound {t : TypeId} {ps : List (Nat × PV)} {qs : Array (Nat × Value)} {v : PV} (hp : PartsR w h N ps qs.toList) (e : bld P t ps = some v) :
    ∃ c, (Instr.build t qs).run P w = .ok c w ∧ VR w h N v c := by
  unfold bld at e
  split at e
  · rename_i pl z hpl hz
    obtain ⟨it, zv, hi, hz2, hzc⟩ := zc_spec (w := w) (h := h) (N := N) hz
    cases hf : pfill pl z ps with
    | none => simp [hf] at e
    | some r =>
      simp only [hf, Option.map_some, Option.some.injEq] at e
      subst e
      obtain ⟨arr', q1, q2⟩ := pfill_sound ps qs.toList z zv.cells r hp hzc hf
      refine ⟨.agg arr', run_build w t qs arr' ?_, by simp only [VR]; exact ⟨arr', rfl, q2⟩⟩
      unfold plc at hpl
      unfold Program.built
      cases hu : P.underlying t with
      | none => simp [hu] at hpl
      | some d =>
        cases d <;> simp only [hu, reduceCtorEq] at hpl
        case array n el =>
          unfold tsz at hpl
          cases hie : P.info? el with
          | none => simp [hie] at hpl
          | some ie =>
            simp only [hie, Option.map_some, Option.some.injEq] at hpl
            subst hpl
            simp [hi, hz2, hie, q1]
        case struct fields =>
          split at hpl
          · rename_i l hl
            cases hpl
            simp [hi, hz2, hl, q1]
          · cases hpl
  · cases e

theorem len_sound {t ty : TypeId} {x v : PV} {a : Value} (hx : VR w h N x a) (ok : lenOk P t x = true) (e : lenv x = some v) : ∃ c, (Builtin.len_ #[t] ty #[a]).run P w = .ok c w ∧ VR w h N v c := by
  unfold lenOk at ok
  split at ok
  · rename_i hu
    simp only [VR] at hx; subst hx
    cases e
    exact ⟨_, by simp [Builtin.len_, run_underlying hu]; rfl, by simp only [VR, goInt]⟩
  · rename_i hu
    simp only [VR] at hx; subst hx
    cases e
    exact ⟨_, by simp [Builtin.len_, run_underlying hu]; rfl, by simp [VR, goInt]⟩
  · rename_i hu
    simp only [VR] at hx
    obtain ⟨a', c, vs, rfl, _⟩ := hx
    cases e
    exact ⟨_, by simp [Builtin.len_, run_underlying hu]; rfl, by simp only [VR, goInt]⟩
  · rename_i hu
    simp only [VR] at hx
    obtain ⟨c, rfl, _⟩ := hx
    cases e
    exact ⟨_, by simp [Builtin.len_, run_underlying hu]; rfl, by simp only [VR, goInt]⟩
  · cases ok
theorem cap_sound {t ty : TypeId} {x v : PV} {a : Value} (hx : VR w h N x a) (e : capv P t x = some v) : ∃ c, (Builtin.cap_ #[t] ty #[a]).run P w = .ok c w ∧ VR w h N v c := by
  unfold capv at e
  split at e
  · split at e
    · rename_i q
      cases e
      simp only [VR] at hx; subst hx
      have : ∃ e', P.underlying t = some (.slice e') := by
        unfold elt at q
        split at q
        · rename_i e' he; exact ⟨e', he⟩
        · cases q
      obtain ⟨e', he⟩ := this
      exact ⟨_, by simp [Builtin.cap_, run_underlying he]; rfl, by simp [VR, goInt]⟩
    · cases e
  · cases e
theorem min_sound {ts : Array TypeId} {ty : TypeId} {xs : List PV} {v : PV} {as : Array Value} (hx : TR w h N xs as.toList) (e : minv xs = some v) : ∃ c, (Builtin.min_ ts ty as).run P w = .ok c w ∧ VR w h N v c := by
  unfold minv at e
  split at e
  · simp only [TR, VR] at hx
    obtain ⟨_, _, h1, rfl, _, _, rfl, rfl, rfl⟩ := hx
    cases e
    exact ⟨_, by simp [Builtin.min_, h1, Builtin.min2]; rfl, by simp only [VR]⟩
  · cases e
theorem max_sound {ts : Array TypeId} {ty : TypeId} {xs : List PV} {v : PV} {as : Array Value} (hx : TR w h N xs as.toList) (e : maxv xs = some v) : ∃ c, (Builtin.max_ ts ty as).run P w = .ok c w ∧ VR w h N v c := by
  unfold maxv at e
  split at e
  · simp only [TR, VR] at hx
    obtain ⟨_, _, h1, rfl, _, _, rfl, rfl, rfl⟩ := hx
    cases e
    exact ⟨_, by simp [Builtin.max_, h1, Builtin.max2]; rfl, by simp only [VR]⟩
  · cases e
end
end Go.Pm
