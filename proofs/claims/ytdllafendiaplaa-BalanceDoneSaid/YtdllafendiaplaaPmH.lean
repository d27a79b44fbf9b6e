/-
  An abstract machine over pure values, part H: that one operation does in the machine what it does over pure values.
  Conditions: none.
-/
import Derived.Test.YtdllafendiaplaaPmG
namespace Go.Pm
set_option linter.unusedVariables false
set_option linter.unusedSimpArgs false
open Go.RowKit
section
variable {P : Program} {w : World} {h : Heap} {N : Nat}

theorem bsl_sound {t : TypeId} {n : Nat} {ps : List (Nat × PV)} {qs : Array (Nat × Value)} {r : Nat × List PV} (hp : PartsR w h N ps qs.toList) (e : bsl P t n ps = some r) :
    ∃ el arr, (Instr.buildSlice t n qs).run P w = .ok (.slice (some ⟨w.heap.size, 0, none⟩) n n) (w.alloc (.cells arr el)) ∧ CR w h N r.2 arr.toList ∧ r.2.length = n * r.1 ∧ arr.size = n * r.1 ∧ n ≤ 16777216 := by
  unfold bsl at e
  split at e
  · rename_i el hel
    split at e
    · rename_i E z hE hz
      split at e
      · rename_i hl
        cases hf : pfill (fun i => some (i * E, E)) (rep n z) ps with
        | none => simp [hf] at e
        | some cs =>
          simp only [hf, Option.map_some, Option.some.injEq] at e
          subst e
          obtain ⟨it, zv, hi, hz2, hzc⟩ := zc_spec (w := w) (h := h) (N := N) hz
          have hzl := hzc.length
          have hu : P.underlying t = some (.slice el) := by
            unfold elt at hel
            split at hel
            · rename_i e' he; cases hel; exact he
            · cases hel
          have hs : zv.cells.size = E := by simp at hzl; omega
          have hbase : CR w h N (rep n z) (madeCells zv.cells (n * E)).toList := by
            rw [← hs, made_list]; exact hzc.flatten n
          obtain ⟨arr, q1, q2⟩ := pfill_sound ps qs.toList (rep n z) _ cs hp hbase hf
          have hplen : ∀ (ps : List (Nat × PV)) (c0 c1 : List PV), pfill (fun i => some (i * E, E)) c0 ps = some c1 → c1.length = c0.length := by
            intro ps
            induction ps with
            | nil => intro c0 c1 q; simp only [pfill, Option.some.injEq] at q; rw [q]
            | cons p ps ih =>
              intro c0 c1 q
              obtain ⟨i, v⟩ := p
              simp only [pfill] at q
              split at q
              · rename_i off size vs q0 q1
                split at q
                · rename_i q2
                  rw [ih _ _ q, wr_length]
                  omega
                · cases q
              · cases q
          have hcl := hplen ps _ _ hf
          rw [rep_length, hl.1] at hcl
          have hal := q2.length
          refine ⟨el, arr, ?_, q2, hcl, by show arr.size = n * E; simp at hal; omega, hl.2.2⟩
          have n1 : ¬ (16777216 < n * E) := by omega
          simp only [Instr.buildSlice, Sem.run_bind, run_underlying hu, Result.andThen_ok, sizeOf_run hE]
          have q1' : Instr.fill (fun i => some (i * E, E)) ((Array.range (n * E)).map (zv.cells[· % zv.cells.size]!)) qs.toList = some arr := q1
          rw [if_neg n1]
          by_cases h0 : n * E = 0
          · have e0 : (Array.range (n * E)).map (zv.cells[· % zv.cells.size]!) = (Array.range (n * E)).map ((#[] : Array Value)[· % (#[] : Array Value).size]!) := by
              simp only [h0, Array.range_zero', List.map_toArray, List.map_nil, Array.map_empty]
            rw [e0] at q1'
            simp only [h0, if_true, Sem.run_pure, Sem.run_bind, Result.andThen_ok] at q1' ⊢
            rw [q1']
            simp [newRow]
          · simp only [h0, if_false, zeroValue, typeInfo, hi, hz2, Sem.run_bind, Sem.run_pure, Result.andThen_ok]
            simp [q1', newRow, hi, hz2]
      · cases e
    · cases e
  · cases e

theorem eli_spec {t : TypeId} {r : Nat × Nat × List PV} (e : eli P t = some r) :
    ∃ el i zv, P.underlying t = some (.slice el) ∧ P.info? el = some i ∧ i.size = r.1 ∧ i.bytes = r.2.1 ∧ i.zero = some zv ∧ r.2.2.length = r.1 ∧ ∀ (w : World) (h : Heap) (N : Nat), CR w h N r.2.2 zv.cells.toList := by
  unfold eli at e
  split at e
  · rename_i el hel
    split at e
    · rename_i i z hi hz
      split at e
      · rename_i hl
        cases e
        have hu : P.underlying t = some (.slice el) := by
          unfold elt at hel
          split at hel
          · rename_i e' he; cases hel; exact he
          · cases hel
        unfold zc at hz
        rw [hi] at hz
        simp only at hz
        cases hz2 : i.zero with
        | none => simp [hz2] at hz
        | some zv =>
          simp only [hz2, Option.bind_some] at hz
          exact ⟨el, i, zv, hu, hi, rfl, rfl, hz2, hl, fun w h N => (VR.cval zv).flat_CR hz⟩
      · cases e
    · cases e
  · cases e

/-- What the machine comes to behind one operation. -/
def Nx (P : Program) (w : World) (h : Heap) (N : Nat) (K : PV → Heap → Prop) (next : Value → World → Prop) : Prop :=
  ∀ v c h' w', K v h' → St w h w' h' → WR w' h' 0 → VR w' h' N v c → next c w'

theorem pop_sound {o : Oper} {a : Act} {σ : Nat → PV} {K : PV → Heap → Prop} {next : Act → World → Prop} {Q : Exit → Act → World → Prop}
    (hx : ∀ x ∈ o.op.operands, VR w h N (ev σ x) (a.eval x)) (hw : WR w h 0) (hN : N ≤ w.heap.size) (hp : popv P o.op σ h K)
    (hk : Nx P w h N K fun c w' => next (a.put o.dst c) w') : o.wp P a w next Q := by
  unfold Oper.wp
  have dcase : (∃ v, dv P o.op σ = some v ∧ K v h) → o.upon P a next Q ((execOp a.eval o).run P w) := by
    rintro ⟨v, e, hkv⟩
    obtain ⟨c, q1, q2⟩ := dv_sound hx e
    rw [q1]
    exact hk v c h w hkv (St.refl w h) hw q2
  unfold popv at hp
  split at hp
  · -- load
    rename_i t x ho
    obtain ⟨v, e, hkv⟩ := hp
    obtain ⟨c, q1, q2⟩ := ld_sound (o := o) (ρ := a.eval) ho (hx x (by simp [ho, Op.operands])) hw e
    rw [q1]
    exact hk v c h w hkv (St.refl w h) hw q2
  · -- store
    rename_i t x y ho
    obtain ⟨h', e, hkv⟩ := hp
    obtain ⟨w', q1, q2, q3⟩ := st_sound (hx x (by simp [ho, Op.operands])) (hx y (by simp [ho, Op.operands])) hw e
    have : (execOp a.eval o).run P w = .ok .skip w' := by unfold execOp; simp only [ho]; simp [q1]
    rw [this]
    exact hk .undef undef h' w' hkv q2 q3 (by simp only [VR])
  · -- box
    rename_i t x ho
    obtain ⟨cs, e, hkv⟩ := hp
    have hc := (hx x (by simp [ho, Op.operands])).flat_CR e
    have hrun : (execOp a.eval o).run P w = .ok (.value (.pointer (some ⟨w.heap.size, 0, none⟩))) (w.alloc (.cells (a.eval x).cells t)) := by
      unfold execOp; simp only [ho]; simp [Instr.box, newVar, newRow]
    rw [hrun]
    rcases hkv with hkv | hkv
    · obtain ⟨q1, q2, q3, _⟩ := new_frozen (t := t) hw hN hc
      exact hk _ _ _ _ hkv q1 q2 q3
    · have hl := hc.length
      have hc0 : CR w h 0 cs ((a.eval x).cells.toList.take cs.length) := by rw [hl, List.take_length]; exact hc.zero
      obtain ⟨q1, q2, q3, q4, _⟩ := new_live (N := N) (t := t) hw (by simp at hl; omega) hc0
      exact hk _ _ _ _ (hkv _ q3) q1 q2 q4
  · -- alloc
    rename_i t ho
    obtain ⟨z, e, hkv⟩ := hp
    obtain ⟨it, zv, hi, hz2, hc⟩ := zc_spec (w := w) (h := h) (N := N) e
    have hrun : (execOp a.eval o).run P w = .ok (.value (.pointer (some ⟨w.heap.size, 0, none⟩))) (w.alloc (.cells zv.cells t)) := by
      unfold execOp; simp only [ho]; simp [Instr.alloc, zeroValue, typeInfo, hi, hz2, newVar, newRow]
    rw [hrun]
    rcases hkv with hkv | hkv
    · obtain ⟨q1, q2, q3, _⟩ := new_frozen (t := t) hw hN hc
      exact hk _ _ _ _ hkv q1 q2 q3
    · have hl := hc.length
      have hc0 : CR w h 0 z (zv.cells.toList.take z.length) := by rw [hl, List.take_length]; exact hc.zero
      obtain ⟨q1, q2, q3, q4, _⟩ := new_live (N := N) (t := t) hw (by simp at hl; omega) hc0
      exact hk _ _ _ _ (hkv _ q3) q1 q2 q4
  · -- a slice's literal
    rename_i t n ps ho
    obtain ⟨r, e, hkv⟩ := hp
    have hps : PartsR w h N (ps.toList.map fun p => (p.1, ev σ p.2)) ((ps.map fun p => (p.1, a.eval p.2)).toList) := by
      rw [Array.toList_map]
      exact PartsR.map ps.toList fun p hm => hx p.2 (by simp [ho, Op.operands]; exact ⟨p.1, by simpa using hm⟩)
    obtain ⟨el, arr, q1, q2, q3, q4, q5⟩ := bsl_sound hps e
    have hrun : (execOp a.eval o).run P w = .ok (.value (.slice (some ⟨w.heap.size, 0, none⟩) n n)) (w.alloc (.cells arr el)) := by
      unfold execOp; simp only [ho]; simp [q1]
    rw [hrun]
    rcases hkv with hkv | hkv
    · obtain ⟨s1, s2, s3, s4⟩ := new_frozen (t := el) hw hN q2
      exact hk _ _ _ _ hkv s1 s2 (s4 _ _ q3)
    · have hc0 : CR w h 0 r.2 (arr.toList.take r.2.length) := by rw [q2.length, List.take_length]; exact q2.zero
      obtain ⟨s1, s2, s3, s4, s5⟩ := new_live (N := N) (t := el) hw (by omega) hc0
      exact hk _ _ _ _ (hkv _ s3) s1 s2 (s5 r.1 n n q4 (Nat.le_refl _) (by simp only [maxLen]; omega))
  · -- make
    rename_i t l c ho
    obtain ⟨r, kl, nl, kc, nc, e, el, ec, h0, h1, h2, h3, hkv⟩ := hp
    obtain ⟨elm, i, zv, hu, hi, hs, hb, hz, hzl, hzc⟩ := eli_spec e
    have hl := hx l (by simp [ho, Op.operands])
    have hc := hx c (by simp [ho, Op.operands])
    rw [el] at hl
    rw [ec] at hc
    simp only [VR] at hl hc
    have hrun : (execOp a.eval o).run P w = .ok (.value (.slice (some ⟨w.heap.size, 0, none⟩) nl.toNat nc.toNat)) (w.alloc (.cells (madeCells zv.cells (nc.toNat * r.1)) elm)) := by
      have := run_make (P := P) w t elm i zv hu hi hz kl kc nl nc h0 h1 (by rw [hb]; exact h2) h3
      unfold execOp; simp only [ho]; simp [hl, hc, this, hs]
    rw [hrun]
    have hzc' := hzc w h 0
    have hzs : zv.cells.size = r.1 := by have := hzc'.length; simp at this; omega
    have hle : nl.toNat * r.1 ≤ nc.toNat * r.1 := Nat.mul_le_mul_right _ (by omega)
    have hrl : (rep nl.toNat r.2.2).length = nl.toNat * r.1 := by rw [rep_length, hzl]
    have hcr : CR w h 0 (rep nl.toNat r.2.2) ((madeCells zv.cells (nc.toNat * r.1)).toList.take (rep nl.toNat r.2.2).length) := by
      have e1 : (madeCells zv.cells (nc.toNat * r.1)).toList.take (rep nl.toNat r.2.2).length = (List.replicate nl.toNat zv.cells.toList).flatten := by
        rw [hrl, ← hzs, made_list]
        apply List.ext_getElem?
        intro j
        rw [List.getElem?_take, flatten_get, flatten_get]
        have hlen : zv.cells.toList.length = zv.cells.size := by simp
        rw [hlen]
        rw [← hzs] at hle
        by_cases hj : j < nl.toNat * zv.cells.size
        · rw [if_pos hj, if_pos hj, if_pos (by omega)]
        · rw [if_neg hj, if_neg hj]
      rw [e1]
      exact hzc'.flatten _
    obtain ⟨s1, s2, s3, s4, s5⟩ := new_live (N := N) (t := elm) hw (by rw [hrl, size_madeCells]; exact hle) hcr
    exact hk _ _ _ _ (hkv _ s3) s1 s2 (s5 r.1 nl.toNat nc.toNat (by rw [size_madeCells]) (by omega) (by simp only [maxLen]; omega))
  · -- a call
    rename_i f args ts ho
    have hf := hx f (by simp [ho, Op.operands, Call.operands])
    split at hp
    · rename_i g first caps hfe
      rw [hfe] at hf
      simp only [VR] at hf
      obtain ⟨fs, cvs, hf, h1, h2⟩ := hf
      obtain ⟨⟨fn, hfn, hname, hbody⟩, hcalls⟩ := hp
      have hargs : TR w h N (args.toList.map (ev σ)) (args.toList.map a.eval) := TR.map args.toList fun x hm => hx x (by simp [ho, Op.operands, Call.operands]; exact .inr (by simpa using hm))
      have hrun : (execOp a.eval o).run P w = .ok (.enter g (fs ++ args.map a.eval ++ cvs)) w := by
        unfold execOp; simp only [ho]
        have hname' : ¬ fn.name = "runtime.NumGoroutine" := by simpa using hname
        have hbody' : ¬ fn.body = none := fun e => by rw [e] at hbody; cases hbody
        simp [resolve, hf, Deferred.ofValue, invoke, callFunc, hfn, hname', hbody']
      rw [hrun, Oper.upon_enter]
      have hall : TR w h 0 (first ++ args.toList.map (ev σ) ++ caps) (fs ++ args.map a.eval ++ cvs).toList := by
        simp only [Array.toList_append, Array.toList_map]
        exact ((h1.append hargs).append h2).zero
      refine (hcalls w _ hw hall).mono fun e w' ⟨v, c, h', q1, q2, q3, q4, q5⟩ => ?_
      subst q1
      exact hk v c h' w' q5 q2 q3 (VR.step ⟨Nat.le_refl _, fun _ _ _ => rfl, fun _ _ e => e, fun _ c _ fz e => ⟨c, fz, e, rfl⟩⟩ hN _ q4)
    · exact hp.elim
  · -- append
    rename_i args ts ho
    split at hp
    · rename_i s x t tx hargs hts
      have ea : args = #[s, x] := by apply Array.ext'; simpa using hargs
      have et : ts = #[t, tx] := by apply Array.ext'; simpa using hts
      subst ea et
      have hs := hx s (by simp [ho, Op.operands, Call.operands])
      have hxx := hx x (by simp [ho, Op.operands, Call.operands])
      obtain ⟨r, m, new, e1, e2, hp⟩ := hp
      obtain ⟨elm, i, zv, hu, hi, hsz, hb, hz, hzl, hzc⟩ := eli_spec e1
      obtain ⟨vs, hsrc, hnew⟩ := src_sound hxx hw e2
      have hop : ∀ (v : Value) (w' : World), (Builtin.append_ #[t, tx] o.type #[a.eval s, a.eval x]).run P w = .ok v w' → (execOp a.eval o).run P w = .ok (.value v) w' := fun v w' hr => by
        unfold execOp; simp only [ho]
        simp [resolve, invoke, builtin, hr]
      split at hp
      · rename_i hse
        obtain ⟨hb1, hb2, hp⟩ := hp
        rw [hse] at hs
        simp only [VR] at hs
        by_cases hm : m = 0
        · rw [if_pos hm] at hp
          subst hm
          have hvl := hsrc.newsLen
          have hv0 : vs = [] := List.length_eq_zero_iff.1 (by omega)
          have hr : (Builtin.append_ #[t, tx] o.type #[a.eval s, a.eval x]).run P w = .ok (.slice none 0 0) w := by
            rw [hs]
            have hc := hsrc.cells
            have hl := hsrc.len
            rcases hsrc.kind with ⟨e', hk'⟩ | hk' <;>
              simp [Builtin.append_, run_underlying hu, run_underlying hk', sizeOf, typeInfo, hi, hl, hsz, hc]
          rw [hop _ _ hr]
          exact hk _ _ _ _ hp (St.refl w h) hw (by simp only [VR])
        · rw [if_neg hm] at hp
          obtain ⟨v, w', q1, q2, q3, q4, q5⟩ := app_grow (N := N) (ty := o.type) (base := none) (n := 0) (c := 0) (old := []) (ovs := []) (h0 := h) hu hi hz hsz (hzc w h 0) hzl hw hsrc hnew (by simp [CR]) (by simp) rfl (by omega) (by rw [hb]; simpa using hb1) (by simpa using hb2) (fun _ _ e => e)
          rw [← hs] at q1
          rw [hop _ _ q1]
          simp only [List.nil_append, Nat.zero_add] at q2 q3 q4
          exact hk _ _ _ _ (hp _ q5) q2 q3 q4
      · rename_i b E off n hse
        obtain ⟨rfl, rfl, hb1, hb2, cs, hbc, hnl, hp⟩ := hp
        rw [hse] at hs
        simp only [VR] at hs
        obtain ⟨c, hs, hnc, hcm, hroom⟩ := hs
        by_cases hg : n + m ≤ c
        · obtain ⟨w', q1, q2, q3, q4⟩ := app_room (N := N) (ty := o.type) hu hi hsz hw hsrc hnew hbc hnl hroom hg hcm
          rw [← hs] at q1
          rw [hop _ _ q1]
          have e : (h.kill b).set b (cs.take (n * r.1) ++ new) = h.set b (cs.take (n * r.1) ++ new) := by
            apply Heap.ext'; intro y; by_cases hy : y = b <;> simp [Heap.kill, Heap.set, hy]
          rw [← e] at q2 q3 q4
          exact hk _ _ _ _ (hp b (.inl rfl)) q2 q3 q4
        · obtain ⟨cells, t', hcell, hcl, hcc⟩ := hw b cs hbc
          have hov := hcc.take (n * r.1)
          have hovl := hov.length
          have hol : (cs.take (n * r.1)).length = n * r.1 := by simp; omega
          have hfirst : (Builtin.firstCells i.size n (.slice (some ⟨b, 0, none⟩) n c)).run P w.drew = .ok ((cells.toList.take cs.length).take (n * r.1)).toArray w.drew := by
            refine run_firstCells_some (P := P) w.drew i.size n ⟨b, 0, none⟩ n c _ (by rw [hsz]; omega) fun j u hu => ?_
            rw [Addr.add_mid]
            have hj : j < n * r.1 := by have := (List.getElem?_eq_some_iff.1 hu).1; omega
            rw [List.getElem?_take, if_pos hj] at hu
            have := Mem.live hcell cs.length j u hu
            simpa using this
          obtain ⟨v, w', q1, q2, q3, q4, q5⟩ := app_grow (N := N) (ty := o.type) (base := some ⟨b, 0, none⟩) (n := n) (c := c) (h0 := h.kill b) hu hi hz hsz (hzc w h 0) hzl hw hsrc hnew hov hol hfirst (by omega) (by rw [hb]; exact hb1) hb2 (fun y ds hy => by
            by_cases e : y = b
            · rw [e, h.kill_same] at hy; cases hy
            · rwa [h.kill_ne e] at hy)
          rw [← hs] at q1
          rw [hop _ _ q1]
          exact hk _ _ _ _ (hp _ (.inr (hw.free (Nat.le_refl _)))) q2 q3 q4
      · exact hp.elim
    · exact hp.elim
  · -- copy
    rename_i args ts ho
    split at hp
    · rename_i d x t tx hargs hts
      have ea : args = #[d, x] := by apply Array.ext'; simpa using hargs
      have et : ts = #[t, tx] := by apply Array.ext'; simpa using hts
      subst ea et
      have hd := hx d (by simp [ho, Op.operands, Call.operands])
      have hxx := hx x (by simp [ho, Op.operands, Call.operands])
      obtain ⟨E, m, new, e1, e2, hp⟩ := hp
      obtain ⟨elm, hu, hs⟩ := elt_spec e1
      have hi : ∃ i, P.info? elm = some i ∧ i.size = E := by
        unfold tsz at hs; cases q : P.info? elm with
        | none => simp [q] at hs
        | some i => exact ⟨i, rfl, by simpa [q] using hs⟩
      obtain ⟨i, hi, hsz⟩ := hi
      have hop : ∀ (v : Value) (w' : World), (Builtin.copy_ #[t, tx] o.type #[a.eval d, a.eval x]).run P w = .ok v w' → (execOp a.eval o).run P w = .ok (.value v) w' := fun v w' hr => by
        unfold execOp; simp only [ho]
        simp [resolve, invoke, builtin, hr]
      unfold cpv at hp
      split at hp
      · rename_i hde
        rw [hde] at hd
        simp only [VR] at hd
        subst hsz
        have hr := copy_none (ty := o.type) (ad := none) (c := 0) hu hi hxx hw e2
        rw [← hd] at hr
        rw [hop _ _ hr]
        exact hk _ _ _ _ hp (St.refl w h) hw (by simp only [VR, goInt])
      · rename_i fr E' n cs hde
        obtain ⟨rfl, hp⟩ := hp
        rw [hde] at hd
        simp only [VR] at hd
        obtain ⟨ad, c, vs, hd, _⟩ := hd
        subst hsz
        have hr := copy_none (ty := o.type) (ad := ad) (c := c) hu hi hxx hw e2
        rw [← hd] at hr
        rw [hop _ _ hr]
        exact hk _ _ _ _ hp (St.refl w h) hw (by simp only [VR, goInt])
      · rename_i b E' off n hde
        obtain ⟨rfl, hnl, cs, hbc, hol, hp⟩ := hp
        rw [hde] at hd
        simp only [VR] at hd
        obtain ⟨c, hd, hnc, hcm, hroom⟩ := hd
        obtain ⟨w', q1, q2, q3⟩ := copy_into (ty := o.type) (c := c) hu hi hsz hxx hw e2 hbc hol hnl
        rw [← hd] at q1
        rw [hop _ _ q1]
        exact hk _ _ _ _ hp q2 q3 (by simp only [VR, goInt])
      · exact hp.elim
    · exact hp.elim
  · exact dcase hp
end
end Go.Pm
