/-
  An abstract machine over pure values, part F: what makes memory, or writes it.
  Conditions: none.
-/
import Derived.Test.YtdllafendiaplaaPmE
namespace Go.Pm
set_option linter.unusedVariables false
set_option linter.unusedSimpArgs false
open Go.RowKit

/-! ### New blocks -/
section
variable {P : Program} {w : World} {h : Heap} {N : Nat}

theorem new_frozen {cs : List PV} {arr : Array Value} {t : TypeId} (hw : WR w h 0) (hN : N ≤ w.heap.size) (hc : CR w h N cs arr.toList) :
    St w h (w.alloc (.cells arr t)) h ∧ WR (w.alloc (.cells arr t)) h 0 ∧ VR (w.alloc (.cells arr t)) h N (.fptr true cs 0) (.pointer (some ⟨w.heap.size, 0, none⟩)) ∧
      ∀ E n, cs.length = n * E → VR (w.alloc (.cells arr t)) h N (.list true E n cs) (.slice (some ⟨w.heap.size, 0, none⟩) n n) := by
  have st := St.alloc w h h (.cells arr t) fun _ _ => rfl
  have hf := hw.free (Nat.le_refl w.heap.size)
  have hcr := CR.step st.kp (Nat.le_refl N) cs hc
  refine ⟨st, hw.alloc _, ?_, fun E n hl => ?_⟩
  · simp only [VR]
    exact ⟨w.heap.size, 0, arr.toList, rfl, by simp, hf, fun _ => hN, hcr, Mem.new w arr t⟩
  · simp only [VR]
    exact ⟨_, n, arr.toList, rfl, Nat.le_refl _, hl, hcr, .inr ⟨w.heap.size, 0, rfl, by simp, hf, fun _ => hN, Mem.new w arr t⟩⟩
theorem new_live {cs : List PV} {arr : Array Value} {t : TypeId} (hw : WR w h 0) (hl : cs.length ≤ arr.size) (hc : CR w h 0 cs (arr.toList.take cs.length)) :
    St w h (w.alloc (.cells arr t)) (h.set w.heap.size cs) ∧ WR (w.alloc (.cells arr t)) (h.set w.heap.size cs) 0 ∧ h.f w.heap.size = none ∧
      VR (w.alloc (.cells arr t)) (h.set w.heap.size cs) N (.ptr w.heap.size 0) (.pointer (some ⟨w.heap.size, 0, none⟩)) ∧
      ∀ E n c, arr.size = c * E → n ≤ c → c ≤ maxLen → VR (w.alloc (.cells arr t)) (h.set w.heap.size cs) N (.buf w.heap.size E 0 n) (.slice (some ⟨w.heap.size, 0, none⟩) n c) := by
  refine ⟨St.alloc w h _ _ fun b hb => h.set_ne cs hb, hw.alloc_live arr t cs hl hc, hw.free (Nat.le_refl _), by simp only [VR], fun E n c e1 e2 e3 => ?_⟩
  simp only [VR]
  exact ⟨c, rfl, e2, e3, arr, t, (0, 0), heap_new w _, by rw [e1]; omega⟩

theorem CR.zero {cs : List PV} {vs : List Value} (hc : CR w h N cs vs) : CR w h 0 cs vs :=
  CR.step ⟨Nat.le_refl _, fun _ _ _ => rfl, fun _ _ e => e, fun _ c _ fz e => ⟨c, fz, e, rfl⟩⟩ (Nat.zero_le _) cs hc
theorem VR.zero {c : PV} {v : Value} (hc : VR w h N c v) : VR w h 0 c v :=
  VR.step ⟨Nat.le_refl _, fun _ _ _ => rfl, fun _ _ e => e, fun _ c _ fz e => ⟨c, fz, e, rfl⟩⟩ (Nat.zero_le _) c hc
theorem TR.zero {cs : List PV} {vs : List Value} (hc : TR w h N cs vs) : TR w h 0 cs vs :=
  TR.step ⟨Nat.le_refl _, fun _ _ _ => rfl, fun _ _ e => e, fun _ c _ fz e => ⟨c, fz, e, rfl⟩⟩ (Nat.zero_le _) cs hc

/-! ### Rows of zeros -/
def rep (n : Nat) (z : List PV) : List PV := (List.replicate n z).flatten
theorem rep_one (n : Nat) (z : PV) : rep n [z] = List.replicate n z := by
  induction n with
  | zero => rfl
  | succ n ih => simp only [rep, List.replicate_succ, List.flatten_cons] at ih ⊢; simp [ih]
theorem rep_length (n : Nat) (z : List PV) : (rep n z).length = n * z.length := by simp [rep]
theorem flatten_get (l : List Value) : ∀ (n i : Nat), (List.replicate n l).flatten[i]? = if i < n * l.length then l[i % l.length]? else none
  | 0, i => by simp
  | n + 1, i => by
    rw [List.replicate_succ, List.flatten_cons, List.getElem?_append]
    by_cases h1 : i < l.length
    · rw [if_pos h1, if_pos (by rw [Nat.add_mul]; omega), Nat.mod_eq_of_lt h1]
    · rw [if_neg h1, flatten_get l n]
      have h2 : i % l.length = (i - l.length) % l.length := by rw [Nat.mod_eq_sub_mod (by omega)]
      rw [h2, Nat.add_mul]
      by_cases h3 : i - l.length < n * l.length
      · rw [if_pos h3, if_pos (by omega)]
      · rw [if_neg h3, if_neg (by omega)]
theorem made_list (z : Array Value) (n : Nat) : (madeCells z (n * z.size)).toList = (List.replicate n z.toList).flatten := by
  apply List.ext_getElem?
  intro i
  rw [flatten_get]
  simp only [madeCells, Array.length_toList]
  by_cases hi : i < n * z.size
  · rw [if_pos hi]
    have hz : 0 < z.size := by
      rcases Nat.eq_zero_or_pos z.size with h | h
      · rw [h] at hi; omega
      · exact h
    have hm : i % z.size < z.size := Nat.mod_lt _ hz
    simp [hi, hm]
  · rw [if_neg hi]
    simp [hi]
theorem CR.flatten {z : List PV} {zv : List Value} (hc : CR w h N z zv) : ∀ n, CR w h N (rep n z) (List.replicate n zv).flatten
  | 0 => by simp [rep, CR]
  | n + 1 => by
    have := CR.flatten hc n
    simp only [rep, List.replicate_succ, List.flatten_cons] at this ⊢
    exact hc.append this
end

/-! ### Stores -/
def stp (P : Program) (h : Heap) (t : TypeId) (p x : PV) : Option Heap :=
  match p, tsz P t, flat x with
  | .ptr b off, some n, some new => match h.f b with
    | some cs => if new.length = n ∧ off + n ≤ cs.length then some (h.set b (wr cs off new)) else none
    | none => none
  | _, _, _ => none

section
variable {P : Program} {w : World} {h : Heap} {N : Nat}

theorem st_sound {t : TypeId} {p x : PV} {a v : Value} {h' : Heap} (hp : VR w h N p a) (hx : VR w h N x v) (hw : WR w h 0) (e : stp P h t p x = some h') :
    ∃ w', (Instr.storeAt t a v).run P w = .ok () w' ∧ St w h w' h' ∧ WR w' h' 0 := by
  unfold stp at e
  split at e
  · rename_i b off n new hn hf
    split at e
    · rename_i cs hb
      split at e
      · rename_i hl
        cases e
        simp only [VR] at hp
        subst hp
        have hcr := (hx.flat_CR hf).zero
        have hlen := hcr.length
        obtain ⟨cells, t', hcell, hcl, hcc⟩ := hw b cs hb
        have hl2 : v.cells.toList.length = n := by omega
        have hrun := run_storeCells_cells (P := P) b off v.cells.toList 0 w
          (fun j hj => by simp [World.cell?, hcell]; omega) (fun j hj => by simp [World.frozen?, hcell]) (fun u hu => hcr.one_of u hu)
        simp only [Nat.add_zero] at hrun
        refine ⟨w.setCells b off v.cells.toList, ?_, ?_⟩
        · simp only [Instr.storeAt, Instr.sureAddr, storeVar, Sem.run_bind, Sem.run_pure, Result.andThen_ok, sizeOf_run hn]
          rw [if_neg (by simp at hl2; omega)]
          exact hrun
        · exact store_live hw hb hcell (by omega) hcr hcl hcc (by omega) rfl
      · cases e
    · cases e
  · cases e

/-- What lives may be told of less far. -/
theorem WR.shrink {b : Nat} {cs cs' : List PV} {h' : Heap} (hw : WR w h' 0) (hb : h'.f b = some cs) (hs : ∃ k, cs' = cs.take k) : WR w (h'.set b cs') 0 ∧ St w h' w (h'.set b cs') := by
  obtain ⟨k, rfl⟩ := hs
  have st : St w h' w (h'.set b (cs.take k)) := ⟨rfl, rfl, rfl, Nat.le_refl _, fun _ _ _ => rfl, fun x hx hd => by
    rw [h'.set_ne _ fun ee => by rw [ee, hb] at hd; cases hd]; exact hd, fun _ c _ fz e => ⟨c, fz, e, rfl⟩⟩
  refine ⟨hw.step st.kp (Nat.le_refl _) fun x ds hx => ?_, st⟩
  by_cases ee : x = b
  · subst ee
    rw [h'.set_same] at hx
    cases hx
    obtain ⟨cells, t, h1, h2, h3⟩ := hw x cs hb
    refine .inr ⟨cells, t, h1, by simp; omega, ?_⟩
    have := CR.step st.kp (Nat.le_refl _) _ (h3.take k)
    rw [List.take_take] at this
    simpa [List.length_take] using this
  · rw [h'.set_ne _ ee] at hx
    exact .inl ⟨hx, rfl⟩

/-! ### Append -/
def srcv (P : Program) (h : Heap) (E : Nat) (tx : TypeId) (x : PV) : Option (Nat × List PV) :=
  match x with
  | .nils => if (elt P tx).isSome then some (0, []) else none
  | .list _ E' m cs => if E' = E ∧ (elt P tx).isSome then some (m, cs) else none
  | .buf b E' off m => match h.f b with
    | some cs => if E' = E ∧ (elt P tx).isSome ∧ off + m * E ≤ cs.length then some (m, (cs.drop off).take (m * E)) else none
    | none => none
  | _ => none

theorem Mem.range {b o : Nat} {vs : List Value} (m : Mem w b o vs) (j : Nat) (u : Value) (hu : vs[j]? = some u) : w.cell? ((⟨b, o, none⟩ : Addr).add j) = some u := by
  rw [Addr.add_mid]; exact m j u hu
theorem src_sound {E m : Nat} {tx : TypeId} {x : PV} {a : Value} {cs : List PV} (hx : VR w h N x a) (hw : WR w h 0) (e : srcv P h E tx x = some (m, cs)) :
    ∃ vs, Src P E tx a m vs w ∧ CR w h 0 cs vs := by
  have elt' : (elt P tx).isSome = true → ∃ e', P.underlying tx = some (.slice e') := fun q => by
    unfold elt at q
    split at q
    · rename_i e' he; exact ⟨e', he⟩
    · cases q
  unfold srcv at e
  split at e
  · split at e
    · rename_i q
      cases e
      simp only [VR] at hx; subst hx
      exact ⟨[], ⟨.inl (elt' q), fun _ => rfl, rfl, rfl, by simp, fun u hu => by cases hu⟩, by simp [CR]⟩
    · cases e
  · rename_i fr E' m' cs'
    split at e
    · rename_i q
      cases e
      obtain ⟨rfl, q⟩ := q
      simp only [VR] at hx
      obtain ⟨ad, c, vs, rfl, r1, r2, r3, r4⟩ := hx
      have hl := r3.length
      rcases r4 with r4 | ⟨b, o, rfl, r5, r6, r7, r8⟩
      · subst r4
        have : vs = [] := by simp at r2; subst r2; simpa [CR] using r3
        subst this
        refine ⟨[], ⟨.inl (elt' q), fun _ => rfl, ?_, ?_, by simp, fun u hu => by cases hu⟩, r3.zero⟩
        · cases ad <;> simp [Builtin.firstCells, loadCells, loadCellsFrom]
        · cases ad <;> simp [Builtin.firstCells, loadCells, loadCellsFrom]
      · obtain ⟨e', he⟩ := elt' q
        exact ⟨vs, Src.ofSlice (w := w) he _ _ c vs (by omega) (r8.range) (fun u hu => r3.one_of u hu), r3.zero⟩
    · cases e
  · rename_i b E' off m'
    split at e
    · rename_i cs' hb
      split at e
      · rename_i q
        cases e
        obtain ⟨rfl, q, q2⟩ := q
        simp only [VR] at hx
        obtain ⟨c, rfl, r1, r2, r3⟩ := hx
        obtain ⟨cells, t', hcell, hcl, hcc⟩ := hw b cs' hb
        obtain ⟨e', he⟩ := elt' q
        have hc2 := (hcc.drop off).take (m * E')
        have hl := hc2.length
        have hl2 : ((cs'.drop off).take (m * E')).length = m * E' := by simp; omega
        refine ⟨_, Src.ofSlice (w := w) he _ _ c _ (by omega) (fun j u hu => ?_) (fun u hu => hc2.one_of u hu), hc2⟩
        rw [Addr.add_mid]
        rw [List.getElem?_take] at hu
        split at hu
        · rw [List.getElem?_drop] at hu
          have := Mem.live hcell cs'.length (off + j) u hu
          simpa using this
        · cases hu
      · cases e
    · cases e
  · cases e

theorem zeroCells_size {z : List PV} {zv : Value} {E : Nat} (hc : CR w h N z zv.cells.toList) (hE : z.length = E) (n : Nat) : (Builtin.zeroCells zv.cells n).size = n * E := by
  have := hc.length
  rw [size_zeroCells]
  congr 1
  simp at this
  omega

/-- A row that is nil or lives, with what is put behind it. -/
theorem app_grow {t tx ty el : TypeId} {i : TypeInfo} {zv : Value} {z : List PV} {E n m c : Nat} {base : Option Addr} {a : Value} {old new : List PV} {ovs vs : List Value} {h0 : Heap}
    (ht : P.underlying t = some (.slice el)) (hi : P.info? el = some i) (hz : i.zero = some zv) (hsz : i.size = E) (hzc : CR w h 0 z zv.cells.toList) (hzl : z.length = E)
    (hw : WR w h 0) (hsrc : Src P E tx a m vs w) (hnew : CR w h 0 new vs) (hold : CR w h 0 old ovs) (hol : old.length = n * E)
    (hfirst : (Builtin.firstCells i.size n (.slice base n c)).run P w.drew = .ok ovs.toArray w.drew)
    (hg : c < n + m) (hb : (n + m) * i.bytes ≤ 140737488355328) (h63 : n + m ≤ maxLen) (hkill : ∀ b cs, h0.f b = some cs → h.f b = some cs) :
    ∃ v w', (Builtin.append_ #[t, tx] ty #[.slice base n c, a]).run P w = .ok v w' ∧ St w h w' (h0.set w.heap.size (old ++ new)) ∧ WR w' (h0.set w.heap.size (old ++ new)) 0 ∧
      VR w' (h0.set w.heap.size (old ++ new)) N (.buf w.heap.size E 0 (n + m)) v ∧ h0.f w.heap.size = none := by
  subst hsz
  have hsmall : ((n + m : Nat) : Int) ≤ 9223372036854775807 := by simp only [maxLen] at h63; omega
  have hr := run_append_grow_src (P := P) w t tx ty el i zv ht hi hz base n c ovs hfirst a m vs hsrc hg hsmall (growslice_fits hg hb)
  have hl1 := hnew.length
  have hl2 := hold.length
  have hvl := hsrc.newsLen
  have hge := grownCap_ge w (n + m) c el
  have hcm := grownCap_le_maxLen w (n + m) c el h63
  -- the world behind the draw, with fewer that live
  have hwd : WR w.drew h0 0 := (hw.drew).kill hkill
  have s1 : St w h w.drew h0 := (St.drew w h).trans (St.kill w.drew h h0 hkill)
  have hcat : CR w.drew h0 0 (old ++ new) (ovs ++ vs) := CR.step s1.kp (Nat.le_refl _) _ (hold.append hnew)
  have hcl : (old ++ new).length = (n + m) * i.size := by simp [hol, Nat.add_mul]; omega
  have hzs := zeroCells_size hzc hzl (grownCap w (n + m) c el - (n + m))
  have hasz : (((ovs ++ vs).toArray ++ Builtin.zeroCells zv.cells (grownCap w (n + m) c el - (n + m)))).size = grownCap w (n + m) c el * i.size := by
    rw [Array.size_append, hzs, ← Nat.add_sub_cancel' hge, Nat.add_mul]
    simp only [Nat.add_sub_cancel_left]
    have : (ovs ++ vs).toArray.size = (old ++ new).length := by simp; omega
    rw [this, hcl, ← Nat.add_mul]
  obtain ⟨n1, n2, n3, n4, n5⟩ := new_live (w := w.drew) (h := h0) (N := N) (cs := old ++ new) (arr := (ovs ++ vs).toArray ++ Builtin.zeroCells zv.cells (grownCap w (n + m) c el - (n + m))) (t := el) hwd
    (by rw [hasz, hcl]; exact Nat.mul_le_mul_right _ hge) (by
      have : ((ovs ++ vs).toArray ++ Builtin.zeroCells zv.cells (grownCap w (n + m) c el - (n + m))).toList.take (old ++ new).length = ovs ++ vs := by
        simp only [Array.toList_append, List.toList_toArray]
        rw [hcat.length, List.take_left]
      rw [this]; exact hcat)
  exact ⟨_, _, hr, s1.trans n1, n2, n5 i.size (n + m) _ hasz hge hcm, n3⟩

theorem app_room {t tx ty el : TypeId} {i : TypeInfo} {E n m c b : Nat} {a : Value} {cs new : List PV} {vs : List Value}
    (ht : P.underlying t = some (.slice el)) (hi : P.info? el = some i) (hsz : i.size = E)
    (hw : WR w h 0) (hsrc : Src P E tx a m vs w) (hnew : CR w h 0 new vs) (hb : h.f b = some cs) (hn : n * E ≤ cs.length) (hroom : Room w b (0 + c * E)) (hg : n + m ≤ c) (hcm : c ≤ maxLen) :
    ∃ w', (Builtin.append_ #[t, tx] ty #[.slice (some ⟨b, 0, none⟩) n c, a]).run P w = .ok (.slice (some ⟨b, 0, none⟩) (n + m) c) w' ∧ St w h w' (h.set b (cs.take (n * E) ++ new)) ∧ WR w' (h.set b (cs.take (n * E) ++ new)) 0 ∧
      VR w' (h.set b (cs.take (n * E) ++ new)) N (.buf b E 0 (n + m)) (.slice (some ⟨b, 0, none⟩) (n + m) c) := by
  subst hsz
  obtain ⟨cells, t', hcell, hcl, hcc⟩ := hw b cs hb
  obtain ⟨cells2, t2, fz2, hcell2, hsz2⟩ := hroom
  rw [hcell] at hcell2
  cases hcell2
  have hl1 := hnew.length
  have hvl := hsrc.newsLen
  have hle : (n + m) * i.size ≤ c * i.size := Nat.mul_le_mul_right _ hg
  rw [Nat.add_mul] at hle
  have hr := run_append_room_src (P := P) w t tx ty el i ht hi b 0 n c a m vs hsrc hg
    (fun j hj => by simp [World.cell?, hcell]; omega) (fun j hj => by simp [World.frozen?, hcell])
  rw [Nat.zero_add] at hr
  obtain ⟨s1, s2⟩ := store_live (cs' := cs.take (n * i.size) ++ new ++ cs.drop (n * i.size + new.length)) hw hb hcell (by omega) hnew hcl hcc hn rfl
  have e1 : cs.take (n * i.size) ++ new = (cs.take (n * i.size) ++ new ++ cs.drop (n * i.size + new.length)).take (n * i.size + new.length) := by
    have hlen : (cs.take (n * i.size) ++ new).length = n * i.size + new.length := by rw [List.length_append, List.length_take]; omega
    exact (List.take_left' hlen).symm
  obtain ⟨s3, s4⟩ := WR.shrink s2 (h.set_same b _) ⟨_, e1⟩
  rw [h.set_set] at s3 s4
  refine ⟨_, hr, s1.trans s4, s3, ?_⟩
  simp only [VR]
  obtain ⟨c', q1, q2, q3⟩ := setCells_block b t' (0, 0) vs (n * i.size) w cells hcell (by omega)
  exact ⟨c, rfl, hg, hcm, c', t', (0, 0), q1, by rw [q2, hsz2]⟩
/-! ### Copy -/
/-- What the first `k` elements of a source are. -/
theorem src_first {E m k : Nat} {tx : TypeId} {x : PV} {a : Value} {cs : List PV} (hx : VR w h N x a) (hw : WR w h 0) (e : srcv P h E tx x = some (m, cs)) (hk : k ≤ m) :
    ∃ vs, (Builtin.firstCells E k a).run P w = .ok vs.toArray w ∧ (Builtin.lenOf a).run P w = .ok m w ∧ CR w h 0 (cs.take (k * E)) vs ∧ vs.length = k * E ∧ ∀ u ∈ vs, u.oneCell' = true := by
  have hkE : k * E ≤ m * E := Nat.mul_le_mul_right _ hk
  unfold srcv at e
  split at e
  · split at e
    · cases e
      simp only [VR] at hx; subst hx
      have : k = 0 := by omega
      subst this
      exact ⟨[], by simp [Builtin.firstCells], rfl, by simp [CR], by simp, fun u hu => by cases hu⟩
    · cases e
  · rename_i fr E' m' cs'
    split at e
    · rename_i q
      cases e
      obtain ⟨rfl, q⟩ := q
      simp only [VR] at hx
      obtain ⟨ad, c, vs, rfl, r1, r2, r3, r4⟩ := hx
      have hl := r3.length
      rcases r4 with r4 | ⟨b, o, rfl, r5, r6, r7, r8⟩
      · subst r4
        have : k = 0 := by omega
        subst this
        refine ⟨[], ?_, rfl, by simp [CR], by simp, fun u hu => by cases hu⟩
        cases ad <;> simp [Builtin.firstCells, loadCells, loadCellsFrom]
      · have c2 := r3.take (k * E')
        have hl2 := c2.length
        have hl3 : (vs.take (k * E')).length = k * E' := by rw [List.length_take]; omega
        refine ⟨vs.take (k * E'), ?_, rfl, c2.zero, hl3, fun u hu => c2.one_of u hu⟩
        exact run_firstCells_some (P := P) w E' k ⟨b, o, none⟩ m c _ hl3 fun j u hu => by
          rw [List.getElem?_take] at hu
          split at hu
          · exact r8.range j u hu
          · cases hu
    · cases e
  · rename_i b E' off m'
    split at e
    · rename_i cs' hb
      split at e
      · rename_i q
        cases e
        obtain ⟨rfl, q, q2⟩ := q
        simp only [VR] at hx
        obtain ⟨c, rfl, r1, r2, r3⟩ := hx
        obtain ⟨cells, t', hcell, hcl, hcc⟩ := hw b cs' hb
        have hc2 := ((hcc.drop off).take (m * E')).take (k * E')
        have hl := hc2.length
        have hl2 : (((cs'.drop off).take (m * E')).take (k * E')).length = k * E' := by simp only [List.length_take, List.length_drop]; omega
        rw [hl2] at hl
        refine ⟨_, ?_, rfl, hc2, hl.symm, fun u hu => hc2.one_of u hu⟩
        exact run_firstCells_some (P := P) w E' k ⟨b, off, none⟩ m c _ hl.symm fun j u hu => by
          rw [Addr.add_mid]
          rw [List.getElem?_take] at hu
          split at hu
          · rw [List.getElem?_take] at hu
            split at hu
            · rw [List.getElem?_drop] at hu
              have := Mem.live hcell cs'.length (off + j) u hu
              simpa using this
            · cases hu
          · cases hu
      · cases e
    · cases e
  · cases e
/-- Elements copied into a live row. -/
theorem copy_into {t tx ty el : TypeId} {i : TypeInfo} {E n m c b off : Nat} {x : PV} {a : Value} {cs new : List PV}
    (ht : P.underlying t = some (.slice el)) (hi : P.info? el = some i) (hsz : i.size = E) (hx : VR w h N x a) (hw : WR w h 0) (e : srcv P h E tx x = some (m, new)) (hb : h.f b = some cs) (hn : off + n * E ≤ cs.length) (hnew : new.length = m * E) :
    ∃ w', (Builtin.copy_ #[t, tx] ty #[.slice (some ⟨b, off, none⟩) n c, a]).run P w = .ok (goInt ((min m n : Nat) : Int)) w' ∧ St w h w' (h.set b (wr cs off (new.take (min m n * E)))) ∧ WR w' (h.set b (wr cs off (new.take (min m n * E)))) 0 := by
  subst hsz
  obtain ⟨vs, s1, s2, s3, s4, s5⟩ := src_first (k := min m n) hx hw e (Nat.min_le_left _ _)
  obtain ⟨cells, t', hcell, hcl, hcc⟩ := hw b cs hb
  have hle : min m n * i.size ≤ n * i.size := Nat.mul_le_mul_right _ (Nat.min_le_right _ _)
  have hst := run_storeCells_cells (P := P) b off vs 0 w (fun j hj => by simp [World.cell?, hcell]; omega) (fun j hj => by simp [World.frozen?, hcell]) s5
  simp only [Nat.add_zero] at hst
  have hl := s3.length
  obtain ⟨r1, r2⟩ := store_live (cs' := wr cs off (new.take (min m n * i.size))) hw hb hcell (by omega) s3 hcl hcc (by omega) rfl
  refine ⟨_, ?_, r1, r2⟩
  have e2 : Nat.min m n = min m n := rfl
  simp [Builtin.copy_, run_underlying ht, sizeOf, typeInfo, hi, s1, s2, e2, hst]
/-- Nothing is copied into what has no place. -/
theorem copy_none {t tx ty el : TypeId} {i : TypeInfo} {m : Nat} {ad : Option Addr} {c : Nat} {x : PV} {a : Value} {new : List PV}
    (ht : P.underlying t = some (.slice el)) (hi : P.info? el = some i) (hx : VR w h N x a) (hw : WR w h 0) (e : srcv P h i.size tx x = some (m, new)) :
    (Builtin.copy_ #[t, tx] ty #[.slice ad 0 c, a]).run P w = .ok (goInt 0) w := by
  obtain ⟨vs, s1, s2, s3, s4, s5⟩ := src_first (k := 0) hx hw e (Nat.zero_le _)
  have : vs = [] := List.length_eq_zero_iff.1 (by omega)
  subst this
  cases ad <;> simp [Builtin.copy_, run_underlying ht, sizeOf, typeInfo, hi, s1, s2, storeCells]
end
end Go.Pm
