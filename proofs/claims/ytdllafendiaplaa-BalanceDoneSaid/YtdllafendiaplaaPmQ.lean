/-
  An abstract machine over pure values, part Q: loops over a row, and what a walk needs besides.
  Conditions: none.
-/
import Derived.Test.YtdllafendiaplaaPmP
namespace Go.Pm
set_option linter.unusedVariables false
set_option linter.unusedSimpArgs false

section
variable {P : Program} {L : List Nat} {Q : Exit → Sl → Heap → Prop} {σ : Sl} {h : Heap}
/-- A loop that counts up to `N`: what holds ahead of round `i`. -/
theorem pwp_up {a : PC} (N : Nat) (J : Nat → Sl → Heap → Prop) (h0 : J 0 σ h)
    (round : ∀ i σ h (K : Sl → Heap → Prop), i ≤ N → J i σ h → (i < N → ∀ σ' h', J (i + 1) σ' h' → K σ' h') → pwp P L a (thn K Q) σ h) : pwp P L (.loop a) Q σ h :=
  pwp_loop (fun k σ h => ∃ i, i + k = N ∧ J i σ h) N ⟨0, by omega, h0⟩ fun k σ h ⟨i, hi, hj⟩ =>
    round i σ h _ (by omega) hj fun hlt σ' h' q => ⟨k - 1, by omega, i + 1, by omega, q⟩
end
theorem wf64 {n : Int} (h : (Lit.int .i64 n).wf = true) : -9223372036854775808 ≤ n ∧ n ≤ 9223372036854775807 := by
  simp [Lit.wf, IntKind.min, IntKind.max, IntKind.signed, IntKind.bits] at h; omega
theorem wf8 {n : Int} (h : (Lit.int .u8 n).wf = true) : 0 ≤ n ∧ n ≤ 255 := by
  simp [Lit.wf, IntKind.min, IntKind.max, IntKind.signed, IntKind.bits] at h; omega
theorem pmW : (∀ cs, wr cs 0 [] = cs) ∧ (∀ (c x : PV) cs new, wr (c :: cs) 0 (x :: new) = x :: wr cs 0 new) ∧ (∀ (c : PV) cs o new, wr (c :: cs) (o + 1) new = c :: wr cs o new) := by
  refine ⟨by simp [wr], by simp [wr], ?_⟩
  intro c cs o new
  simp only [wr, List.take_succ_cons, List.cons_append, List.cons.injEq, true_and]
  rw [show o + 1 + new.length = (o + new.length) + 1 by omega, List.drop_succ_cons]
def pf2 (a : Option (Nat × Nat)) (v : Option (List PV)) (pl : Nat → Option (Nat × Nat)) (cs : List PV) (rest : List (Nat × PV)) : Option (List PV) := match a, v with
  | some (off, size), some vs => if vs.length = size ∧ off + size ≤ cs.length then pfill pl (wr cs off vs) rest else none
  | _, _ => none
def bs2 (a : Option Nat) (z : Option (List PV)) (n : Nat) (ps : List (Nat × PV)) : Option (Nat × List PV) := match a, z with
  | some E, some z => if z.length = E ∧ n * E ≤ 16777216 ∧ n ≤ 16777216 then (pfill (fun i => some (i * E, E)) (rep n z) ps).map fun cs => (E, cs) else none
  | _, _ => none
def bs1 (P : Program) (el : Option TypeId) (n : Nat) (ps : List (Nat × PV)) : Option (Nat × List PV) := match el with
  | some el => bs2 (tsz P el) (zc P el) n ps
  | none => none
def src2 (c : Option (List PV)) (e : Bool) (E E' off m : Nat) : Option (Nat × List PV) := match c with
  | some cs => if E' = E ∧ e ∧ off + m * E ≤ cs.length then some (m, (cs.drop off).take (m * E)) else none
  | none => none
def ldp3 (c : Option (List PV)) (g : Bool) (n off : Nat) : Option PV := match c with | some cs => (ldv g n cs off).map PV.old | none => none
theorem pmB : (∀ g n h b off, ldp2 (some g) (some n) h (.ptr b off) = ldp3 (h.f b) g n off) ∧ (∀ cs g n off, ldp3 (some cs) g n off = (ldv g n cs off).map PV.old) ∧
    (∀ pl z ps K h, bldK (some pl) (some z) ps K h = bl2K (pfill pl z ps) K h) ∧ (∀ pl cs, pfill pl cs [] = some cs) ∧ (∀ pl cs i v rest, pfill pl cs ((i, v) :: rest) = pf2 (pl i) (flat v) pl cs rest) ∧
    (∀ off size vs pl cs rest, pf2 (some (off, size)) (some vs) pl cs rest = if vs.length = size ∧ off + size ≤ cs.length then pfill pl (wr cs off vs) rest else none) ∧
    (∀ P t n ps, bsl P t n ps = bs1 P (elt P t) n ps) ∧ (∀ P el n ps, bs1 P (some el) n ps = bs2 (tsz P el) (zc P el) n ps) ∧
    (∀ E z n ps, bs2 (some E) (some z) n ps = if z.length = E ∧ n * E ≤ 16777216 ∧ n ≤ 16777216 then (pfill (fun i => some (i * E, E)) (rep n z) ps).map fun cs => (E, cs) else none) ∧
    (∀ z, rep 0 z = []) ∧ (∀ n z, rep (n + 1) z = z ++ rep n z) ∧
    (∀ P h E tx, srcv P h E tx .nils = if (elt P tx).isSome then some (0, []) else none) ∧ (∀ P h E tx fr E' m cs, srcv P h E tx (.list fr E' m cs) = if E' = E ∧ (elt P tx).isSome then some (m, cs) else none) ∧
    (∀ P h E tx b E' off m, srcv P h E tx (.buf b E' off m) = src2 (h.f b) (elt P tx).isSome E E' off m) ∧ (∀ cs e E E' off m, src2 (some cs) e E E' off m = if E' = E ∧ e ∧ off + m * E ≤ cs.length then some (m, (cs.drop off).take (m * E)) else none) := by
  refine ⟨fun _ _ _ _ _ => rfl, fun _ _ _ _ => rfl, fun _ _ _ _ _ => rfl, fun _ _ => rfl, fun pl cs i v rest => ?_, fun _ _ _ _ _ _ => rfl, fun P t n ps => ?_, fun _ _ _ _ => rfl, fun _ _ _ _ => rfl, fun _ => rfl, fun n z => ?_, fun _ _ _ _ => rfl, fun _ _ _ _ _ _ _ _ => rfl, fun _ h _ _ b _ _ _ => ?_, fun _ _ _ _ _ _ => rfl⟩
  · rw [pfill.eq_def, pf2.eq_def]; dsimp only; rcases pl i with _ | ⟨a, b⟩ <;> cases flat v <;> rfl
  · rw [bsl.eq_def, bs1.eq_def]; cases elt P t with
    | none => rfl
    | some el => simp only [bs2]; cases tsz P el <;> cases zc P el <;> rfl
  · rw [rep, List.replicate_succ, List.flatten_cons]; rfl
  · rw [srcv.eq_def, src2.eq_def]; dsimp only; cases h.f b <;> rfl
def blkOf : PV → Option Nat
  | .buf b _ _ _ => some b
  | .ptr b _ => some b
  | _ => none
/-- A row that is being gathered: nothing yet, or a live block of its own. `h`: the heap ahead of it all. -/
def Acc (h h' : Heap) (v : PV) (E n : Nat) (cs : List PV) : Prop := (v = .nils ∧ n = 0 ∧ cs = []) ∨ ∃ b, v = .buf b E 0 n ∧ h.f b = none ∧ h'.f b = some cs ∧ cs.length = n * E
/-- A live block that is a variable of this call. -/
def Own (h h' : Heap) (b : Nat) (cs : List PV) : Prop := h.f b = none ∧ h'.f b = some cs
/-- What is live beside `v` is as it was, and is not `v'`. -/
def Beside (h' : Heap) (v : PV) (h'' : Heap) (v' : PV) : Prop := ∀ x cs, h'.f x = some cs → blkOf v ≠ some x → h''.f x = some cs ∧ blkOf v' ≠ some x
theorem Own.beside {h h' h'' : Heap} {b : Nat} {cs : List PV} {v v' : PV} (o : Own h h' b cs) (s : Beside h' v h'' v') (d : blkOf v ≠ some b) : Own h h'' b cs ∧ blkOf v' ≠ some b :=
  ⟨⟨o.1, (s b cs o.2 d).1⟩, (s b cs o.2 d).2⟩
theorem Acc.beside {h h' h'' : Heap} {u : PV} {E n : Nat} {cs : List PV} {v v' : PV} (a : Acc h h' u E n cs) (s : Beside h' v h'' v') (d : ∀ b, blkOf u = some b → blkOf v ≠ some b) : Acc h h'' u E n cs ∧ ∀ b, blkOf u = some b → blkOf v' ≠ some b := by
  rcases a with ⟨rfl, rfl, rfl⟩ | ⟨b, rfl, h1, h2, h3⟩
  · exact ⟨.inl ⟨rfl, rfl, rfl⟩, fun b e => by cases e⟩
  · have := s b cs h2 (d b rfl)
    exact ⟨.inr ⟨b, rfl, h1, this.1, h3⟩, fun x e => by cases e; exact this.2⟩
theorem Acc.nil (h h' : Heap) (E : Nat) : Acc h h' .nils E 0 [] := .inl ⟨rfl, rfl, rfl⟩
theorem Acc.buf {h h' : Heap} {b E n : Nat} {cs : List PV} (e : h.f b = none) (e2 : h'.f b = some cs) (l : cs.length = n * E) : Acc h h' (.buf b E 0 n) E n cs := .inr ⟨b, rfl, e, e2, l⟩
theorem Acc.len {h h' : Heap} {v : PV} {E n : Nat} {cs : List PV} (a : Acc h h' v E n cs) : cs.length = n * E := by
  rcases a with ⟨_, rfl, rfl⟩ | ⟨b, _, _, _, l⟩
  · simp
  · exact l
/-- One that is appended to. -/
theorem Acc.app {h h' : Heap} {v : PV} {E n m by_ : Nat} {cs new : List PV} {K : Kt} (a : Acc h h' v E n cs) (l : h.le h') (hm : m ≠ 0) (hn : new.length = m * E) (b1 : (n + m) * by_ ≤ 140737488355328) (b2 : n + m ≤ maxLen)
    (k : ∀ v' h'', Acc h h'' v' E (n + m) (cs ++ new) → h.le h'' → Beside h' v h'' v' → K v' h'') : ap2K (some (m, new)) E by_ v K h' := by
  rcases a with ⟨rfl, rfl, rfl⟩ | ⟨b, rfl, e1, e2, e3⟩
  · refine ⟨by simpa using b1, by simpa using b2, ?_⟩
    unfold apnK; rw [if_neg hm]
    intro b hb
    have hb0 : h.f b = none := by
      cases e : h.f b with
      | none => rfl
      | some c => rw [l b c e] at hb; cases hb
    refine k _ _ (.inr ⟨b, by simp, hb0, Heap.set_same _ _ _, by simpa using hn⟩) (Heap.le_set l hb0) ?_
    intro x ds hx _
    have hne : x ≠ b := fun e => by rw [e, hb] at hx; cases hx
    exact ⟨by rw [Heap.set_ne _ _ hne]; exact hx, by simp [blkOf]; exact fun e => hne e.symm⟩
  · refine ⟨rfl, rfl, b1, b2, ?_⟩
    rw [e2]
    refine ⟨by omega, fun b' hb' => ?_⟩
    have ht : cs.take (n * E) = cs := List.take_of_length_le (by omega)
    rw [ht]
    have hb0 : h.f b' = none := by
      rcases hb' with rfl | hb'
      · exact e1
      · cases e : h.f b' with
        | none => rfl
        | some c => rw [l b' c e] at hb'; cases hb'
    refine k _ _ (.inr ⟨b', rfl, hb0, Heap.set_same _ _ _, by rw [List.length_append, e3, hn, Nat.add_mul]⟩) (Heap.le_set (Heap.le_kill l e1) hb0) ?_
    intro x ds hx hv
    have h1 : x ≠ b := fun e => hv (by rw [e]; rfl)
    have h2 : x ≠ b' := by
      rintro rfl
      rcases hb' with rfl | hb'
      · exact h1 rfl
      · rw [hb'] at hx; cases hx
    exact ⟨by rw [Heap.set_ne _ _ h2, Heap.kill_ne _ h1]; exact hx, by simp [blkOf]; exact fun e => h2 e.symm⟩
theorem Acc.wk {h h' : Heap} {v : PV} {E n : Nat} {cs : List PV} (a : Acc h h' v E n cs) (l : h.le h') : Wk h h' v h (.list true E n (olds cs)) := by
  rcases a with ⟨rfl, rfl, rfl⟩ | ⟨b, rfl, e1, e2, e3⟩
  · exact Wk.nil l true E
  · have := Wk.buf (E := E) (off := 0) (n := n) l e1 e2 e1 (by omega)
    rwa [List.drop_zero, List.take_of_length_le (by omega)] at this
/-- A row that comes back. -/
theorem Acc.fin {h h' : Heap} {v : PV} {E n : Nat} {cs : List PV} {K : Kt} (a : Acc h h' v E n cs) (l : h.le h') (k : K (.list true E n (olds cs)) h) : finK v h K h' := finK_wk (a.wk l) k
/-- A row that comes back beside another result. -/
theorem Acc.fin2 {h h' : Heap} {v u : PV} {E n : Nat} {cs : List PV} {K : Kt} (a : Acc h h' v E n cs) (l : h.le h') (k : K (.tup [.list true E n (olds cs), u]) h) : finK (.tup [v, u]) h K h' :=
  finK_wk (Wk.tup (us := [.list true E n (olds cs), u]) l ⟨a.wk l, Wk.drop u l, trivial⟩) k
theorem Own.set {h h' : Heap} {b : Nat} {cs ds : List PV} (o : Own h h' b cs) : Own h (h'.set b ds) b ds := ⟨o.1, Heap.set_same _ _ _⟩
theorem Own.le {h h' : Heap} {b : Nat} {cs ds : List PV} (o : Own h h' b cs) (l : h.le h') : h.le (h'.set b ds) := Heap.le_set l o.1
theorem Own.other {h h' : Heap} {b x : Nat} {cs ds : List PV} (o : Own h h' b cs) (e : x ≠ b) : Own h (h'.set x ds) b cs := ⟨o.1, by rw [Heap.set_ne _ _ (Ne.symm e)]; exact o.2⟩
theorem Acc.set {h h' : Heap} {v : PV} {E n x : Nat} {cs ds : List PV} (a : Acc h h' v E n cs) (e : blkOf v ≠ some x) : Acc h (h'.set x ds) v E n cs := by
  rcases a with ⟨rfl, rfl, rfl⟩ | ⟨b, rfl, h1, h2, h3⟩
  · exact .inl ⟨rfl, rfl, rfl⟩
  · exact .inr ⟨b, rfl, h1, by rw [Heap.set_ne]; exact h2; exact fun e' => e (by rw [e']; rfl), h3⟩
theorem drop_getD {α : Type} [Inhabited α] (l : List α) {i : Nat} (h : i < l.length) : l.drop i = l.getD i default :: l.drop (i + 1) := by
  rw [List.drop_eq_getElem_cons h]; simp [List.getD, h]
theorem Heap.kill_kset (h : Heap) (b : Nat) (cs : List PV) : (h.set b cs).kill b = h.kill b := by
  apply Heap.ext'; intro x; by_cases e : x = b <;> simp [Heap.kill, Heap.set, e]
theorem Heap.kill_none {h : Heap} {b : Nat} (e : h.f b = none) : h.kill b = h := by
  apply Heap.ext'; intro x; by_cases e' : x = b
  · subst e'; simp [Heap.kill, e]
  · simp [Heap.kill, e']
theorem finK_rf {v : PV} {h0 h : Heap} {K : Kt} (k : K v h) : finK v h0 K h := ⟨v, h, Wk.refl _ _ _, k⟩
/-- One element of a row is written. -/
theorem wr_flat {α : Type} (f : α → List PV) (E : Nat) (he : ∀ x, (f x).length = E) (x : α) : ∀ (l : List α) {i : Nat}, i < l.length → wr (l.flatMap f) (i * E) (f x) = (l.set i x).flatMap f
  | [], i, h => absurd h (by simp)
  | a :: l, 0, h => by
    simp only [wr, List.flatMap_cons, Nat.zero_mul, List.take_zero, List.nil_append, Nat.zero_add, List.set_cons_zero, he]
    rw [show E = (f a).length from (he a).symm, List.drop_left]
  | a :: l, i + 1, h => by
    have ih := wr_flat f E he x l (i := i) (by simpa using h)
    simp only [wr, he, List.flatMap_cons, List.set_cons_succ] at ih ⊢
    rw [← ih, show (i + 1) * E = (f a).length + i * E by rw [he, Nat.add_mul]; omega, Nat.add_assoc, List.take_length_add_append, List.drop_length_add_append]
    simp only [List.append_assoc]
theorem wr_map {α : Type} (f : α → PV) (x : α) (l : List α) {i : Nat} (h : i < l.length) : wr (l.map f) i [f x] = (l.set i x).map f := by
  have := wr_flat (fun x => [f x]) 1 (fun _ => rfl) x l h
  simp only [Nat.mul_one] at this
  have e : ∀ l : List α, l.flatMap (fun x => [f x]) = l.map f := fun l => by induction l with | nil => rfl | cons a l ih => simp [ih]
  rwa [e, e] at this
theorem rep_map {α : Type} (f : α → PV) (x : α) : ∀ n : Nat, rep n [f x] = (List.replicate n x).map f
  | 0 => rfl
  | n + 1 => by
    have := rep_map f x n
    simp only [rep, List.replicate_succ, List.flatten_cons, List.map_cons, List.singleton_append] at this ⊢
    rw [this]
theorem Acc.live {h h' : Heap} {v : PV} {E n : Nat} {cs : List PV} (a : Acc h h' v E n cs) : (v = .nils ∧ n = 0 ∧ cs = []) ∨ ∃ b, v = .buf b E 0 n ∧ h.f b = none ∧ h'.f b = some cs ∧ cs.length = n * E := a
end Go.Pm
