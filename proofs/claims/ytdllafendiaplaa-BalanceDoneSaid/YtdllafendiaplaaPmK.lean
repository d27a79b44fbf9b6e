/-
  An abstract machine over pure values, part K: the orders, and the rule for a region that draws.
  Conditions: none.
-/
import Derived.Test.YtdllafendiaplaaPmJ
namespace Go.Pm
set_option linter.unusedVariables false
set_option linter.unusedSimpArgs false

def nextMask (ms : List Nat) (o : Oper) : Nat := o.after.toList.foldl (fun s e => if Region.binds .any e then s ||| (2 ^ e.on ||| ms.getD e.on 0) else s) 0
def masks : List Oper → List Nat → List Nat
  | [], ms => ms
  | o :: rest, ms => masks rest (ms ++ [nextMask ms o])
def okDraw (L : List Nat) (ops : Array Oper) : Bool :=
  let ms := masks ops.toList []
  (List.range ops.size).all fun j => match ops[j]? with
    | none => true
    | some y => y.after.all (fun e => !Region.binds .any e || decide (e.on < j)) &&
      (List.range j).all fun x => match ops[x]? with
        | none => true
        | some o => (ms.getD j 0).testBit x || may L ops o y

section
variable {P : Program} {ops : Array Oper} {L : List Nat}

def Pre (o : Oper) (listed : Array Bool) : Prop := ∀ e ∈ o.after, Region.binds .any e = true → listed.getD e.on false = true
def Cl (ops : Array Oper) (listed : Array Bool) : Prop := ∀ j o, ops[j]? = some o → listed.getD j false = true → Pre o listed

theorem nextMask_spec {ms : List Nat} {listed : Array Bool} (hc : Cl ops listed)
    (hms : ∀ (j m : Nat) (o : Oper), ms[j]? = some m → ops[j]? = some o → Pre o listed → ∀ x, m.testBit x = true → listed.getD x false = true)
    (hlen : ms.length ≤ ops.size) {o : Oper} (ho : Pre o listed) : ∀ x, (nextMask ms o).testBit x = true → listed.getD x false = true := by
  unfold nextMask
  have key : ∀ (es : List Edge) (s : Nat), (∀ e ∈ es, Region.binds .any e = true → listed.getD e.on false = true) → (∀ x, s.testBit x = true → listed.getD x false = true) →
      ∀ x, (es.foldl (fun s e => if Region.binds .any e then s ||| (2 ^ e.on ||| ms.getD e.on 0) else s) s).testBit x = true → listed.getD x false = true := by
    intro es
    induction es with
    | nil => intro s _ hs x hx; exact hs x hx
    | cons e es ih =>
      intro s he hs x hx
      simp only [List.foldl_cons] at hx
      refine ih _ (fun e' h' => he e' (List.mem_cons_of_mem _ h')) ?_ x hx
      intro y hy
      by_cases hb : Region.binds .any e = true
      · rw [if_pos hb, Nat.testBit_or, Nat.testBit_or, Bool.or_eq_true, Bool.or_eq_true] at hy
        have hl := he e (List.mem_cons_self ..) hb
        rcases hy with hy | hy | hy
        · exact hs y hy
        · rw [Nat.testBit_two_pow] at hy
          have : e.on = y := by simpa using hy
          rw [← this]; exact hl
        · have hlt : e.on < ms.length := by
            rcases Nat.lt_or_ge e.on ms.length with h | h
            · exact h
            · rw [List.getD_eq_getElem?_getD, List.getElem?_eq_none h] at hy
              simp at hy
          rw [List.getD_eq_getElem?_getD, List.getElem?_eq_getElem hlt] at hy
          have hops : ops[e.on]? = some (ops[e.on]'(by omega)) := Array.getElem?_eq_getElem _
          exact hms e.on _ _ (List.getElem?_eq_getElem hlt) hops (hc e.on _ hops hl) y (by simpa using hy)
      · rw [if_neg hb] at hy; exact hs y hy
  exact key o.after.toList 0 (fun e he hb => ho e (by simpa using he) hb) (fun x hx => by simp at hx)
theorem masks_spec {listed : Array Bool} (hc : Cl ops listed) : ∀ (rest : List Oper) (ms : List Nat), ops.toList.drop ms.length = rest → ms.length ≤ ops.size →
    (∀ (j m : Nat) (o : Oper), ms[j]? = some m → ops[j]? = some o → Pre o listed → ∀ x, m.testBit x = true → listed.getD x false = true) →
    ∀ (j m : Nat) (o : Oper), (masks rest ms)[j]? = some m → ops[j]? = some o → Pre o listed → ∀ x, m.testBit x = true → listed.getD x false = true
  | [], ms, _, _, hms => hms
  | o :: rest, ms, hd, hl, hms => by
    have hlt : ms.length < ops.size := by
      rcases Nat.lt_or_ge ms.length ops.size with h | h
      · exact h
      · rw [List.drop_eq_nil_of_le (by simpa using h)] at hd; cases hd
    rw [List.drop_eq_getElem_cons (by simpa using hlt)] at hd
    simp only [List.cons.injEq] at hd
    refine masks_spec hc rest (ms ++ [nextMask ms o]) (by simpa using hd.2) (by simp; omega) fun j m o' hj ho' hp x hx => ?_
    rw [List.getElem?_append] at hj
    split at hj
    · exact hms j m o' hj ho' hp x hx
    · rename_i hjl
      have hjl' : j = ms.length := by
        rcases Nat.lt_or_ge (j - ms.length) 1 with h | h
        · omega
        · rw [List.getElem?_eq_none (by simpa using h)] at hj; cases hj
      subst hjl'
      simp at hj
      subst hj
      have : ops[ms.length]? = some o := by rw [Array.getElem?_eq_getElem hlt]; simpa using hd.1
      rw [this] at ho'
      cases ho'
      exact nextMask_spec hc hms (by omega) hp x hx

theorem okDraw_back (h : okDraw L ops = true) {j : Nat} {o : Oper} (ho : ops[j]? = some o) : ∀ e ∈ o.after, Region.binds .any e = true → e.on < j := by
  intro e he hb
  simp only [okDraw, List.all_eq_true, List.mem_range] at h
  have := h j (Array.getElem?_eq_some_iff.1 ho).1
  rw [ho] at this
  simp only [Bool.and_eq_true] at this
  have h1 := Array.all_eq_true_iff_forall_mem.1 this.1 e he
  simpa [hb] using h1
theorem okDraw_may (h : okDraw L ops = true) {listed : Array Bool} (hc : Cl ops listed) {x j : Nat} {o y : Oper} (hx : ops[x]? = some o) (hy : ops[j]? = some y) (hlt : x < j)
    (hun : listed.getD x false = false) (hp : Pre y listed) : may L ops o y = true := by
  simp only [okDraw, List.all_eq_true, List.mem_range] at h
  have := h j (Array.getElem?_eq_some_iff.1 hy).1
  rw [hy] at this
  simp only [Bool.and_eq_true, List.all_eq_true, List.mem_range] at this
  have h2 := this.2 x hlt
  rw [hx] at h2
  simp only [Bool.or_eq_true] at h2
  rcases h2 with h2 | h2
  · exfalso
    cases hm : (masks ops.toList [])[j]? with
    | none => rw [List.getD_eq_getElem?_getD, hm] at h2; simp at h2
    | some m =>
      rw [List.getD_eq_getElem?_getD, hm] at h2
      have := masks_spec hc ops.toList [] (by simp) (by simp) (by simp) j m y hm hy hp x (by simpa using h2)
      rw [hun] at this
      cases this
  · exact h2

/-! ### Whatever order -/
def idx (P : Program) (L : List Nat) (ops : Array Oper) (i : Nat) (K : Sl → Heap → Prop) (σ : Sl) (h : Heap) : Prop :=
  match ops[i]? with
  | none => K σ h
  | some o => gD P L ops o σ h fun v h' => K (put σ o.dst v) h'
def tD (P : Program) (L : List Nat) (ops : Array Oper) (K : Sl → Heap → Prop) : List Nat → Sl → Heap → Prop
  | [] => K
  | i :: is => idx P L ops i (tD P L ops K is)
def pAny (P : Program) (L : List Nat) (ops : Array Oper) (K : Sl → Heap → Prop) : Nat → Array Bool → Sl → Heap → Prop
  | 0, listed, σ, h => Region.ready .any ops listed = [] ∧ K σ h
  | fuel + 1, listed, σ, h => (Region.ready .any ops listed = [] → K σ h) ∧ ∀ i ∈ Region.ready .any ops listed, idx P L ops i (pAny P L ops K fuel (listed.setIfInBounds i true)) σ h

theorem idx_mono {i : Nat} {K K' : Sl → Heap → Prop} (hk : ∀ σ h, K σ h → K' σ h) {σ : Sl} {h : Heap} (hp : idx P L ops i K σ h) : idx P L ops i K' σ h := by
  unfold idx at *
  split
  · rename_i e; rw [e] at hp; exact hk _ _ hp
  · rename_i o e; rw [e] at hp; exact gD_mono (fun v h' q => hk _ _ q) hp
theorem front {K : Sl → Heap → Prop} {j : Nat} {B : List Nat} : ∀ (A : List Nat), (∀ x ∈ A, ∀ o y, ops[x]? = some o → ops[j]? = some y → may L ops o y = true) →
    ∀ (σ : Sl) (h : Heap), tD P L ops K (A ++ j :: B) σ h → idx P L ops j (tD P L ops K (A ++ B)) σ h
  | [], _, σ, h, hp => hp
  | x :: A, hA, σ, h, hp => by
    simp only [List.cons_append, tD] at hp ⊢
    have h1 := idx_mono (fun σ h q => front A (fun y hy => hA y (List.mem_cons_of_mem _ hy)) σ h q) hp
    have hxy := hA x (List.mem_cons_self ..)
    unfold idx at h1 ⊢
    cases hx : ops[x]? with
    | none =>
      rw [hx] at h1
      simp only at h1 ⊢
      exact h1
    | some o =>
      rw [hx] at h1
      cases hj : ops[j]? with
      | none => rw [hj] at h1; exact h1
      | some y =>
        rw [hj] at h1
        exact swap (hxy o y hx hj) h1

def un_ (ops : Array Oper) (listed : Array Bool) : List Nat := (List.range ops.size).filter fun i => !listed.getD i true
theorem mem_un {listed : Array Bool} {i : Nat} : i ∈ un_ ops listed ↔ i < ops.size ∧ listed.getD i true = false := by
  simp [un_]
theorem un_sorted (listed : Array Bool) : (un_ ops listed).Pairwise (· < ·) := List.Pairwise.filter _ List.pairwise_lt_range
theorem getD_same {listed : Array Bool} (hs : listed.size = ops.size) {i : Nat} (hi : i < ops.size) : listed.getD i true = listed.getD i false := by
  rw [Array.getD_eq_getD_getElem?, Array.getD_eq_getD_getElem?, Array.getElem?_eq_getElem (by omega)]; rfl

theorem any_of_text (ok : okDraw L ops = true) {K : Sl → Heap → Prop} : ∀ (fuel : Nat) (listed : Array Bool) (σ : Sl) (h : Heap), listed.size = ops.size → Cl ops listed → (un_ ops listed).length = fuel →
    tD P L ops K (un_ ops listed) σ h → pAny P L ops K fuel listed σ h := by
  intro fuel
  induction fuel with
  | zero =>
    intro listed σ h hs hc hl hp
    have hn : un_ ops listed = [] := List.length_eq_zero_iff.1 hl
    rw [hn] at hp
    refine ⟨?_, hp⟩
    rcases hr : Region.ready .any ops listed with _ | ⟨i, l⟩
    · rfl
    · have hi : i ∈ Region.ready .any ops listed := by rw [hr]; exact List.mem_cons_self ..
      obtain ⟨h1, o, ho, _⟩ := mem_ready.1 hi
      have : i ∈ un_ ops listed := mem_un.2 ⟨(Array.getElem?_eq_some_iff.1 ho).1, h1⟩
      rw [hn] at this; cases this
  | succ fuel ih =>
    intro listed σ h hs hc hl hp
    refine ⟨fun hr => ?_, fun j hj => ?_⟩
    · exfalso
      cases hU : un_ ops listed with
      | nil => rw [hU] at hl; cases hl
      | cons i l =>
        have hi : i ∈ un_ ops listed := by rw [hU]; exact List.mem_cons_self ..
        obtain ⟨hi1, hi2⟩ := mem_un.1 hi
        have ho : ops[i]? = some ops[i] := Array.getElem?_eq_getElem hi1
        have hsort := un_sorted (ops := ops) listed
        rw [hU] at hsort
        have : i ∈ Region.ready .any ops listed := mem_ready.2 ⟨hi2, ops[i], ho, fun e he hb => by
          have hlt := okDraw_back ok ho e he hb
          cases hq : listed.getD e.on false with
          | true => rfl
          | false =>
            exfalso
            have hm : e.on ∈ un_ ops listed := mem_un.2 ⟨by omega, by rw [getD_same hs (by omega)]; exact hq⟩
            rw [hU] at hm
            rcases List.mem_cons.1 hm with hm | hm
            · omega
            · have := (List.pairwise_cons.1 hsort).1 _ hm; omega⟩
        rw [hr] at this
        cases this
    · obtain ⟨hj1, y, hy, hpre⟩ := mem_ready.1 hj
      have hjlt := (Array.getElem?_eq_some_iff.1 hy).1
      have hju : j ∈ un_ ops listed := mem_un.2 ⟨hjlt, hj1⟩
      obtain ⟨A, B, hAB⟩ := List.append_of_mem hju
      have hsort := un_sorted (ops := ops) listed
      rw [hAB] at hsort
      have hsA := List.pairwise_append.1 hsort
      have hA : ∀ x ∈ A, x < j := fun x hx => hsA.2.2 x hx j (List.mem_cons_self ..)
      have hB : ∀ x ∈ B, j < x := fun x hx => (List.pairwise_cons.1 hsA.2.1).1 x hx
      rw [hAB] at hp
      have hf := front A (fun x hx o y' ho hy' => by
        rw [hy] at hy'
        cases hy'
        have hxu : x ∈ un_ ops listed := by rw [hAB]; exact List.mem_append_left _ hx
        obtain ⟨hx1, hx2⟩ := mem_un.1 hxu
        exact okDraw_may ok hc ho hy (hA x hx) (by rw [← getD_same hs hx1]; exact hx2) hpre) σ h hp
      have hU' : un_ ops (listed.setIfInBounds j true) = A ++ B := by
        have e1 : un_ ops (listed.setIfInBounds j true) = (un_ ops listed).filter fun i => decide (i ≠ j) := by
          simp only [un_, List.filter_filter]
          apply List.filter_congr
          intro i hi
          have hilt : i < listed.size := by rw [hs]; simpa using hi
          by_cases e : i = j
          · subst e; simp [hilt]
          · have e' : (listed.setIfInBounds j true).getD i true = listed.getD i true := getD_set_ne true (fun q => e q.symm)
            rw [e']; simp [e]
        rw [e1, hAB, List.filter_append, List.filter_cons]
        simp only [ne_eq, not_true_eq_false, decide_false, Bool.false_eq_true, if_false]
        rw [List.filter_eq_self.2, List.filter_eq_self.2]
        · intro x hx; have := hB x hx; simp; omega
        · intro x hx; have := hA x hx; simp; omega
      have hlen : (un_ ops (listed.setIfInBounds j true)).length = fuel := by
        rw [hU']
        rw [hAB] at hl
        simp at hl ⊢
        omega
      have hcl : Cl ops (listed.setIfInBounds j true) := by
        intro k o hk hkl e he hb
        by_cases e1 : k = j
        · subst e1
          rw [hy] at hk
          cases hk
          exact getD_set_true (hpre e he hb)
        · rw [getD_set_ne false (fun q => e1 q.symm)] at hkl
          exact getD_set_true (hc k o hk hkl e he hb)
      refine idx_mono (fun σ' h' q => ih _ σ' h' (by simp [hs]) hcl hlen ?_) hf
      rw [hU']
      exact q

theorem tD_pops {K : Sl → Heap → Prop} : ∀ (l : List Oper) (k : Nat), ops.toList.drop k = l → ∀ (σ : Sl) (h : Heap), popsD P L ops K l σ h → tD P L ops K ((List.range ops.size).drop k) σ h
  | [], k, e, σ, h, hp => by
    have : ops.size ≤ k := by simpa using e
    rw [List.drop_eq_nil_of_le (by simpa using this)]
    exact hp
  | o :: rest, k, e, σ, h, hp => by
    have hlt : k < ops.size := by
      rcases Nat.lt_or_ge k ops.size with h | h
      · exact h
      · rw [List.drop_eq_nil_of_le (by simpa using h)] at e; cases e
    rw [List.drop_eq_getElem_cons (by simpa using hlt)] at e ⊢
    simp only [List.cons.injEq] at e
    have ho : ops[k]? = some o := by rw [Array.getElem?_eq_getElem hlt]; simpa using e.1
    simp only [List.getElem_range, tD, idx, ho]
    exact gD_mono (fun v h' q => tD_pops rest (k + 1) e.2 _ _ q) hp

theorem gst_mono_pv {o : Oper} {σ : Sl} {h : Heap} {K : PV → Heap → Prop} (hp : gD P L ops o σ h K) : gst (popv P) ops o σ h K := by
  unfold gD gst at hp
  unfold gst
  split
  · rename_i hg; rw [hg] at hp; exact popD_popv hp
  · rename_i g want hg
    rw [hg] at hp
    simp only at hp
    cases hb : gv ops σ g with
    | none => rw [hb] at hp; exact hp
    | some b =>
      rw [hb] at hp
      simp only at hp ⊢
      by_cases e : b = some want
      · rw [if_pos e] at hp ⊢; exact popD_popv hp
      · rw [if_neg e] at hp ⊢; exact hp

theorem any_sound {w0 : World} {h0 : Heap} {n : Nat} {Q : Exit → Act → World → Prop} (okr : okR n ops = true) {K : Sl → Heap → Prop} (hk : ∀ σ h a w, K σ h → Rl w0 h0 n σ h a w → Q .normal a w) :
    ∀ (fuel : Nat) (listed : Array Bool) (σ : Sl) (h : Heap) (a : Act) (w : World), Rl w0 h0 n σ h a w → pAny P L ops K fuel listed σ h → wpAny P .any ops Q fuel listed a w := by
  intro fuel
  induction fuel with
  | zero => intro listed σ h a w r hp; exact ⟨hp.1, hk σ h a w hp.2 r⟩
  | succ fuel ih =>
    intro listed σ h a w r hp
    refine ⟨fun hr => hk σ h a w (hp.1 hr) r, fun i hi => ?_⟩
    have h1 := hp.2 i hi
    obtain ⟨_, o, ho, _⟩ := mem_ready.1 hi
    unfold idx at h1
    rw [ho] at h1
    exact gst_sound ho r okr (gst_mono_pv h1) fun v h' a' w' q1 q2 => ih _ _ _ a' w' q2 q1
end
end Go.Pm
