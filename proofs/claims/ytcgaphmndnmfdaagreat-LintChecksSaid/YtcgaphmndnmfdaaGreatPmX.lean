/-
  An abstract machine over pure values, part X: regions that draw their order, with calls that tell the same in whatever memory.
  Conditions: none.
-/
import Derived.Test.YtcgaphmndnmfdaaGreatPmW
namespace Go.Pm
set_option linter.unusedVariables false
set_option linter.unusedSimpArgs false

section
variable {P : Program} {ops : Array Oper} {L : List Nat}
/-- A call that is not marked as one that writes. -/
def isU (L : List Nat) (o : Oper) : Bool := match o.op with
  | .call ⟨.value _, _, _⟩ => !livO L o.dst
  | _ => false
theorem isU_R {o : Oper} (h : isU L o = true) : cls (livO L o.dst) o.op = .R := by
  unfold isU at h
  split at h
  · rename_i f a t e
    rw [e]
    simp only [Bool.not_eq_true'] at h
    rw [h]; rfl
  · cases h
/-- As 'gD', but a call's answer is told for whatever memory. -/
def gDU (P : Program) (L : List Nat) (ops : Array Oper) (o : Oper) (σ : Sl) (h : Heap) (K : PV → Heap → Prop) : Prop :=
  if isU L o = true then ∃ v, (∀ g, zD P ops o σ g v) ∧ K v h else gD P L ops o σ h K
theorem gDU_pos {o : Oper} (hu : isU L o = true) (σ : Sl) (h : Heap) (K : PV → Heap → Prop) : gDU P L ops o σ h K ↔ ∃ v, (∀ g, zD P ops o σ g v) ∧ K v h := by
  unfold gDU; rw [if_pos hu]
theorem gDU_neg {o : Oper} (hu : ¬ isU L o = true) (σ : Sl) (h : Heap) (K : PV → Heap → Prop) : gDU P L ops o σ h K = gD P L ops o σ h K := by
  unfold gDU; rw [if_neg hu]
theorem gDU_gD {o : Oper} {σ : Sl} {h : Heap} {K : PV → Heap → Prop} (hp : gDU P L ops o σ h K) : gD P L ops o σ h K := by
  by_cases hu : isU L o = true
  · obtain ⟨v, e, q⟩ := (gDU_pos hu _ _ _).1 hp
    exact (gD_R (isU_R hu)).2 ⟨v, e h, q⟩
  · rwa [gDU_neg hu] at hp
theorem gDU_mono {o : Oper} {σ : Sl} {h : Heap} {K K' : PV → Heap → Prop} (hk : ∀ v h', K v h' → K' v h') (hp : gDU P L ops o σ h K) : gDU P L ops o σ h K' := by
  by_cases hu : isU L o = true
  · obtain ⟨v, e, q⟩ := (gDU_pos hu _ _ _).1 hp
    exact (gDU_pos hu _ _ _).2 ⟨v, e, hk _ _ q⟩
  · rw [gDU_neg hu] at hp ⊢
    exact gD_mono hk hp
theorem gDU_congr {o : Oper} {σ σ' : Sl} {h : Heap} {K : PV → Heap → Prop} (s : Sees ops o σ σ') : gDU P L ops o σ h K ↔ gDU P L ops o σ' h K := by
  by_cases hu : isU L o = true
  · rw [gDU_pos hu, gDU_pos hu]
    exact exists_congr fun v => and_congr (forall_congr' fun g => zD_congr s) Iff.rfl
  · rw [gDU_neg hu, gDU_neg hu]
    exact gD_congr s
/-- May two operations change places? -/
def mayU (L : List Nat) (ops : Array Oper) (x y : Oper) : Bool := x.apart ops y && (isU L x || may L ops x y)
theorem swapU {x y : Oper} {σ : Sl} {h : Heap} {K : Sl → Heap → Prop} (hm : mayU L ops x y = true)
    (hp : gDU P L ops x σ h fun v h' => gDU P L ops y (put σ x.dst v) h' fun u h'' => K (put (put σ x.dst v) y.dst u) h'') :
    gDU P L ops y σ h fun u h' => gDU P L ops x (put σ y.dst u) h' fun v h'' => K (put (put σ y.dst u) x.dst v) h'' := by
  unfold mayU at hm
  simp only [Bool.and_eq_true, Bool.or_eq_true] at hm
  obtain ⟨ha, hc⟩ := hm
  by_cases hn : ¬ isU L x = true ∧ ¬ isU L y = true
  · simp only [gDU_neg hn.1, gDU_neg hn.2] at hp ⊢
    exact swap (hc.resolve_left hn.1) hp
  obtain ⟨a1, a2, a3⟩ := Oper.apart_spec ha
  have comm : ∀ u v, put (put σ x.dst v) y.dst u = put (put σ y.dst u) x.dst v := fun u v => put_comm σ v u a2
  have sy : ∀ v, Sees ops y (put σ x.dst v) σ := fun v => sees_put a1
  have sx : ∀ u, Sees ops x (put σ y.dst u) σ := fun u => sees_put a3
  have hp' : gDU P L ops x σ h fun v h' => gDU P L ops y σ h' fun u h'' => K (put (put σ y.dst u) x.dst v) h'' :=
    gDU_mono (fun v h' q => gDU_mono (fun u h'' q => by rw [← comm]; exact q) ((gDU_congr (sy v)).1 q)) hp
  suffices gDU P L ops y σ h fun u h' => gDU P L ops x σ h' fun v h'' => K (put (put σ y.dst u) x.dst v) h'' from
    gDU_mono (fun u h' q => (gDU_congr (sx u)).2 q) this
  by_cases hx : isU L x = true
  · obtain ⟨v, e1, q⟩ := (gDU_pos hx _ _ _).1 hp'
    exact gDU_mono (fun u h' q => (gDU_pos hx _ _ _).2 ⟨v, e1, q⟩) q
  · have hy : isU L y = true := Decidable.byContradiction fun e => hn ⟨hx, e⟩
    have hm2 := hc.resolve_left hx
    have hyR := isU_R hy
    rw [gDU_neg hx] at hp'
    unfold may at hm2
    simp only [Bool.and_eq_true, Bool.or_eq_true, beq_iff_eq] at hm2
    rcases hm2.2 with ((hc | hc) | ⟨hc1, hc2⟩) | ⟨hc1, hc2⟩
    · obtain ⟨v, e1, q⟩ := (gD_D hc).1 hp'
      exact gDU_mono (fun u h' q => by rw [gDU_neg hx]; exact (gD_D hc).2 ⟨v, e1, q⟩) q
    · rw [hyR] at hc; cases hc
    · obtain ⟨v, e1, q⟩ := (gD_R hc1).1 hp'
      obtain ⟨u, e2, q2⟩ := (gDU_pos hy _ _ _).1 q
      exact (gDU_pos hy _ _ _).2 ⟨u, e2, by rw [gDU_neg hx]; exact (gD_R hc1).2 ⟨v, e1, q2⟩⟩
    · rw [hyR] at hc2; cases hc2
def okDrawU (L : List Nat) (ops : Array Oper) : Bool :=
  let ms := masks ops.toList []
  (List.range ops.size).all fun j => match ops[j]? with
    | none => true
    | some y => y.after.all (fun e => !Region.binds .any e || decide (e.on < j)) &&
      (List.range j).all fun x => match ops[x]? with
        | none => true
        | some o => (ms.getD j 0).testBit x || mayU L ops o y
def popsDU (P : Program) (L : List Nat) (ops : Array Oper) (K : Sl → Heap → Prop) : List Oper → Sl → Heap → Prop
  | [], σ, h => K σ h
  | o :: rest, σ, h => gDU P L ops o σ h fun v h' => popsDU P L ops K rest (put σ o.dst v) h'
theorem okDrawU_back (h : okDrawU L ops = true) {j : Nat} {o : Oper} (ho : ops[j]? = some o) : ∀ e ∈ o.after, Region.binds .any e = true → e.on < j := by
  intro e he hb
  simp only [okDrawU, List.all_eq_true, List.mem_range] at h
  have := h j (Array.getElem?_eq_some_iff.1 ho).1
  rw [ho] at this
  simp only [Bool.and_eq_true] at this
  have h1 := Array.all_eq_true_iff_forall_mem.1 this.1 e he
  simpa [hb] using h1
theorem okDrawU_may (h : okDrawU L ops = true) {listed : Array Bool} (hc : Cl ops listed) {x j : Nat} {o y : Oper} (hx : ops[x]? = some o) (hy : ops[j]? = some y) (hlt : x < j)
    (hun : listed.getD x false = false) (hp : Pre y listed) : mayU L ops o y = true := by
  simp only [okDrawU, List.all_eq_true, List.mem_range] at h
  have := h j (Array.getElem?_eq_some_iff.1 hy).1
  rw [hy] at this
  simp only [Bool.and_eq_true, List.all_eq_true, List.mem_range] at this
  have h2 := this.2 x hlt
  rw [hx] at h2
  simp only [Bool.or_eq_true] at h2
  rcases h2 with h2 | h2
  · exfalso
    cases hm : (masks ops.toList [])[j]? with
    | none => rw [List.getD_eq_getElem?_getD, hm] at h2; simp at h2
    | some m =>
      rw [List.getD_eq_getElem?_getD, hm] at h2
      have := masks_spec hc ops.toList [] (by simp) (by simp) (by simp) j m y hm hy hp x (by simpa using h2)
      rw [hun] at this
      cases this
  · exact h2

def idxU (P : Program) (L : List Nat) (ops : Array Oper) (i : Nat) (K : Sl → Heap → Prop) (σ : Sl) (h : Heap) : Prop :=
  match ops[i]? with
  | none => K σ h
  | some o => gDU P L ops o σ h fun v h' => K (put σ o.dst v) h'
def tDU (P : Program) (L : List Nat) (ops : Array Oper) (K : Sl → Heap → Prop) : List Nat → Sl → Heap → Prop
  | [] => K
  | i :: is => idxU P L ops i (tDU P L ops K is)
def pAnyU (P : Program) (L : List Nat) (ops : Array Oper) (K : Sl → Heap → Prop) : Nat → Array Bool → Sl → Heap → Prop
  | 0, listed, σ, h => Region.ready .any ops listed = [] ∧ K σ h
  | fuel + 1, listed, σ, h => (Region.ready .any ops listed = [] → K σ h) ∧ ∀ i ∈ Region.ready .any ops listed, idxU P L ops i (pAnyU P L ops K fuel (listed.setIfInBounds i true)) σ h

theorem idxU_mono {i : Nat} {K K' : Sl → Heap → Prop} (hk : ∀ σ h, K σ h → K' σ h) {σ : Sl} {h : Heap} (hp : idxU P L ops i K σ h) : idxU P L ops i K' σ h := by
  unfold idxU at *
  split
  · rename_i e; rw [e] at hp; exact hk _ _ hp
  · rename_i o e; rw [e] at hp; exact gDU_mono (fun v h' q => hk _ _ q) hp
theorem frontU {K : Sl → Heap → Prop} {j : Nat} {B : List Nat} : ∀ (A : List Nat), (∀ x ∈ A, ∀ o y, ops[x]? = some o → ops[j]? = some y → mayU L ops o y = true) →
    ∀ (σ : Sl) (h : Heap), tDU P L ops K (A ++ j :: B) σ h → idxU P L ops j (tDU P L ops K (A ++ B)) σ h
  | [], _, σ, h, hp => hp
  | x :: A, hA, σ, h, hp => by
    simp only [List.cons_append, tDU] at hp ⊢
    have h1 := idxU_mono (fun σ h q => frontU A (fun y hy => hA y (List.mem_cons_of_mem _ hy)) σ h q) hp
    have hxy := hA x (List.mem_cons_self ..)
    unfold idxU at h1 ⊢
    cases hx : ops[x]? with
    | none =>
      rw [hx] at h1
      simp only at h1 ⊢
      exact h1
    | some o =>
      rw [hx] at h1
      cases hj : ops[j]? with
      | none => rw [hj] at h1; exact h1
      | some y =>
        rw [hj] at h1
        exact swapU (hxy o y hx hj) h1

theorem any_of_textU (ok : okDrawU L ops = true) {K : Sl → Heap → Prop} : ∀ (fuel : Nat) (listed : Array Bool) (σ : Sl) (h : Heap), listed.size = ops.size → Cl ops listed → (un_ ops listed).length = fuel →
    tDU P L ops K (un_ ops listed) σ h → pAnyU P L ops K fuel listed σ h := by
  intro fuel
  induction fuel with
  | zero =>
    intro listed σ h hs hc hl hp
    have hn : un_ ops listed = [] := List.length_eq_zero_iff.1 hl
    rw [hn] at hp
    refine ⟨?_, hp⟩
    rcases hr : Region.ready .any ops listed with _ | ⟨i, l⟩
    · rfl
    · have hi : i ∈ Region.ready .any ops listed := by rw [hr]; exact List.mem_cons_self ..
      obtain ⟨h1, o, ho, _⟩ := mem_ready.1 hi
      have : i ∈ un_ ops listed := mem_un.2 ⟨(Array.getElem?_eq_some_iff.1 ho).1, h1⟩
      rw [hn] at this; cases this
  | succ fuel ih =>
    intro listed σ h hs hc hl hp
    refine ⟨fun hr => ?_, fun j hj => ?_⟩
    · exfalso
      cases hU : un_ ops listed with
      | nil => rw [hU] at hl; cases hl
      | cons i l =>
        have hi : i ∈ un_ ops listed := by rw [hU]; exact List.mem_cons_self ..
        obtain ⟨hi1, hi2⟩ := mem_un.1 hi
        have ho : ops[i]? = some ops[i] := Array.getElem?_eq_getElem hi1
        have hsort := un_sorted (ops := ops) listed
        rw [hU] at hsort
        have : i ∈ Region.ready .any ops listed := mem_ready.2 ⟨hi2, ops[i], ho, fun e he hb => by
          have hlt := okDrawU_back ok ho e he hb
          cases hq : listed.getD e.on false with
          | true => rfl
          | false =>
            exfalso
            have hm : e.on ∈ un_ ops listed := mem_un.2 ⟨by omega, by rw [getD_same hs (by omega)]; exact hq⟩
            rw [hU] at hm
            rcases List.mem_cons.1 hm with hm | hm
            · omega
            · have := (List.pairwise_cons.1 hsort).1 _ hm; omega⟩
        rw [hr] at this
        cases this
    · obtain ⟨hj1, y, hy, hpre⟩ := mem_ready.1 hj
      have hjlt := (Array.getElem?_eq_some_iff.1 hy).1
      have hju : j ∈ un_ ops listed := mem_un.2 ⟨hjlt, hj1⟩
      obtain ⟨A, B, hAB⟩ := List.append_of_mem hju
      have hsort := un_sorted (ops := ops) listed
      rw [hAB] at hsort
      have hsA := List.pairwise_append.1 hsort
      have hA : ∀ x ∈ A, x < j := fun x hx => hsA.2.2 x hx j (List.mem_cons_self ..)
      have hB : ∀ x ∈ B, j < x := fun x hx => (List.pairwise_cons.1 hsA.2.1).1 x hx
      rw [hAB] at hp
      have hf := frontU A (fun x hx o y' ho hy' => by
        rw [hy] at hy'
        cases hy'
        have hxu : x ∈ un_ ops listed := by rw [hAB]; exact List.mem_append_left _ hx
        obtain ⟨hx1, hx2⟩ := mem_un.1 hxu
        exact okDrawU_may ok hc ho hy (hA x hx) (by rw [← getD_same hs hx1]; exact hx2) hpre) σ h hp
      have hU' : un_ ops (listed.setIfInBounds j true) = A ++ B := by
        have e1 : un_ ops (listed.setIfInBounds j true) = (un_ ops listed).filter fun i => decide (i ≠ j) := by
          simp only [un_, List.filter_filter]
          apply List.filter_congr
          intro i hi
          have hilt : i < listed.size := by rw [hs]; simpa using hi
          by_cases e : i = j
          · subst e; simp [hilt]
          · have e' : (listed.setIfInBounds j true).getD i true = listed.getD i true := getD_set_ne true (fun q => e q.symm)
            rw [e']; simp [e]
        rw [e1, hAB, List.filter_append, List.filter_cons]
        simp only [ne_eq, not_true_eq_false, decide_false, Bool.false_eq_true, if_false]
        rw [List.filter_eq_self.2, List.filter_eq_self.2]
        · intro x hx; have := hB x hx; simp; omega
        · intro x hx; have := hA x hx; simp; omega
      have hlen : (un_ ops (listed.setIfInBounds j true)).length = fuel := by
        rw [hU']
        rw [hAB] at hl
        simp at hl ⊢
        omega
      have hcl : Cl ops (listed.setIfInBounds j true) := by
        intro k o hk hkl e he hb
        by_cases e1 : k = j
        · subst e1
          rw [hy] at hk
          cases hk
          exact getD_set_true (hpre e he hb)
        · rw [getD_set_ne false (fun q => e1 q.symm)] at hkl
          exact getD_set_true (hc k o hk hkl e he hb)
      refine idxU_mono (fun σ' h' q => ih _ σ' h' (by simp [hs]) hcl hlen ?_) hf
      rw [hU']
      exact q

theorem tDU_pops {K : Sl → Heap → Prop} : ∀ (l : List Oper) (k : Nat), ops.toList.drop k = l → ∀ (σ : Sl) (h : Heap), popsDU P L ops K l σ h → tDU P L ops K ((List.range ops.size).drop k) σ h
  | [], k, e, σ, h, hp => by
    have : ops.size ≤ k := by simpa using e
    rw [List.drop_eq_nil_of_le (by simpa using this)]
    exact hp
  | o :: rest, k, e, σ, h, hp => by
    have hlt : k < ops.size := by
      rcases Nat.lt_or_ge k ops.size with h | h
      · exact h
      · rw [List.drop_eq_nil_of_le (by simpa using h)] at e; cases e
    rw [List.drop_eq_getElem_cons (by simpa using hlt)] at e ⊢
    simp only [List.cons.injEq] at e
    have ho : ops[k]? = some o := by rw [Array.getElem?_eq_getElem hlt]; simpa using e.1
    simp only [List.getElem_range, tDU, idxU, ho]
    exact gDU_mono (fun v h' q => tDU_pops rest (k + 1) e.2 _ _ q) hp

theorem pAnyU_pAny {K : Sl → Heap → Prop} : ∀ (fuel : Nat) (listed : Array Bool) (σ : Sl) (h : Heap), pAnyU P L ops K fuel listed σ h → pAny P L ops K fuel listed σ h
  | 0, _, _, _, hp => hp
  | f + 1, listed, σ, h, hp => ⟨hp.1, fun i hi => by
    have h1 := hp.2 i hi
    unfold idxU at h1
    unfold idx
    cases ho : ops[i]? with
    | none => rw [ho] at h1; exact pAnyU_pAny f _ _ _ h1
    | some o => rw [ho] at h1; exact gD_mono (fun v h' q => pAnyU_pAny f _ _ _ q) (gDU_gD h1)⟩
end
section
variable {P : Program} {L : List Nat} {n : Nat} {Q : Exit → Sl → Heap → Prop} {σ : Sl} {h : Heap}
theorem swp_drawU {id : Nat} {ops : Array Oper} (hm : P.follows .mixedOrders = true) (ok : okR n ops = true) (od : okDrawU L ops = true) (s : popsDU P L ops (Q .normal) ops.toList σ h) : SWP P n (.region id ops true) Q σ h := fun w0 h0 a w r =>
  wp_region_any hm (by
    have hun : un_ ops (Array.replicate ops.size false) = List.range ops.size := by
      rw [un_, List.filter_eq_self]
      intro i hi
      have : i < ops.size := by simpa using hi
      simp [this]
    have ht := tDU_pops (P := P) (L := L) (ops := ops) ops.toList 0 (by simp) σ h s
    have hcl : Cl ops (Array.replicate ops.size false) := fun j o hj hjl => by
      exfalso
      have : j < ops.size := (Array.getElem?_eq_some_iff.1 hj).1
      simp [this] at hjl
    have ha := pAnyU_pAny _ _ _ _ (any_of_textU od ops.size (Array.replicate ops.size false) σ h (by simp) hcl (by rw [hun]; simp) (by rw [hun]; simpa using ht))
    have r' : Rl w0 h0 n σ h a { w with drawn := w.drawn + 1 } :=
      ⟨r.size, r.defers, fun t ht => VR.step (St.drew w h).kp (Nat.le_refl _) _ (r.slots t ht), r.heap.drew, r.st.trans (St.drew w h)⟩
    exact any_sound (Q := fun e a' w' => ∃ σ' h', Rl w0 h0 n σ' h' a' w' ∧ Q e σ' h') ok (fun σ' h' a' w' q1 q2 => ⟨σ', h', q2, q1⟩) _ _ σ h a _ r' ha)
/-! ### Steps -/
def callU (P : Program) (f : PV) (args : List PV) (h : Heap) (K : Kt) : Prop := match f with
  | .fn g first caps => ∃ r, (∀ g', CanP P g (first ++ args ++ caps) g' (fun r' h' => r' = r ∧ h' = g')) ∧ K r h
  | _ => False
def pvU (P : Program) (live : Bool) (o : Op) (σ : Sl) (h : Heap) (K : Kt) : Prop := match o, live with
  | .call ⟨.value f, args, _⟩, false => callU P (ev σ f) (args.toList.map (ev σ)) h K
  | o, live => pv P true live o σ h K
def pstepsU (P : Program) (L : List Nat) (K : Sl → Heap → Prop) : List PS → Sl → Heap → Prop
  | [], σ, h => K σ h
  | .mk d op none :: l, σ, h => pvU P (livO L d) op σ h fun v h' => pstepsU P L K l (put σ d v) h'
  | .mk d op (some (s, want)) :: l, σ, h => match σ s with
    | .bool b => if b = want then pvU P (livO L d) op σ h (fun v h' => pstepsU P L K l (put σ d v) h') else pstepsU P L K l (put σ d (.tup [])) h
    | .tup [] => pstepsU P L K l (put σ d (.tup [])) h
    | _ => False
  | .frzc _ _ :: _, _, _ => False
  | .frz _ :: _, _, _ => False
/-- A step without a guard. -/
theorem pvU_gen {o : Oper} {σ : Sl} {h : Heap} {K : Kt} (hp : pvU P (livO L o.dst) o.op σ h K) :
    (isU L o = true → ∃ v, (∀ g, rD P o.op σ g v) ∧ K v h) ∧ (¬ isU L o = true → popD P (livO L o.dst) o.op σ h K) := by
  unfold pvU at hp
  split at hp
  · rename_i f args ts e1 e2
    refine ⟨fun _ => ?_, fun hn => ?_⟩
    · unfold callU at hp
      rw [e1]
      split at hp
      · rename_i g first caps hf
        obtain ⟨r, q1, q2⟩ := hp
        refine ⟨r, fun g' => ?_, q2⟩
        simp only [rD, hf]
        exact q1 g'
      · exact hp.elim
    · exact (hn (by unfold isU; rw [e1, e2]; rfl)).elim
  · rename_i o1 l1 hne
    refine ⟨fun hu => ?_, fun _ => pv_popD hp⟩
    exfalso
    unfold isU at hu
    split at hu
    · rename_i f args ts e1
      simp only [Bool.not_eq_true'] at hu
      exact hne _ _ _ e1 hu
    · cases hu
theorem pstepsU_popsDU {ops : Array Oper} {K : Sl → Heap → Prop} : ∀ (os : List Oper) (l : List PS) (σ : Sl) (h : Heap), prepl ops os = some (eraS l) → pstepsU P L K l σ h → popsDU P L ops K os σ h
  | os, .frz d :: l, σ, h, e, hp => by simp [pstepsU] at hp
  | os, .frzc d i :: l, σ, h, e, hp => by simp [pstepsU] at hp
  | [], [], σ, h, e, hp => hp
  | [], .mk d op g :: l, σ, h, e, hp => by simp [prepl, eraS] at e
  | o :: rest, [], σ, h, e, hp => by
    exfalso
    simp only [prepl, eraS] at e
    split at e
    · cases e
    · split at e
      · cases e
      · split at e <;> cases e
  | o :: rest, .mk d op g :: l, σ, h, e, hp => by
    simp only [prepl, eraS] at e
    split at e
    · cases e
    · rename_i l' hl
      simp only [popsDU]
      split at e
      · rename_i hg
        simp only [Option.some.injEq, List.cons.injEq, PS.mk.injEq] at e
        obtain ⟨⟨rfl, rfl, rfl⟩, rfl⟩ := e
        obtain ⟨h1, h2⟩ := pvU_gen (o := o) (L := L) hp
        by_cases hu : isU L o = true
        · obtain ⟨v, q1, q2⟩ := h1 hu
          refine (gDU_pos hu _ _ _).2 ⟨v, fun g => ?_, pstepsU_popsDU rest l _ _ hl q2⟩
          unfold zD; rw [hg]; exact q1 g
        · rw [gDU_neg hu]
          unfold gD gst
          rw [hg]
          exact popD_mono (fun v h' q => pstepsU_popsDU rest l _ _ hl q) (h2 hu)
      · rename_i gi want hg
        split at e
        · rename_i d' hd
          simp only [Option.some.injEq, List.cons.injEq, PS.mk.injEq] at e
          obtain ⟨⟨rfl, rfl, rfl⟩, rfl⟩ := e
          simp only [pstepsU] at hp
          have hgv : gv ops σ gi = (match σ d' with | .bool b => some (some b) | .tup [] => some none | _ => none) := by
            simp only [gv, hd]
            rfl
          have skip : gv ops σ gi ≠ some (some want) → gv ops σ gi ≠ none → pstepsU P L K l (put σ o.dst (.tup [])) h → gDU P L ops o σ h fun v h' => popsDU P L ops K rest (put σ o.dst v) h' := fun n1 n2 q => by
            cases hb : gv ops σ gi with
            | none => exact (n2 hb).elim
            | some b =>
              have hbn : ¬ b = some want := fun e => n1 (by rw [hb, e])
              by_cases hu : isU L o = true
              · refine (gDU_pos hu _ _ _).2 ⟨.tup [], fun g => ?_, pstepsU_popsDU rest l _ _ hl q⟩
                unfold zD; rw [hg]; simp only [hb]; rw [if_neg hbn]; trivial
              · rw [gDU_neg hu]
                unfold gD gst
                rw [hg]; simp only [hb]; rw [if_neg hbn]
                exact pstepsU_popsDU rest l _ _ hl q
          split at hp
          · rename_i b hb
            by_cases e : b = want
            · rw [if_pos e] at hp
              have hgw : gv ops σ gi = some (some want) := by rw [hgv, hb, e]
              obtain ⟨h1, h2⟩ := pvU_gen (o := o) (L := L) hp
              by_cases hu : isU L o = true
              · obtain ⟨v, q1, q2⟩ := h1 hu
                refine (gDU_pos hu _ _ _).2 ⟨v, fun g => ?_, pstepsU_popsDU rest l _ _ hl q2⟩
                unfold zD; rw [hg]; simp only [hgw, if_true]; exact q1 g
              · rw [gDU_neg hu]
                unfold gD gst
                rw [hg]; simp only [hgw, if_true]
                exact popD_mono (fun v h' q => pstepsU_popsDU rest l _ _ hl q) (h2 hu)
            · rw [if_neg e] at hp
              refine skip (fun q => ?_) (fun q => ?_) hp
              · rw [hgv, hb] at q
                simp only [Option.some.injEq] at q
                exact e q
              · rw [hgv, hb] at q; cases q
          · rename_i hb
            refine skip (fun q => ?_) (fun q => ?_) hp
            · rw [hgv, hb] at q; simp at q
            · rw [hgv, hb] at q; simp at q
          · exact hp.elim
        · cases e
/-- A function: some regions, then one that draws its order with calls and room for a variable, then the rest. -/
theorem can_of_uni {f : FuncId} {fn : Func} {A c : Code} {id : Nat} {ops : Array Oper} {pA pC : PC} {lB : List PS} {rs : List ResultVar} {args : List PV} {h : Heap} {K : PV → Heap → Prop} (hm : P.follows .mixedOrders = true) (hf : P.funcs[f]? = some fn)
    (hname : (fn.name == "runtime.NumGoroutine") = false) (hb : fn.body = some (.seq A (.seq (.region id ops true) c))) (hn : args.length + (fn.ntmps - args.length) = n) (hrs : fn.results.toList = rs) (hr : rs.all (okRes n) = true)
    (sA : strip n L A = some pA.era) (okB : okR n ops = true) (odB : okDrawU L ops = true) (sB : prepl ops ops.toList = some (eraS lB)) (sC : strip n L c = some pC.era)
    (s : pwp P L pA (thn (pstepsU P L (pwp P L pC (fin P rs h K)) lB) (fin P rs h K)) (slots0 (olds args)) h) : CanP P f args h K := by
  subst hrs
  refine can_of_swp hf hname hb hn hr ?_
  refine swp_seq (SWP.mono (fun e σ h1 q => ?_) (pwp_sound hm A pA _ _ _ sA s))
  cases e <;> first | exact q | skip
  refine swp_seq (SWP.mono (fun e σ2 h2 q2 => ?_) (swp_drawU (Q := thn (pwp P L pC (fin P fn.results.toList h K)) (fin P fn.results.toList h K)) hm okB odB (pstepsU_popsDU _ _ _ _ sB q)))
  cases e <;> first | exact q2 | exact pwp_sound hm c pC _ _ _ sC q2
end
/-! ### The steps, as the simplifier takes them -/
def nxU (P : Program) (L : List Nat) (K : Sl → Heap → Prop) (l : List PS) (σ : Sl) (d : Option Nat) : Kt := fun v h' => pstepsU P L K l (put σ d v) h'
def gdU (v : PV) (want : Bool) (P : Program) (L : List Nat) (K : Sl → Heap → Prop) (d : Option Nat) (op : Op) (l : List PS) (σ : Sl) (h : Heap) : Prop := match v with
  | .bool b => if b = want then pstepsU P L K (.mk d op none :: l) σ h else pstepsU P L K l (put σ d (.tup [])) h
  | .tup [] => pstepsU P L K l (put σ d (.tup [])) h
  | _ => False
/-- The rules of a region's steps, as the simplifier takes them. -/
theorem pmU :
    (∀ (P : Program) (k : Kt) (σ : Sl) (h : Heap) (live : Bool) (t : TypeId) (ps : Array (Nat × Operand)), pvU P live (.build t ps) σ h k = pv P true live (.build t ps) σ h k) ∧
    (∀ (P : Program) (L : List Nat) (K : Sl → Heap → Prop) (σ : Sl) (h : Heap), pstepsU P L K [] σ h = K σ h) ∧
    (∀ (P : Program) (L : List Nat) (K : Sl → Heap → Prop) (σ : Sl) (h : Heap) (d : Option Nat) (op : Op) (l : List PS), pstepsU P L K (.mk d op none :: l) σ h = pvU P (livO L d) op σ h (nxU P L K l σ d)) ∧
    (∀ (P : Program) (L : List Nat) (K : Sl → Heap → Prop) (σ : Sl) (h : Heap) (d : Option Nat) (l : List PS) (v : PV), nxU P L K l σ d v h = pstepsU P L K l (put σ d v) h) ∧
    (∀ (P : Program) (L : List Nat) (K : Sl → Heap → Prop) (σ : Sl) (h : Heap) (d : Option Nat) (op : Op) (l : List PS) (s : Nat) (want : Bool), pstepsU P L K (.mk d op (some (s, want)) :: l) σ h = gdU (σ s) want P L K d op l σ h) ∧
    (∀ (P : Program) (L : List Nat) (K : Sl → Heap → Prop) (σ : Sl) (h : Heap) (d : Option Nat) (op : Op) (l : List PS), gdU (.bool true) true P L K d op l σ h = pstepsU P L K (.mk d op none :: l) σ h) ∧
    (∀ (P : Program) (L : List Nat) (K : Sl → Heap → Prop) (σ : Sl) (h : Heap) (d : Option Nat) (op : Op) (l : List PS), gdU (.bool false) false P L K d op l σ h = pstepsU P L K (.mk d op none :: l) σ h) ∧
    (∀ (P : Program) (L : List Nat) (K : Sl → Heap → Prop) (σ : Sl) (h : Heap) (d : Option Nat) (op : Op) (l : List PS), gdU (.bool true) false P L K d op l σ h = pstepsU P L K l (put σ d (.tup [])) h) ∧
    (∀ (P : Program) (L : List Nat) (K : Sl → Heap → Prop) (σ : Sl) (h : Heap) (d : Option Nat) (op : Op) (l : List PS), gdU (.bool false) true P L K d op l σ h = pstepsU P L K l (put σ d (.tup [])) h) ∧
    (∀ (P : Program) (L : List Nat) (K : Sl → Heap → Prop) (σ : Sl) (h : Heap) (d : Option Nat) (op : Op) (l : List PS) (want : Bool), gdU (.tup []) want P L K d op l σ h = pstepsU P L K l (put σ d (.tup [])) h) ∧
    (∀ (P : Program) (k : Kt) (σ : Sl) (h : Heap) (f : Operand) (a : Array Operand) (t : Array TypeId), pvU P false (.call ⟨.value f, a, t⟩) σ h k = callU P (ev σ f) (a.toList.map (ev σ)) h k) ∧
    (∀ (P : Program) (k : Kt) (h : Heap) (f : FuncId) (first caps args : List PV), callU P (.fn f first caps) args h k = ∃ r, (∀ g', CanP P f (first ++ args ++ caps) g' (fun r' h' => r' = r ∧ h' = g')) ∧ k r h) ∧
    (∀ (P : Program) (k : Kt) (σ : Sl) (h : Heap) (live : Bool) (x : Operand), pvU P live (.move x) σ h k = pv P true live (.move x) σ h k) ∧
    (∀ (P : Program) (k : Kt) (σ : Sl) (h : Heap) (live : Bool) (x : Operand), pvU P live (.assign x) σ h k = pv P true live (.assign x) σ h k) ∧
    (∀ (P : Program) (k : Kt) (σ : Sl) (h : Heap) (live : Bool) (c a b : Operand), pvU P live (.pick c a b) σ h k = pv P true live (.pick c a b) σ h k) ∧
    (∀ (P : Program) (k : Kt) (σ : Sl) (h : Heap) (live : Bool) (t : TypeId) (x : Operand) (f : Nat), pvU P live (.fieldAddr t x f) σ h k = pv P true live (.fieldAddr t x f) σ h k) ∧
    (∀ (P : Program) (k : Kt) (σ : Sl) (h : Heap) (live : Bool) (t : TypeId) (x i : Operand), pvU P live (.indexAddr t x i) σ h k = pv P true live (.indexAddr t x i) σ h k) ∧
    (∀ (P : Program) (k : Kt) (σ : Sl) (h : Heap) (live : Bool) (t : TypeId) (x : Operand), pvU P live (.load t x) σ h k = pv P true live (.load t x) σ h k) ∧
    (∀ (P : Program) (k : Kt) (σ : Sl) (h : Heap) (live : Bool) (t : TypeId) (x y : Operand), pvU P live (.store t x y) σ h k = pv P true live (.store t x y) σ h k) ∧
    (∀ (P : Program) (k : Kt) (σ : Sl) (h : Heap) (live : Bool) (t : TypeId), pvU P live (.alloc t) σ h k = pv P true live (.alloc t) σ h k) ∧
    (∀ (P : Program) (k : Kt) (σ : Sl) (h : Heap) (live : Bool) (o : UnOp) (t : TypeId) (x : Operand), pvU P live (.unOp o t x) σ h k = pv P true live (.unOp o t x) σ h k) ∧
    (∀ (P : Program) (k : Kt) (σ : Sl) (h : Heap) (live : Bool) (o : BinOp) (t : TypeId) (x y : Operand) (t2 : TypeId), pvU P live (.binOp o t x y t2) σ h k = pv P true live (.binOp o t x y t2) σ h k) ∧
    (∀ (P : Program) (k : Kt) (σ : Sl) (h : Heap) (live : Bool) (b : Builtin) (a : Array Operand) (t : Array TypeId), pvU P live (.call ⟨.builtin b, a, t⟩) σ h k = pv P true live (.call ⟨.builtin b, a, t⟩) σ h k) := by
  refine ⟨?_, ?_, ?_, ?_, ?_, ?_, ?_, ?_, ?_, ?_, ?_, ?_, ?_, ?_, ?_, ?_, ?_, ?_, ?_, ?_, ?_, ?_, ?_⟩ <;> intros <;> rfl
end Go.Pm
