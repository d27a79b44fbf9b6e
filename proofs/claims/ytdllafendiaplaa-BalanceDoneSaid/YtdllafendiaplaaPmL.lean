/-
  An abstract machine over pure values, part L: code, loops, functions.
  Conditions: none.
-/
import Derived.Test.YtdllafendiaplaaPmK
namespace Go.Pm
set_option linter.unusedVariables false
set_option linter.unusedSimpArgs false

/-- Code, from a state over pure values, comes to what `Q` tells of. -/
def SWP (P : Program) (n : Nat) (c : Code) (Q : Exit → Sl → Heap → Prop) (σ : Sl) (h : Heap) : Prop :=
  ∀ (w0 : World) (h0 : Heap) (a : Act) (w : World), Rl w0 h0 n σ h a w → c.wp P (fun e a' w' => ∃ σ' h', Rl w0 h0 n σ' h' a' w' ∧ Q e σ' h') a w
def thn (next : Sl → Heap → Prop) (Q : Exit → Sl → Heap → Prop) : Exit → Sl → Heap → Prop
  | .normal, σ, h => next σ h
  | e, σ, h => Q e σ h
def blk (id : Nat) (Q : Exit → Sl → Heap → Prop) : Exit → Sl → Heap → Prop
  | .exit id', σ, h => if id' = id then Q .normal σ h else Q (.exit id') σ h
  | e, σ, h => Q e σ h

section
variable {P : Program} {n : Nat} {Q Q' : Exit → Sl → Heap → Prop} {σ : Sl} {h : Heap}

theorem SWP.mono {c : Code} (hq : ∀ e σ h, Q e σ h → Q' e σ h) (s : SWP P n c Q σ h) : SWP P n c Q' σ h := fun w0 h0 a w r =>
  wp_mono (s w0 h0 a w r) fun e a' w' ⟨σ', h', q1, q2⟩ => ⟨σ', h', q1, hq _ _ _ q2⟩
theorem swp_skip (q : Q .normal σ h) : SWP P n .skip Q σ h := fun w0 h0 a w r => wp_skip ⟨σ, h, r, q⟩
theorem swp_exit {id : Nat} (q : Q (.exit id) σ h) : SWP P n (.exit id) Q σ h := fun w0 h0 a w r => wp_exit ⟨σ, h, r, q⟩
theorem swp_ret (q : Q .ret σ h) : SWP P n .ret Q σ h := fun w0 h0 a w r => wp_ret ⟨σ, h, r, q⟩
theorem swp_seq {x y : Code} (s : SWP P n x (thn (SWP P n y Q) Q) σ h) : SWP P n (.seq x y) Q σ h := fun w0 h0 a w r =>
  wp_seq (wp_mono (s w0 h0 a w r) fun e a' w' ⟨σ', h', q1, q2⟩ => by
    cases e with
    | normal => exact q2 w0 h0 a' w' q1
    | _ => exact ⟨σ', h', q1, q2⟩)
theorem swp_cond {c : Operand} {x y : Code} {t : Bool} (ok : okOp n c = true) (e : ev σ c = .bool t) (s : SWP P n (if t then x else y) Q σ h) : SWP P n (.cond c x y) Q σ h := fun w0 h0 a w r => by
  have hv := ev_sound r ok
  rw [e] at hv
  simp only [VR] at hv
  exact wp_cond hv (s w0 h0 a w r)
theorem swp_condA {c : Operand} {x y : Code} (ok : okOp n c = true) (e : ev σ c = .anyb) (s1 : SWP P n x Q σ h) (s2 : SWP P n y Q σ h) : SWP P n (.cond c x y) Q σ h := fun w0 h0 a w r => by
  have hv := ev_sound r ok
  rw [e] at hv
  simp only [VR] at hv
  obtain ⟨b, hv⟩ := hv
  exact wp_cond hv (by cases b; exact s2 w0 h0 a w r; exact s1 w0 h0 a w r)
theorem swp_block {id : Nat} {c : Code} (s : SWP P n c (blk id Q) σ h) : SWP P n (.block id c) Q σ h := fun w0 h0 a w r =>
  wp_block (wp_mono (s w0 h0 a w r) fun e a' w' ⟨σ', h', q1, q2⟩ => by
    cases e with
    | exit id' =>
      simp only [Exit.inBlock]
      simp only [blk] at q2
      split
      · rename_i e; rw [if_pos e] at q2; exact ⟨σ', h', q1, q2⟩
      · rename_i e; rw [if_neg e] at q2; exact ⟨σ', h', q1, q2⟩
    | _ => exact ⟨σ', h', q1, q2⟩)
theorem swp_region {id : Nat} {ops : Array Oper} (ok : okR n ops = true) (s : pops P ops (Q .normal) ops.toList σ h) : SWP P n (.region id ops false) Q σ h := fun w0 h0 a w r =>
  wp_region (by
    have := pops_sound (Q := fun e a' w' => ∃ σ' h', Rl w0 h0 n σ' h' a' w' ∧ Q e σ' h') ok (fun σ' h' a' w' q1 q2 => ⟨σ', h', q2, q1⟩) ops.toList 0 (by simp) σ h a w r s
    simpa using this)
theorem swp_draw {id : Nat} {ops : Array Oper} (hm : P.follows .mixedOrders = true) (ok : okR n ops = true) {L : List Nat} (od : okDraw L ops = true) (s : popsD P L ops (Q .normal) ops.toList σ h) : SWP P n (.region id ops true) Q σ h := fun w0 h0 a w r =>
  wp_region_any hm (by
    have hun : un_ ops (Array.replicate ops.size false) = List.range ops.size := by
      rw [un_, List.filter_eq_self]
      intro i hi
      have : i < ops.size := by simpa using hi
      simp [this]
    have ht := tD_pops (P := P) (L := L) (ops := ops) ops.toList 0 (by simp) σ h s
    have hcl : Cl ops (Array.replicate ops.size false) := fun j o hj hjl => by
      exfalso
      have : j < ops.size := (Array.getElem?_eq_some_iff.1 hj).1
      simp [this] at hjl
    have ha := any_of_text od ops.size (Array.replicate ops.size false) σ h (by simp) hcl (by rw [hun]; simp) (by rw [hun]; simpa using ht)
    have r' : Rl w0 h0 n σ h a { w with drawn := w.drawn + 1 } :=
      ⟨r.size, r.defers, fun t ht => VR.step (St.drew w h).kp (Nat.le_refl _) _ (r.slots t ht), r.heap.drew, r.st.trans (St.drew w h)⟩
    exact any_sound (Q := fun e a' w' => ∃ σ' h', Rl w0 h0 n σ' h' a' w' ∧ Q e σ' h') ok (fun σ' h' a' w' q1 q2 => ⟨σ', h', q2, q1⟩) _ _ σ h a _ r' ha)
/-- A loop: a relation with a number that every round lowers. -/
theorem swp_loop {c : Code} (I : Nat → Sl → Heap → Prop) (k : Nat) (h1 : I k σ h)
    (round : ∀ k σ h, I k σ h → SWP P n c (thn (fun σ' h' => ∃ k', k' < k ∧ I k' σ' h') Q) σ h) : SWP P n (.loop c) Q σ h := fun w0 h0 a w r =>
  wp_loop_ghost (fun k a w => ∃ σ h, Rl w0 h0 n σ h a w ∧ I k σ h) k ⟨σ, h, r, h1⟩ fun k a w ⟨σ, h, r, hi⟩ =>
    wp_mono (round k σ h hi w0 h0 a w r) fun e a' w' ⟨σ', h', q1, q2⟩ => by
      cases e with
      | normal =>
        obtain ⟨k', q3, q4⟩ := q2
        exact ⟨k', q3, σ', h', q1, q4⟩
      | _ => exact ⟨σ', h', q1, q2⟩
end

/-! ### Results -/
def resv (P : Program) (σ : Sl) (h : Heap) : ResultVar → Option PV
  | .tmp t => some (σ t)
  | .cell a t => ldp P h t (σ a)
def resl (P : Program) (σ : Sl) (h : Heap) : List ResultVar → Option (List PV)
  | [] => some []
  | r :: rs => match resv P σ h r, resl P σ h rs with
    | some v, some vs => some (v :: vs)
    | _, _ => none
def ress (P : Program) (rs : List ResultVar) (σ : Sl) (h : Heap) : Option PV :=
  match rs with
  | [r] => resv P σ h r
  | rs => (resl P σ h rs).map .tup
def okRes (n : Nat) : ResultVar → Bool
  | .tmp t => decide (t < n)
  | .cell a _ => decide (a < n)

def resF (tmps : Array Value) : ResultVar → Sem Value
  | .tmp t => pure (tmps.getD t undef)
  | .cell b t => do loadVar t (← asAddr (tmps.getD b undef))
theorem results_eq (fn : Func) (tmps : Array Value) : results fn tmps = (do let vs ← fn.results.toList.mapM (resF tmps); pure (if h : vs.toArray.size = 1 then vs.toArray[0] else .tuple vs.toArray)) := by
  unfold results
  rw [Array.mapM_eq_mapM_toList]
  have e : (fun x => match x with
    | ResultVar.tmp t => pure (tmps.getD t undef)
    | ResultVar.cell a t => do loadVar t (← asAddr (tmps.getD a undef)) : ResultVar → Sem Value) = resF tmps := funext fun x => by cases x <;> rfl
  rw [← e, bind_map_left]
  rfl
section
variable {P : Program} {n : Nat} {w0 w : World} {h0 h : Heap} {σ : Sl} {a : Act}
theorem asAddr_load {t : TypeId} {p v : PV} {c0 : Value} {N : Nat} (hp : VR w h N p c0) (hw : WR w h 0) (e : ldp P h t p = some v) :
    ∃ c, (do loadVar t (← asAddr c0) : Sem Value).run P w = .ok c w ∧ VR w h N v c := by
  obtain ⟨c, q1, q2⟩ := ld_sound (o := ⟨none, .load t (.const c0), 0, default, #[], none⟩) (ρ := fun _ => c0) (a := .const c0) rfl hp hw e
  have hq : (Instr.loadAt t c0).run P w = .ok c w := by
    simp only [execOp, Sem.run_bind] at q1
    cases hr : (Instr.loadAt t c0).run P w with
    | ok x w' =>
      rw [hr] at q1
      simp at q1
      rw [q1.1, q1.2]
    | halt x w' => rw [hr] at q1; simp at q1
  refine ⟨c, ?_, q2⟩
  cases p <;> simp only [ldp] at e <;> (try (split at e <;> simp at e; done))
  · simp only [VR] at hp
    subst hp
    simpa [Instr.loadAt, Instr.sureAddr, asAddr] using hq
  · simp only [VR] at hp
    obtain ⟨_, _, _, rfl, _⟩ := hp
    simpa [Instr.loadAt, Instr.sureAddr, asAddr] using hq
theorem resv_sound (r : Rl w0 h0 n σ h a w) {x : ResultVar} {v : PV} (ok : okRes n x = true) (e : resv P σ h x = some v) :
    ∃ c, (resF a.tmps x).run P w = .ok c w ∧ VR w h w0.heap.size v c := by
  cases x with
  | tmp t =>
    simp only [resv, Option.some.injEq] at e
    subst e
    exact ⟨_, rfl, r.slots t (by simpa [okRes] using ok)⟩
  | cell b t => exact asAddr_load (r.slots b (by simpa [okRes] using ok)) r.heap e
theorem resl_sound (r : Rl w0 h0 n σ h a w) : ∀ (rs : List ResultVar) (vs : List PV), (∀ x ∈ rs, okRes n x = true) → resl P σ h rs = some vs →
    ∃ cs, (rs.mapM (resF a.tmps)).run P w = .ok cs w ∧ TR w h w0.heap.size vs cs
  | [], vs, _, e => by simp only [resl, Option.some.injEq] at e; subst e; exact ⟨[], rfl, by simp [TR]⟩
  | x :: rs, vs, ok, e => by
    simp only [resl] at e
    split at e
    · rename_i v vs' hv hvs
      cases e
      obtain ⟨c, q1, q2⟩ := resv_sound r (ok x (by simp)) hv
      obtain ⟨cs, q3, q4⟩ := resl_sound r rs vs' (fun y hy => ok y (by simp [hy])) hvs
      refine ⟨c :: cs, ?_, by simp only [TR]; exact ⟨c, cs, rfl, q2, q4⟩⟩
      rw [List.mapM_cons, Sem.run_bind, q1, Result.andThen_ok, Sem.run_bind, q3]
      rfl
    · cases e
theorem ress_sound (r : Rl w0 h0 n σ h a w) {fn : Func} {v : PV} (ok : ∀ x ∈ fn.results.toList, okRes n x = true) (e : ress P fn.results.toList σ h = some v) :
    ∃ c, (results fn a.tmps).run P w = .ok c w ∧ VR w h w0.heap.size v c := by
  rw [results_eq]
  unfold ress at e
  split at e
  · rename_i x hx
    rw [hx] at ok ⊢
    obtain ⟨c, q1, q2⟩ := resv_sound r (ok x (by simp)) e
    refine ⟨c, ?_, q2⟩
    simp [q1]
  · rename_i hne
    cases hl : resl P σ h fn.results.toList with
    | none => rw [hl] at e; cases e
    | some vs =>
      rw [hl] at e
      simp only [Option.map_some, Option.some.injEq] at e
      subst e
      obtain ⟨cs, q1, q2⟩ := resl_sound r _ vs ok hl
      have hlen : cs.length ≠ 1 := fun e1 => by
        have h1 := q2.length
        have h2 : ∀ (rs : List ResultVar) (vs : List PV), resl P σ h rs = some vs → rs.length = vs.length := by
          intro rs
          induction rs with
          | nil => intro vs e; simp only [resl, Option.some.injEq] at e; subst e; rfl
          | cons x rs ih =>
            intro vs e
            simp only [resl] at e
            split at e
            · rename_i v vs' _ hvs
              cases e
              simp [ih _ hvs]
            · cases e
        have h3 := h2 _ _ hl
        obtain ⟨x, hx⟩ := List.length_eq_one_iff.1 (h3.trans (h1.trans e1))
        exact hne x hx
      refine ⟨.tuple cs.toArray, ?_, by simp only [VR]; exact ⟨_, rfl, q2⟩⟩
      simp [q1, hlen]
end

/-- A value may be told otherwise, of a heap that holds less. -/
def Wk (h0 h' : Heap) (v : PV) (h2 : Heap) (v2 : PV) : Prop :=
  h2.le h' ∧ ∀ (w0 w : World) (c : Value), St w0 h0 w h' → WR w h' 0 → VR w h' w0.heap.size v c → VR w h2 w0.heap.size v2 c
theorem Wk.refl (h0 h : Heap) (v : PV) : Wk h0 h v h v := ⟨Heap.le_refl h, fun _ _ _ _ _ q => q⟩
theorem Kp.le {w : World} {h h2 : Heap} (l : h2.le h) : Kp w h w h2 := (St.kill w h h2 l).kp
theorem Wk.drop {h0 h' h2 : Heap} (v : PV) (l : h2.le h') : Wk h0 h' v h2 v := ⟨l, fun _ _ _ _ _ q => VR.step (Kp.le l) (Nat.le_refl _) _ q⟩
theorem own_ge {w0 w : World} {h0 h' : Heap} (s : St w0 h0 w h') {b : Nat} {cs : List PV} (e0 : h0.f b = none) (e : h'.f b = some cs) : w0.heap.size ≤ b := by
  rcases Nat.lt_or_ge b w0.heap.size with hb | hb
  · rw [s.dead b hb e0] at e; cases e
  · exact hb
/-- A live row becomes a list. -/
theorem Wk.buf {h0 h' h2 : Heap} {b E off n : Nat} {cs : List PV} (l : h2.le h') (e0 : h0.f b = none) (e : h'.f b = some cs) (e2 : h2.f b = none) (hl : off + n * E ≤ cs.length) :
    Wk h0 h' (.buf b E off n) h2 (.list true E n (olds ((cs.drop off).take (n * E)))) := ⟨l, fun w0 w c s hw q => by
  simp only [VR] at q ⊢
  obtain ⟨k, rfl, q1, q2, q3⟩ := q
  obtain ⟨cells, t, hc, hcl, hcc⟩ := hw b cs e
  have hlt := hw.lt e
  have h1 : CR w h' 0 ((cs.drop off).take (n * E)) (((cells.toList.take cs.length).drop off).take (n * E)) := (hcc.drop off).take (n * E)
  have h3 := CR.step (Kp.le l) (Nat.le_refl _) _ (CR.olds (N' := w0.heap.size) _ h1)
  refine ⟨_, k, _, rfl, q1, by rw [olds_eq]; simp; omega, h3, .inr ⟨b, off, rfl, hlt, e2, fun _ => own_ge s e0 e, fun i v hi => ?_⟩⟩
  rw [List.getElem?_take] at hi
  split at hi
  · rw [List.getElem?_drop] at hi
    have := Mem.live hc cs.length (off + i) v hi
    simpa using this
  · cases hi⟩
theorem Wk.ptr {h0 h' h2 : Heap} {b off : Nat} {cs : List PV} (l : h2.le h') (e0 : h0.f b = none) (e : h'.f b = some cs) (e2 : h2.f b = none) :
    Wk h0 h' (.ptr b off) h2 (.fptr true (olds cs) off) := ⟨l, fun w0 w c s hw q => by
  simp only [VR] at q ⊢
  subst q
  obtain ⟨cells, t, hc, hcl, hcc⟩ := hw b cs e
  have hlt := hw.lt e
  have h3 := CR.step (Kp.le l) (Nat.le_refl _) _ (CR.olds (N' := w0.heap.size) _ hcc)
  exact ⟨b, 0, _, by simp, hlt, e2, fun _ => own_ge s e0 e, h3, Mem.live hc cs.length⟩⟩
theorem Wk.nil {h0 h' h2 : Heap} (l : h2.le h') (fr : Bool) (E : Nat) : Wk h0 h' .nils h2 (.list fr E 0 []) := ⟨l, fun w0 w c s hw q => by
  simp only [VR] at q ⊢
  subst q
  exact ⟨none, 0, [], rfl, Nat.le_refl _, by simp, by simp [CR], .inl trivial⟩⟩
def WkL (h0 h' : Heap) (h2 : Heap) : List PV → List PV → Prop
  | [], [] => True
  | v :: vs, u :: us => Wk h0 h' v h2 u ∧ WkL h0 h' h2 vs us
  | _, _ => False
theorem Wk.tup {h0 h' h2 : Heap} {vs us : List PV} (l : h2.le h') (ws : WkL h0 h' h2 vs us) : Wk h0 h' (.tup vs) h2 (.tup us) := ⟨l, fun w0 w c s hw q => by
  simp only [VR] at q ⊢
  obtain ⟨cs, rfl, q⟩ := q
  refine ⟨cs, rfl, ?_⟩
  have key : ∀ (vs us : List PV) (cs : List Value), WkL h0 h' h2 vs us → TR w h' w0.heap.size vs cs → TR w h2 w0.heap.size us cs := by
    intro vs
    induction vs with
    | nil => intro us cs ws q; cases us with
      | nil => simpa only [TR] using q
      | cons u us => simp [WkL] at ws
    | cons v vs ih =>
      intro us cs ws q
      cases us with
      | nil => simp [WkL] at ws
      | cons u us =>
        simp only [TR, WkL] at q ws ⊢
        obtain ⟨c, cs', rfl, q1, q2⟩ := q
        exact ⟨c, cs', rfl, ws.1.2 w0 w c s hw q1, ih us cs' ws.2 q2⟩
  exact key vs us _ ws q⟩

/-- What must hold where a function comes to its end. -/
def fin (P : Program) (rs : List ResultVar) (h0 : Heap) (K : PV → Heap → Prop) : Exit → Sl → Heap → Prop
  | .ret, σ, h' => ∃ v, ress P rs σ h' = some v ∧ ∃ v2 h2, Wk h0 h' v h2 v2 ∧ K v2 h2
  | .normal, σ, h' => ∃ v, ress P rs σ h' = some v ∧ ∃ v2 h2, Wk h0 h' v h2 v2 ∧ K v2 h2
  | _, _, _ => False
def slots0 (args : List PV) : Sl := fun t => args.getD t .undef

theorem can_of_swp {P : Program} {f : FuncId} {fn : Func} {c : Code} {n : Nat} {args : List PV} {h : Heap} {K : PV → Heap → Prop} (hf : P.funcs[f]? = some fn)
    (hname : (fn.name == "runtime.NumGoroutine") = false) (hb : fn.body = some c) (hn : args.length + (fn.ntmps - args.length) = n) (hr : fn.results.toList.all (okRes n) = true)
    (s : SWP P n c (fin P fn.results.toList h K) (slots0 (olds args)) h) : CanP P f args h K := by
  refine ⟨⟨fn, hf, hname, by rw [hb]; rfl⟩, fun w cargs hw ha => ?_⟩
  have hl : args.length = cargs.size := by have := ha.length; simpa using this
  have ho := TR.olds (N' := w.heap.size) args ha
  have r : Rl w h n (slots0 (olds args)) h { tmps := cargs ++ Array.replicate (fn.ntmps - cargs.size) undef, defers := [] } w := by
    refine ⟨by simp; omega, rfl, fun t ht => ?_, hw, St.refl w h⟩
    unfold slots0
    by_cases e : t < cargs.size
    · have hlt : t < (olds args).length := by rw [olds_eq]; simp; omega
      obtain ⟨v, q1, q2⟩ := ho.get t (List.getElem?_eq_getElem hlt)
      have e1 : (olds args).getD t .undef = (olds args)[t] := by simp [List.getD, hlt]
      rw [e1]
      have q1' : cargs[t]? = some v := by simpa using q1
      have e2 : (cargs ++ Array.replicate (fn.ntmps - cargs.size) undef).getD t undef = v := by
        simp [Array.getElem?_append_left e, q1']
      simp only [e2]
      exact q2
    · have hle : (olds args).length ≤ t := by rw [olds_eq]; simp; omega
      have e1 : (olds args).getD t .undef = .undef := by simp [List.getD, List.getElem?_eq_none hle]
      rw [e1]
      simp only [VR]
  refine calls_of_wp hf hb (wp_mono (s w h _ w r) fun e a' w' ⟨σ', h', q1, q2⟩ => ?_)
  have ok : ∀ x ∈ fn.results.toList, okRes n x = true := fun x hx => List.all_eq_true.1 hr x hx
  have done : (∃ v, ress P fn.results.toList σ' h' = some v ∧ ∃ v2 h2, Wk h h' v h2 v2 ∧ K v2 h2) → a'.defers = [] ∧ ∃ v, (results fn a'.tmps).run P w' = .ok v w' ∧
      (∃ v' c h'', Ending.returned v = .returned c ∧ St w h w' h'' ∧ WR w' h'' 0 ∧ VR w' h'' w.heap.size v' c ∧ K v' h'') := by
    rintro ⟨v, e1, v2, h2, wk, hk⟩
    obtain ⟨c, q3, q4⟩ := ress_sound q1 ok e1
    exact ⟨q1.defers, c, q3, v2, c, h2, rfl, q1.st.trans (St.kill w' h' h2 wk.1), q1.heap.kill wk.1, wk.2 w w' c q1.st q1.heap q4, hk⟩
  cases e with
  | normal => exact done q2
  | ret => exact done q2
  | exit id => exact q2.elim
  | goto l => exact q2.elim
  | panic ch => exact q2.elim
  | outgrown => exact q2.elim
end Go.Pm
