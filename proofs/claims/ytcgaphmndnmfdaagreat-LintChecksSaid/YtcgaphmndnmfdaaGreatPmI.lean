/-
  An abstract machine over pure values, part I: regions of operations, in the text's order and in whatever order may be drawn.
  Conditions: none.
-/
import Derived.Test.YtcgaphmndnmfdaaGreatPmH
namespace Go.Pm
set_option linter.unusedVariables false
set_option linter.unusedSimpArgs false
open Go.RowKit

abbrev Sl := Nat → PV
def put (σ : Sl) (d : Option Tmp) (v : PV) : Sl := match d with | some d => fun t => if t = d then v else σ t | none => σ
theorem put_some (σ : Sl) (d : Tmp) (v : PV) (t : Nat) : put σ (some d) v t = if t = d then v else σ t := rfl
theorem put_none (σ : Sl) (v : PV) : put σ none v = σ := rfl
theorem put_comm (σ : Sl) {d e : Option Tmp} (u v : PV) (h : ∀ x, d = some x → e ≠ some x) : put (put σ d u) e v = put (put σ e v) d u := by
  cases d <;> cases e <;> simp only [put]
  rename_i a b
  have hab : a ≠ b := fun q => h a rfl (by rw [q])
  funext t
  by_cases h1 : t = b
  · subst h1; simp [Ne.symm hab]
  · simp [h1]

/-- The entry's world and heap, and what stands now. -/
structure Rl (w0 : World) (h0 : Heap) (n : Nat) (σ : Sl) (h : Heap) (a : Act) (w : World) : Prop where
  size : a.tmps.size = n
  defers : a.defers = []
  slots : ∀ t, t < n → VR w h w0.heap.size (σ t) (a.tmps.getD t undef)
  heap : WR w h 0
  st : St w0 h0 w h

def okOp (n : Nat) : Operand → Bool
  | .tmp t => decide (t < n)
  | _ => true
def okO (n : Nat) (o : Oper) : Bool := o.op.operands.all (okOp n)

theorem ev_sound {w0 w : World} {h0 h : Heap} {n : Nat} {σ : Sl} {a : Act} (r : Rl w0 h0 n σ h a w) {x : Operand} (ok : okOp n x = true) : VR w h w0.heap.size (ev σ x) (a.eval x) := by
  cases x with
  | tmp t => exact r.slots t (by simpa [okOp] using ok)
  | const v => exact VR.cval v
  | global g => simp only [ev, VR]
  | func f => simp only [ev, Act.eval, VR]; exact ⟨_, _, rfl, by simp [TR], by simp [TR]⟩

theorem Rl.put {w0 w w' : World} {h0 h h' : Heap} {n : Nat} {σ : Sl} {a : Act} (r : Rl w0 h0 n σ h a w) (s : St w h w' h') (hw : WR w' h' 0) (d : Option Tmp) {v : PV} {c : Value} (hv : VR w' h' w0.heap.size v c) :
    Rl w0 h0 n (Pm.put σ d v) h' (a.put d c) w' := by
  have hs : ∀ t, t < n → VR w' h' w0.heap.size (σ t) (a.tmps.getD t undef) := fun t ht => VR.step s.kp (Nat.le_refl _) _ (r.slots t ht)
  cases d with
  | none => exact ⟨r.size, r.defers, hs, hw, r.st.trans s⟩
  | some d =>
    refine ⟨by simp [Act.put, r.size], r.defers, fun t ht => ?_, hw, r.st.trans s⟩
    simp only [Pm.put, Act.put]
    by_cases e : t = d
    · subst e
      have : t < a.tmps.size := by rw [r.size]; exact ht
      simp [this]; exact hv
    · have := hs t ht
      rw [if_neg e]
      simpa [Array.getElem?_setIfInBounds_ne (fun q => e q.symm)] using this

/-- What a guard says. -/
def gv (ops : Array Oper) (σ : Sl) (g : Nat) : Option (Option Bool) :=
  match (ops[g]?).bind (·.dst) with
  | some d => match σ d with | .bool b => some (some b) | .tup [] => some none | _ => none
  | none => none
def okG (n : Nat) (ops : Array Oper) (o : Oper) : Bool :=
  match o.guard with
  | none => true
  | some (g, _) => match (ops[g]?).bind (·.dst) with | some d => decide (d < n) | none => false
def okR (n : Nat) (ops : Array Oper) : Bool := ops.all fun o => okO n o && okG n ops o

/-- One operation of a region, with its guard, by a rule for what it does. -/
def gst (pv : Op → Sl → Heap → (PV → Heap → Prop) → Prop) (ops : Array Oper) (o : Oper) (σ : Sl) (h : Heap) (K : PV → Heap → Prop) : Prop :=
  match o.guard with
  | none => pv o.op σ h K
  | some (g, want) => match gv ops σ g with
    | some b => if b = some want then pv o.op σ h K else K (.tup []) h
    | none => False
/-- The operations of a region in the text's order. -/
def pops (P : Program) (ops : Array Oper) (K : Sl → Heap → Prop) : List Oper → Sl → Heap → Prop
  | [], σ, h => K σ h
  | o :: rest, σ, h => gst (popv P) ops o σ h fun v h' => pops P ops K rest (put σ o.dst v) h'

section
variable {P : Program} {w0 w : World} {h0 h : Heap} {n : Nat} {σ : Sl} {a : Act} {ops : Array Oper} {Q : Exit → Act → World → Prop}

theorem gv_sound (r : Rl w0 h0 n σ h a w) {o : Oper} {g : Nat} {want : Bool} (hg : o.guard = some (g, want)) (ok : okG n ops o = true) {b : Option Bool} (e : gv ops σ g = some b) :
    Region.wanted o (yielded ops a.tmps) = decide (b = some want) := by
  unfold gv at e
  unfold okG at ok
  rw [hg] at ok
  simp only at ok
  split at e
  · rename_i d hd
    rw [hd] at ok
    have hdn : d < n := by simpa using ok
    split at e
    · rename_i b' hb
      cases e
      have hv := r.slots d hdn
      rw [hb] at hv
      simp only [VR] at hv
      have hdt : d < a.tmps.size := by rw [r.size]; exact hdn
      have hy : yielded ops a.tmps g = some b' := by
        unfold yielded
        rw [hd]
        simp only [Option.bind_some]
        rw [Array.getElem?_eq_getElem hdt]
        have : a.tmps[d] = .bool b' := by simpa [hdt] using hv
        rw [this]
      unfold Region.wanted
      rw [hg]
      simp only [hy]
      cases b' <;> cases want <;> rfl
    · rename_i hb
      cases e
      have hv := r.slots d hdn
      rw [hb] at hv
      simp only [VR, TR] at hv
      obtain ⟨vs, hv, hvs⟩ := hv
      have hdt : d < a.tmps.size := by rw [r.size]; exact hdn
      have hy : yielded ops a.tmps g = none := by
        unfold yielded
        rw [hd]
        simp only [Option.bind_some]
        rw [Array.getElem?_eq_getElem hdt]
        have : a.tmps[d] = .tuple vs := by simpa [hdt] using hv
        rw [this]
      unfold Region.wanted
      rw [hg]
      simp only [hy]
      cases want <;> rfl
    · cases e
  · cases e

theorem gst_sound {i : Nat} {o : Oper} (hi : ops[i]? = some o) (r : Rl w0 h0 n σ h a w) (okr : okR n ops = true) {K : PV → Heap → Prop} {next : Act → World → Prop} (hp : gst (popv P) ops o σ h K)
    (hk : ∀ v h' a' w', K v h' → Rl w0 h0 n (put σ o.dst v) h' a' w' → next a' w') : wpOp P ops Q i next a w := by
  have ok := Array.all_eq_true_iff_forall_mem.1 okr o (Array.mem_of_getElem? hi)
  simp only [Bool.and_eq_true] at ok
  have hops : ∀ x ∈ o.op.operands, VR w h w0.heap.size (ev σ x) (a.eval x) := fun x hx => ev_sound r (Array.all_eq_true_iff_forall_mem.1 ok.1 x hx)
  have run : popv P o.op σ h K → o.wp P a w next Q := fun q =>
    pop_sound hops r.heap r.st.size q fun v c h' w' h1 h2 h3 h4 => hk v h' _ w' h1 (r.put h2 h3 o.dst h4)
  have skip : K (.tup []) h → next (a.put o.dst undef) w := fun q => hk _ _ _ _ q (r.put (St.refl w h) r.heap o.dst (by simp only [VR]; exact ⟨#[], rfl, rfl⟩))
  unfold wpOp
  simp only [hi]
  unfold gst at hp
  split at hp
  · rename_i hg
    have : Region.wanted o (yielded ops a.tmps) = true := by unfold Region.wanted; rw [hg]
    rw [this]
    exact .inl (run hp)
  · rename_i g want hg
    split at hp
    · rename_i b hb
      rw [gv_sound r hg ok.2 hb]
      split at hp
      · rename_i e
        simp only [e, decide_true, if_true]
        exact .inl (run hp)
      · rename_i e
        simp only [e, decide_false, Bool.false_eq_true, if_false]
        exact skip hp
    · exact hp.elim

theorem pops_sound (okr : okR n ops = true) {K : Sl → Heap → Prop} (hk : ∀ σ h a w, K σ h → Rl w0 h0 n σ h a w → Q .normal a w) :
    ∀ (l : List Oper) (k : Nat), ops.toList.drop k = l → ∀ (σ : Sl) (h : Heap) (a : Act) (w : World), Rl w0 h0 n σ h a w → pops P ops K l σ h → wpOps P ops Q ((List.range ops.size).drop k) a w
  | [], k, e, σ, h, a, w, r, hp => by
    have : ops.size ≤ k := by simpa using e
    rw [List.drop_eq_nil_of_le (by simpa using this)]
    exact hk σ h a w hp r
  | o :: rest, k, e, σ, h, a, w, r, hp => by
    have hlt : k < ops.size := by
      rcases Nat.lt_or_ge k ops.size with h | h
      · exact h
      · rw [List.drop_eq_nil_of_le (by simpa using h)] at e; cases e
    rw [List.drop_eq_getElem_cons (by simpa using hlt)] at e ⊢
    simp only [List.cons.injEq] at e
    obtain ⟨e1, e2⟩ := e
    simp only [List.getElem_range]
    rw [wpOps_cons]
    refine gst_sound (by rw [Array.getElem?_eq_getElem hlt]; simpa using e1) r okr hp fun v h' a' w' h1 h2 => ?_
    exact pops_sound okr hk rest (k + 1) e2 _ _ a' w' h2 h1
end

/-! ### Regions that draw -/
inductive Cls where
  | D | R | A | E
  deriving DecidableEq
def liv : List Nat → Nat → Bool
  | [], _ => false
  | a :: l, d => if d = a then true else liv l d
def livO (L : List Nat) (d : Option Nat) : Bool := match d with | some d => liv L d | none => false
/-- Its kind. `z`: a load from what nobody writes; a call that writes. -/
def cls (z : Bool) : Op → Cls
  | .load _ _ => if z then .D else .R
  | .call ⟨.value _, _, _⟩ => if z then .E else .R
  | .makeSlice _ _ _ => .A
  | .store _ _ _ | .alloc _ => .E
  | .call ⟨.builtin .append, _, _⟩ => .E
  | .call ⟨.builtin .copy, _, _⟩ => .E
  | _ => .D
def dD (P : Program) (o : Op) (σ : Sl) : Option PV :=
  match o with
  | .box _ x => (flat (ev σ x)).map fun cs => .fptr true cs 0
  | .buildSlice t n ps => (bsl P t n (ps.toList.map fun p => (p.1, ev σ p.2))).map fun r => .list true r.1 n r.2
  | .load t a => match ev σ a with | .fptr fr cs off => ldp P Heap.nil t (.fptr fr cs off) | _ => none
  | o => dv P o σ
def rD (P : Program) (o : Op) (σ : Sl) (h : Heap) (v : PV) : Prop :=
  match o with
  | .load t a => ldp P h t (ev σ a) = some v
  | .call ⟨.value f, args, _⟩ => match ev σ f with
    | .fn g first caps => CanP P g (first ++ args.toList.map (ev σ) ++ caps) h fun r h' => r = v ∧ h' = h
    | _ => False
  | _ => False
/-- One operation of a region that draws its order. -/
def popD (P : Program) (z : Bool) (o : Op) (σ : Sl) (h : Heap) (K : PV → Heap → Prop) : Prop :=
  match cls z o with
  | .D => ∃ v, dD P o σ = some v ∧ K v h
  | .R => ∃ v, rD P o σ h v ∧ K v h
  | .E => (∃ v h', K v h') ∧ popv P o σ h K
  | .A => popv P o σ h K
def popsD (P : Program) (L : List Nat) (ops : Array Oper) (K : Sl → Heap → Prop) : List Oper → Sl → Heap → Prop
  | [], σ, h => K σ h
  | o :: rest, σ, h => gst (popD P (livO L o.dst)) ops o σ h fun v h' => popsD P L ops K rest (put σ o.dst v) h'

section
variable {P : Program} {z : Bool}
theorem popD_popv {o : Op} {σ : Sl} {h : Heap} {K : PV → Heap → Prop} (hp : popD P z o σ h K) : popv P o σ h K := by
  unfold popD at hp
  split at hp
  · rename_i hc
    obtain ⟨v, e, hk⟩ := hp
    unfold dD at e
    split at e
    · rename_i t x
      cases hf : flat (ev σ x) with
      | none => simp [hf] at e
      | some cs =>
        simp only [hf, Option.map_some, Option.some.injEq] at e
        subst e
        exact ⟨cs, hf, .inl hk⟩
    · rename_i t n ps
      cases hf : bsl P t n (ps.toList.map fun p => (p.1, ev σ p.2)) with
      | none => simp [hf] at e
      | some r =>
        simp only [hf, Option.map_some, Option.some.injEq] at e
        subst e
        exact ⟨r, hf, .inl hk⟩
    · rename_i t x
      split at e
      · rename_i fr cs off hx
        exact ⟨v, by rw [hx]; exact e, hk⟩
      · cases e
    · rename_i o1 h1 h2 h3
      unfold popv
      split <;> first | (exact absurd rfl (h1 _ _)) | (exact absurd rfl (h2 _ _ _)) | (exact absurd rfl (h3 _ _)) | (simp [cls] at hc; done) | (cases z <;> (simp [cls] at hc; done)) | exact ⟨v, e, hk⟩
  · rename_i hc
    obtain ⟨v, e, hk⟩ := hp
    unfold rD at e
    split at e
    · exact ⟨v, e, hk⟩
    · rename_i f args ts
      unfold popv
      simp only
      split at e
      · rename_i g first caps hf
        rw [hf]
        exact e.mono fun r h' ⟨q1, q2⟩ => by rw [q1, q2]; exact hk
      · exact e.elim
    · exact e.elim
  · exact hp.2
  · exact hp
theorem popv_mono {o : Op} {σ : Sl} {h : Heap} {K K' : PV → Heap → Prop} (hk : ∀ v h', K v h' → K' v h') (hp : popv P o σ h K) : popv P o σ h K' := by
  unfold popv at hp ⊢
  split <;> simp only at hp
  · obtain ⟨v, e, q⟩ := hp; exact ⟨v, e, hk _ _ q⟩
  · obtain ⟨v, e, q⟩ := hp; exact ⟨v, e, hk _ _ q⟩
  · obtain ⟨v, e, q⟩ := hp; exact ⟨v, e, q.imp (hk _ _) fun q b hb => hk _ _ (q b hb)⟩
  · obtain ⟨v, e, q⟩ := hp; exact ⟨v, e, q.imp (hk _ _) fun q b hb => hk _ _ (q b hb)⟩
  · obtain ⟨v, e, q⟩ := hp; exact ⟨v, e, q.imp (hk _ _) fun q b hb => hk _ _ (q b hb)⟩
  · obtain ⟨r, kl, nl, kc, nc, e1, e2, e3, e4, e5, e6, e7, q⟩ := hp
    exact ⟨r, kl, nl, kc, nc, e1, e2, e3, e4, e5, e6, e7, fun b hb => hk _ _ (q b hb)⟩
  · split at hp
    · exact hp.mono hk
    · exact hp.elim
  · split at hp
    · obtain ⟨r, m, new, e1, e2, hp⟩ := hp
      refine ⟨r, m, new, e1, e2, ?_⟩
      split at hp
      · obtain ⟨q1, q2, q3⟩ := hp
        refine ⟨q1, q2, ?_⟩
        by_cases hm : m = 0
        · rw [if_pos hm] at q3 ⊢; exact hk _ _ q3
        · rw [if_neg hm] at q3 ⊢; exact fun b hb => hk _ _ (q3 b hb)
      · obtain ⟨q1, q2, q3, q4, cs, q5, q6, q7⟩ := hp
        exact ⟨q1, q2, q3, q4, cs, q5, q6, fun b hb => hk _ _ (q7 b hb)⟩
      · exact hp.elim
    · exact hp.elim
  · split at hp
    · obtain ⟨E, m, new, e1, e2, hp⟩ := hp
      exact ⟨E, m, new, e1, e2, cpv_mono hk hp⟩
    · exact hp.elim
  · obtain ⟨v, e, q⟩ := hp; exact ⟨v, e, hk _ _ q⟩
theorem popD_mono {o : Op} {σ : Sl} {h : Heap} {K K' : PV → Heap → Prop} (hk : ∀ v h', K v h' → K' v h') (hp : popD P z o σ h K) : popD P z o σ h K' := by
  unfold popD at hp ⊢
  cases hc : cls z o <;> simp only [hc] at hp ⊢
  · obtain ⟨v, e, q⟩ := hp; exact ⟨v, e, hk _ _ q⟩
  · obtain ⟨v, e, q⟩ := hp; exact ⟨v, e, hk _ _ q⟩
  · exact popv_mono hk hp
  · obtain ⟨⟨v, h', q⟩, hp⟩ := hp; exact ⟨⟨v, h', hk _ _ q⟩, popv_mono hk hp⟩
theorem popv_some {o : Op} {σ : Sl} {h : Heap} {K : PV → Heap → Prop} (hc : cls z o = .E ∨ cls z o = .A) (hn : ∀ f a t, o ≠ .call ⟨.value f, a, t⟩) (hp : popv P o σ h K) : ∃ v h', K v h' := by
  obtain ⟨b0, hb0⟩ := h.fresh
  unfold popv at hp
  split at hp
  · cases z <;> simp [cls] at hc
  · obtain ⟨h', _, q⟩ := hp; exact ⟨_, _, q⟩
  · simp [cls] at hc
  · obtain ⟨z, _, q⟩ := hp; exact q.elim (fun q => ⟨_, _, q⟩) fun q => ⟨_, _, q b0 hb0⟩
  · simp [cls] at hc
  · obtain ⟨r, kl, nl, kc, nc, e1, e2, e3, e4, e5, e6, e7, q⟩ := hp; exact ⟨_, _, q b0 hb0⟩
  · exact absurd rfl (hn _ _ _)
  · split at hp
    · obtain ⟨r, m, new, e1, e2, hp⟩ := hp
      split at hp
      · obtain ⟨q1, q2, q3⟩ := hp
        split at q3
        · exact ⟨_, _, q3⟩
        · exact ⟨_, _, q3 b0 hb0⟩
      · obtain ⟨q1, q2, q3, q4, cs, q5, q6, q7⟩ := hp
        exact ⟨_, _, q7 _ (.inl rfl)⟩
      · exact hp.elim
    · exact hp.elim
  · split at hp
    · obtain ⟨E, m, new, e1, e2, hp⟩ := hp
      exact cpv_some hp
    · exact hp.elim
  · obtain ⟨v, _, q⟩ := hp; exact ⟨_, _, q⟩
theorem popD_some {o : Op} {σ : Sl} {h : Heap} {K : PV → Heap → Prop} (hp : popD P z o σ h K) : ∃ v h', K v h' := by
  unfold popD at hp
  split at hp
  · obtain ⟨v, _, q⟩ := hp; exact ⟨_, _, q⟩
  · obtain ⟨v, _, q⟩ := hp; exact ⟨_, _, q⟩
  · exact hp.1
  · rename_i h1
    refine popv_some (z := z) (.inr h1) (fun f a t e => ?_) hp
    subst e
    cases z <;> simp [cls] at h1
end
end Go.Pm
