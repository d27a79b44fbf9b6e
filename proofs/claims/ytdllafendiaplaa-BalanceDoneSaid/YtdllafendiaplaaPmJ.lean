/-
  An abstract machine over pure values, part J: one walk in the text's order serves every order that may be drawn.
  Conditions: none.
-/
import Derived.Test.YtdllafendiaplaaPmI
namespace Go.Pm
set_option linter.unusedVariables false
set_option linter.unusedSimpArgs false

section
variable {P : Program}

theorem maps_congr {σ σ' : Sl} {l : Array Operand} (h : ∀ x ∈ l, ev σ x = ev σ' x) : l.toList.map (ev σ) = l.toList.map (ev σ') :=
  List.map_congr_left fun x hx => h x (by simpa using hx)
theorem parts_congr {σ σ' : Sl} {l : Array (Nat × Operand)} (h : ∀ x ∈ (l.toList.map (·.2)).toArray, ev σ x = ev σ' x) :
    (l.toList.map fun p => (p.1, ev σ p.2)) = l.toList.map fun p => (p.1, ev σ' p.2) :=
  List.map_congr_left fun p hp => by rw [h p.2 (by simp; exact ⟨p.1, by simpa using hp⟩)]
theorem dv_congr {o : Op} {σ σ' : Sl} (h : ∀ x ∈ o.operands, ev σ x = ev σ' x) : dv P o σ = dv P o σ' := by
  cases o <;> simp only [Op.operands] at h <;> simp only [dv]
  case slice t x lo hi mx =>
    have hx := h x (by simp)
    cases mx with
    | some _ => rfl
    | none =>
      simp only
      rw [hx]
      cases lo <;> cases hi <;> simp_all
  case makeFunc fn first caps =>
    cases fn <;> simp only
    rw [maps_congr fun x hx => h x (by simp [hx]), maps_congr (l := caps) fun x hx => h x (by simp [hx])]
  case build t ps => rw [parts_congr h]
  case call c =>
    obtain ⟨callee, args, ts⟩ := c
    have ha : args.toList.map (ev σ) = args.toList.map (ev σ') := maps_congr fun x hx => h x (by simp [Call.operands, hx])
    cases callee
    case value f => rfl
    case invoke r m => rfl
    rename_i b
    cases b <;> (try simp only [ha])
    all_goals first
      | rfl
      | (split
         · rename_i t x ht hx
           have : ev σ x = ev σ' x := h x (by
             have : x ∈ args.toList := by rw [hx]; simp
             simp [Call.operands]; simpa using this)
           rw [this]
         · rfl)
  all_goals first | rfl | (simp_all; done)
theorem popv_congr {o : Op} {σ σ' : Sl} {hp : Heap} {K : PV → Heap → Prop} (h : ∀ x ∈ o.operands, ev σ x = ev σ' x) : popv P o σ hp K ↔ popv P o σ' hp K := by
  have hd := dv_congr (P := P) h
  cases o <;> simp only [Op.operands] at h <;> simp only [popv, hd]
  case load t a => rw [h a (by simp)]
  case store t a x => rw [h a (by simp), h x (by simp)]
  case box t x => rw [h x (by simp)]
  case buildSlice t n ps => rw [parts_congr h]
  case makeSlice t l c => rw [h l (by simp), h c (by simp)]
  case call c =>
    obtain ⟨callee, args, ts⟩ := c
    have ha : args.toList.map (ev σ) = args.toList.map (ev σ') := maps_congr fun x hx => h x (by simp [Call.operands, hx])
    cases callee
    case value f =>
      have hf : ev σ f = ev σ' f := h f (by simp [Call.operands])
      simp only [ha, hf]
    case invoke r m => rfl
    case builtin b =>
      cases b <;> simp only <;> (try rw [hd])
      all_goals
        split
        · rename_i s x t tx hargs hts
          have hs : ev σ s = ev σ' s := h s (by
            have : s ∈ args.toList := by rw [hargs]; simp
            simp [Call.operands]; simpa using this)
          have hx : ev σ x = ev σ' x := h x (by
            have : x ∈ args.toList := by rw [hargs]; simp
            simp [Call.operands]; simpa using this)
          rw [hs, hx]
        · rfl
theorem dD_congr {o : Op} {σ σ' : Sl} (h : ∀ x ∈ o.operands, ev σ x = ev σ' x) : dD P o σ = dD P o σ' := by
  have hd := dv_congr (P := P) h
  cases o <;> simp only [Op.operands] at h <;> simp only [dD, hd]
  case box t x => rw [h x (by simp)]
  case buildSlice t n ps => rw [parts_congr h]
  case load t a => rw [h a (by simp)]
theorem rD_congr {o : Op} {σ σ' : Sl} {hp : Heap} {v : PV} (h : ∀ x ∈ o.operands, ev σ x = ev σ' x) : rD P o σ hp v ↔ rD P o σ' hp v := by
  cases o <;> simp only [Op.operands] at h <;> simp only [rD]
  case load t a => rw [h a (by simp)]
  case call c =>
    obtain ⟨callee, args, ts⟩ := c
    have ha : args.toList.map (ev σ) = args.toList.map (ev σ') := maps_congr fun x hx => h x (by simp [Call.operands, hx])
    cases callee
    case value f =>
      have hf : ev σ f = ev σ' f := h f (by simp [Call.operands])
      simp only [ha, hf]
    case invoke r m => rfl
    case builtin b => rfl
theorem popD_congr {z : Bool} {o : Op} {σ σ' : Sl} {hp : Heap} {K : PV → Heap → Prop} (h : ∀ x ∈ o.operands, ev σ x = ev σ' x) : popD P z o σ hp K ↔ popD P z o σ' hp K := by
  unfold popD
  cases cls z o <;> simp only [dD_congr (P := P) h, rD_congr (P := P) h, popv_congr (P := P) h]

/-! ### With guards -/
variable {ops : Array Oper} {L : List Nat}
theorem gv_congr {σ σ' : Sl} {g : Nat} (h : ∀ d, (ops[g]?).bind (·.dst) = some d → σ d = σ' d) : gv ops σ g = gv ops σ' g := by
  unfold gv
  split
  · rename_i d hd; rw [h d hd]
  · rfl
/-- Two states that read alike where an operation looks. -/
def Sees (ops : Array Oper) (o : Oper) (σ σ' : Sl) : Prop := ∀ t ∈ o.looksAt ops, σ t = σ' t
theorem Sees.ev {o : Oper} {σ σ' : Sl} (s : Sees ops o σ σ') : ∀ x ∈ o.op.operands, ev σ x = ev σ' x := fun x hx => by
  cases x with
  | tmp t => exact s t (by unfold Oper.looksAt; exact List.mem_append_left _ (List.mem_filterMap.2 ⟨.tmp t, by simpa using hx, rfl⟩))
  | _ => rfl
theorem Sees.guard {o : Oper} {σ σ' : Sl} {g : Nat} {want : Bool} (s : Sees ops o σ σ') (hg : o.guard = some (g, want)) : gv ops σ g = gv ops σ' g :=
  gv_congr fun d hd => s d (by unfold Oper.looksAt; rw [hg]; exact List.mem_append_right _ (by simp [hd]))
abbrev gD (P : Program) (L : List Nat) (ops : Array Oper) (o : Oper) (σ : Sl) (h : Heap) (K : PV → Heap → Prop) : Prop := gst (popD P (livO L o.dst)) ops o σ h K
theorem gD_congr {o : Oper} {σ σ' : Sl} {h : Heap} {K : PV → Heap → Prop} (s : Sees ops o σ σ') : gD P L ops o σ h K ↔ gD P L ops o σ' h K := by
  unfold gD gst
  cases hg : o.guard with
  | none => simp only; exact popD_congr s.ev
  | some p =>
    obtain ⟨g, want⟩ := p
    simp only
    rw [s.guard hg]
    cases gv ops σ' g with
    | none => rfl
    | some b =>
      simp only
      by_cases e : b = some want
      · simp only [e, if_true]; exact popD_congr s.ev
      · simp only [e, if_false]
theorem gD_mono {o : Oper} {σ : Sl} {h : Heap} {K K' : PV → Heap → Prop} (hk : ∀ v h', K v h' → K' v h') (hp : gD P L ops o σ h K) : gD P L ops o σ h K' := by
  unfold gD gst at hp ⊢
  cases hg : o.guard with
  | none => rw [hg] at hp; exact popD_mono hk hp
  | some p =>
    obtain ⟨g, want⟩ := p
    rw [hg] at hp
    simp only at hp ⊢
    cases hb : gv ops σ g with
    | none => rw [hb] at hp; exact hp
    | some b =>
      rw [hb] at hp
      simp only at hp ⊢
      by_cases e : b = some want
      · rw [if_pos e] at hp ⊢; exact popD_mono hk hp
      · rw [if_neg e] at hp ⊢; exact hk _ _ hp
theorem gD_some {o : Oper} {σ : Sl} {h : Heap} {K : PV → Heap → Prop} (hp : gD P L ops o σ h K) : ∃ v h', K v h' := by
  unfold gD gst at hp
  cases hg : o.guard with
  | none => rw [hg] at hp; exact popD_some hp
  | some p =>
    obtain ⟨g, want⟩ := p
    rw [hg] at hp
    simp only at hp
    cases hb : gv ops σ g with
    | none => rw [hb] at hp; exact hp.elim
    | some b =>
      rw [hb] at hp
      simp only at hp
      by_cases e : b = some want
      · rw [if_pos e] at hp; exact popD_some hp
      · rw [if_neg e] at hp; exact ⟨_, _, hp⟩
/-- What an operation of the first kind yields, in whatever heap. -/
def yD (P : Program) (ops : Array Oper) (o : Oper) (σ : Sl) : Option PV :=
  match o.guard with
  | none => dD P o.op σ
  | some (g, want) => match gv ops σ g with
    | some b => if b = some want then dD P o.op σ else some (.tup [])
    | none => none
theorem gD_D {o : Oper} {σ : Sl} {h : Heap} {K : PV → Heap → Prop} (hc : cls (livO L o.dst) o.op = .D) : gD P L ops o σ h K ↔ ∃ v, yD P ops o σ = some v ∧ K v h := by
  unfold gD gst yD
  cases hg : o.guard with
  | none => simp only [popD, hc]
  | some p =>
    obtain ⟨g, want⟩ := p
    simp only
    cases hb : gv ops σ g with
    | none => simp
    | some b =>
      simp only
      by_cases e : b = some want
      · simp only [e, if_true, popD, hc]
      · simp only [e, if_false]; simp
theorem yD_congr {o : Oper} {σ σ' : Sl} (s : Sees ops o σ σ') : yD P ops o σ = yD P ops o σ' := by
  unfold yD
  cases hg : o.guard with
  | none => exact dD_congr s.ev
  | some p =>
    obtain ⟨g, want⟩ := p
    simp only
    rw [s.guard hg]
    cases gv ops σ' g with
    | none => rfl
    | some b => simp only; rw [dD_congr s.ev]
/-- What an operation of the second kind may yield. -/
def zD (P : Program) (ops : Array Oper) (o : Oper) (σ : Sl) (h : Heap) (v : PV) : Prop :=
  match o.guard with
  | none => rD P o.op σ h v
  | some (g, want) => match gv ops σ g with
    | some b => if b = some want then rD P o.op σ h v else v = .tup []
    | none => False
theorem gD_R {o : Oper} {σ : Sl} {h : Heap} {K : PV → Heap → Prop} (hc : cls (livO L o.dst) o.op = .R) : gD P L ops o σ h K ↔ ∃ v, zD P ops o σ h v ∧ K v h := by
  unfold gD gst zD
  cases hg : o.guard with
  | none => simp only [popD, hc]
  | some p =>
    obtain ⟨g, want⟩ := p
    simp only
    cases hb : gv ops σ g with
    | none => simp
    | some b =>
      simp only
      by_cases e : b = some want
      · simp only [e, if_true, popD, hc]
      · simp only [e, if_false]; simp
theorem zD_congr {o : Oper} {σ σ' : Sl} {h : Heap} {v : PV} (s : Sees ops o σ σ') : zD P ops o σ h v ↔ zD P ops o σ' h v := by
  unfold zD
  cases hg : o.guard with
  | none => exact rD_congr s.ev
  | some p =>
    obtain ⟨g, want⟩ := p
    simp only
    rw [s.guard hg]
    cases gv ops σ' g with
    | none => rfl
    | some b =>
      simp only
      by_cases e : b = some want
      · simp only [e, if_true]; exact rD_congr s.ev
      · simp only [e, if_false]

/-- May two operations change places? -/
def may (L : List Nat) (ops : Array Oper) (x y : Oper) : Bool :=
  x.apart ops y && (cls (livO L x.dst) x.op == .D || cls (livO L y.dst) y.op == .D || (cls (livO L x.dst) x.op == .R && cls (livO L y.dst) y.op == .R) || (cls (livO L x.dst) x.op == .A && cls (livO L y.dst) y.op == .A))

theorem sees_put {o : Oper} {σ : Sl} {d : Option Tmp} {v : PV} (h : ∀ x, d = some x → x ∉ o.looksAt ops) : Sees ops o (put σ d v) σ := fun t ht => by
  cases d with
  | none => rfl
  | some d =>
    have : t ≠ d := fun e => h d rfl (e ▸ ht)
    simp [put, this]

/-- What an operation that makes room asks, and what it makes. -/
def mA (P : Program) (o : Op) (σ : Sl) (z : List PV) (mk : Nat → PV) : Prop := match o with
  | .makeSlice t l c => ∃ r kl nl kc nc, eli P t = some r ∧ ev σ l = .int kl nl ∧ ev σ c = .int kc nc ∧ 0 ≤ nl ∧ nl ≤ nc ∧ (r.2.1 : Int) * nc ≤ 281474976710656 ∧ nc ≤ 9223372036854775807 ∧
      z = rep nl.toNat r.2.2 ∧ mk = fun b => .buf b r.1 0 nl.toNat
  | _ => False
theorem popv_A {z0 : Bool} {o : Op} {σ : Sl} {h : Heap} {K : PV → Heap → Prop} (hc : cls z0 o = .A) : popv P o σ h K ↔ ∃ z mk, mA P o σ z mk ∧ ∀ b, h.f b = none → K (mk b) (h.set b z) := by
  cases o <;> (try (cases z0 <;> simp [cls] at hc; done))
  case call c =>
    exfalso
    obtain ⟨callee, args, ts⟩ := c
    cases callee <;> (try (cases z0 <;> (simp [cls] at hc; done)))
    rename_i b
    cases b <;> simp [cls] at hc
  case makeSlice t l c =>
    constructor
    · rintro ⟨r, kl, nl, kc, nc, e1, e2, e3, e4, e5, e6, e7, q⟩
      exact ⟨_, _, ⟨r, kl, nl, kc, nc, e1, e2, e3, e4, e5, e6, e7, rfl, rfl⟩, q⟩
    · rintro ⟨z, mk, ⟨r, kl, nl, kc, nc, e1, e2, e3, e4, e5, e6, e7, rfl, rfl⟩, q⟩
      exact ⟨r, kl, nl, kc, nc, e1, e2, e3, e4, e5, e6, e7, q⟩
/-- It is skipped, or it makes room. -/
def gA (P : Program) (ops : Array Oper) (o : Oper) (σ : Sl) : Option (List PV × (Nat → PV)) → Prop
  | none => match o.guard with | none => False | some (g, want) => ∃ b, gv ops σ g = some b ∧ b ≠ some want
  | some (z, mk) => mA P o.op σ z mk ∧ match o.guard with | none => True | some (g, want) => gv ops σ g = some (some want)
theorem gD_A {o : Oper} {σ : Sl} {h : Heap} {K : PV → Heap → Prop} (hc : cls (livO L o.dst) o.op = .A) :
    gD P L ops o σ h K ↔ (gA P ops o σ none ∧ K (.tup []) h) ∨ ∃ z mk, gA P ops o σ (some (z, mk)) ∧ ∀ b, h.f b = none → K (mk b) (h.set b z) := by
  have hp : popD P (livO L o.dst) o.op σ h K ↔ popv P o.op σ h K := by unfold popD; rw [hc]
  unfold gD gst gA
  cases hg : o.guard with
  | none => simp only [hp, popv_A hc]; simp
  | some p =>
    obtain ⟨g, want⟩ := p
    simp only
    cases hb : gv ops σ g with
    | none => simp
    | some b =>
      simp only
      by_cases e : b = some want
      · simp only [e, if_true, hp, popv_A hc]; simp
      · simp only [e, if_false]; simp [e]
theorem gA_or {o : Oper} {σ : Sl} {r : List PV × (Nat → PV)} (h1 : gA P ops o σ none) (h2 : gA P ops o σ (some r)) : False := by
  obtain ⟨z, mk⟩ := r
  unfold gA at h1 h2
  cases hg : o.guard with
  | none => rw [hg] at h1; exact h1
  | some p =>
    rw [hg] at h1 h2
    obtain ⟨b, e1, e2⟩ := h1
    have := h2.2
    simp only at this
    rw [e1] at this
    exact e2 (by simpa using this)
theorem mA_one {o : Op} {σ : Sl} {z z' : List PV} {mk mk' : Nat → PV} (h1 : mA P o σ z mk) (h2 : mA P o σ z' mk') : z = z' ∧ mk = mk' := by
  cases o <;> simp only [mA] at h1 h2
  obtain ⟨r, kl, nl, kc, nc, e1, e2, e3, _, _, _, _, rfl, rfl⟩ := h1
  obtain ⟨r', kl', nl', kc', nc', e1', e2', e3', _, _, _, _, rfl, rfl⟩ := h2
  rw [e1] at e1'; cases e1'
  rw [e2] at e2'; cases e2'
  exact ⟨rfl, rfl⟩
theorem gA_one {o : Oper} {σ : Sl} {z z' : List PV} {mk mk' : Nat → PV} (h1 : gA P ops o σ (some (z, mk))) (h2 : gA P ops o σ (some (z', mk'))) : z = z' ∧ mk = mk' := mA_one h1.1 h2.1
theorem swap {x y : Oper} {σ : Sl} {h : Heap} {K : Sl → Heap → Prop} (hm : may L ops x y = true)
    (hp : gD P L ops x σ h fun v h' => gD P L ops y (put σ x.dst v) h' fun u h'' => K (put (put σ x.dst v) y.dst u) h'') :
    gD P L ops y σ h fun u h' => gD P L ops x (put σ y.dst u) h' fun v h'' => K (put (put σ y.dst u) x.dst v) h'' := by
  unfold may at hm
  simp only [Bool.and_eq_true, Bool.or_eq_true, beq_iff_eq] at hm
  obtain ⟨ha, hc⟩ := hm
  obtain ⟨a1, a2, a3⟩ := Oper.apart_spec ha
  have comm : ∀ u v, put (put σ x.dst v) y.dst u = put (put σ y.dst u) x.dst v := fun u v => put_comm σ v u a2
  have sy : ∀ v, Sees ops y (put σ x.dst v) σ := fun v => sees_put a1
  have sx : ∀ u, Sees ops x (put σ y.dst u) σ := fun u => sees_put a3
  have hp' : gD P L ops x σ h fun v h' => gD P L ops y σ h' fun u h'' => K (put (put σ y.dst u) x.dst v) h'' :=
    gD_mono (fun v h' q => gD_mono (fun u h'' q => by rw [← comm]; exact q) ((gD_congr (sy v)).1 q)) hp
  suffices gD P L ops y σ h fun u h' => gD P L ops x σ h' fun v h'' => K (put (put σ y.dst u) x.dst v) h'' from
    gD_mono (fun u h' q => (gD_congr (sx u)).2 q) this
  rcases hc with ((hc | hc) | ⟨hc1, hc2⟩) | ⟨hc1, hc2⟩
  · rw [gD_D hc] at hp'
    obtain ⟨v, e, q⟩ := hp'
    exact gD_mono (fun u h' q => (gD_D hc).2 ⟨v, e, q⟩) q
  · obtain ⟨v0, h0, q0⟩ := gD_some hp'
    obtain ⟨u, e, _⟩ := (gD_D hc).1 q0
    rw [gD_D hc]
    refine ⟨u, e, gD_mono (fun v h' q => ?_) hp'⟩
    obtain ⟨u', e', q'⟩ := (gD_D hc).1 q
    rw [e] at e'
    cases e'
    exact q'
  · rw [gD_R hc1] at hp'
    obtain ⟨v, e, q⟩ := hp'
    rw [gD_R hc2] at q ⊢
    obtain ⟨u, e2, q2⟩ := q
    exact ⟨u, e2, (gD_R hc1).2 ⟨v, e, q2⟩⟩
  · rw [gD_A hc1] at hp'
    rw [gD_A hc2]
    rcases hp' with ⟨s1, q⟩ | ⟨z, mk, s1, q⟩
    · rw [gD_A hc2] at q
      rcases q with ⟨s2, q⟩ | ⟨z2, mk2, s2, q⟩
      · exact .inl ⟨s2, (gD_A hc1).2 (.inl ⟨s1, q⟩)⟩
      · exact .inr ⟨z2, mk2, s2, fun b hb => (gD_A hc1).2 (.inl ⟨s1, q b hb⟩)⟩
    · obtain ⟨b0, hb0⟩ := h.fresh
      have q0 := q b0 hb0
      rw [gD_A hc2] at q0
      rcases q0 with ⟨s2, _⟩ | ⟨z2, mk2, s2, _⟩
      · refine .inl ⟨s2, (gD_A hc1).2 (.inr ⟨z, mk, s1, fun b hb => ?_⟩)⟩
        have q1 := q b hb
        rw [gD_A hc2] at q1
        rcases q1 with ⟨_, q1⟩ | ⟨z3, mk3, s3, _⟩
        · exact q1
        · exact (gA_or s2 s3).elim
      · refine .inr ⟨z2, mk2, s2, fun b2 hb2 => (gD_A hc1).2 (.inr ⟨z, mk, s1, fun b1 hb1 => ?_⟩)⟩
        have hne : b1 ≠ b2 := fun e => by rw [e, Heap.set_same] at hb1; cases hb1
        have hb1' : h.f b1 = none := by rwa [Heap.set_ne _ _ hne] at hb1
        have q1 := q b1 hb1'
        rw [gD_A hc2] at q1
        rcases q1 with ⟨s3, _⟩ | ⟨z3, mk3, s3, q1⟩
        · exact (gA_or s3 s2).elim
        · obtain ⟨rfl, rfl⟩ := gA_one s2 s3
          have := q1 b2 (by rw [Heap.set_ne _ _ (Ne.symm hne)]; exact hb2)
          rwa [Heap.set_comm _ _ _ hne] at this
end
end Go.Pm
