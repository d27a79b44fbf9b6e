/-
  An abstract machine over pure values, part J: one walk in the text's order serves every order that may be drawn.
  Conditions: none.
-/
import Derived.Test.YtcgaphmndnmfdaaGreatPmI
namespace Go.Pm
set_option linter.unusedVariables false
set_option linter.unusedSimpArgs false

section
variable {P : Program}

theorem maps_congr {σ σ' : Sl} {l : Array Operand} (h : ∀ x ∈ l, ev σ x = ev σ' x) : l.toList.map (ev σ) = l.toList.map (ev σ') :=
  List.map_congr_left fun x hx => h x (by simpa using hx)
theorem parts_congr {σ σ' : Sl} {l : Array (Nat × Operand)} (h : ∀ x ∈ (l.toList.map (·.2)).toArray, ev σ x = ev σ' x) :
    (l.toList.map fun p => (p.1, ev σ p.2)) = l.toList.map fun p => (p.1, ev σ' p.2) :=
  List.map_congr_left fun p hp => by rw [h p.2 (by simp; exact ⟨p.1, by simpa using hp⟩)]
theorem dv_congr {o : Op} {σ σ' : Sl} (h : ∀ x ∈ o.operands, ev σ x = ev σ' x) : dv P o σ = dv P o σ' := by
  cases o <;> simp only [Op.operands] at h <;> simp only [dv]
  case slice t x lo hi mx =>
    have hx := h x (by simp)
    cases mx with
    | some _ => rfl
    | none =>
      simp only
      rw [hx]
      cases lo <;> cases hi <;> simp_all
  case makeFunc fn first caps =>
    cases fn <;> simp only
    rw [maps_congr fun x hx => h x (by simp [hx]), maps_congr (l := caps) fun x hx => h x (by simp [hx])]
  case build t ps => rw [parts_congr h]
  case call c =>
    obtain ⟨callee, args, ts⟩ := c
    have ha : args.toList.map (ev σ) = args.toList.map (ev σ') := maps_congr fun x hx => h x (by simp [Call.operands, hx])
    cases callee
    case value f => rfl
    case invoke r m => rfl
    rename_i b
    cases b <;> (try simp only [ha])
    all_goals first
      | rfl
      | (split
         · rename_i t x ht hx
           have : ev σ x = ev σ' x := h x (by
             have : x ∈ args.toList := by rw [hx]; simp
             simp [Call.operands]; simpa using this)
           rw [this]
         · rfl)
  all_goals first | rfl | (simp_all; done)
theorem popv_congr {o : Op} {σ σ' : Sl} {hp : Heap} {K : PV → Heap → Prop} (h : ∀ x ∈ o.operands, ev σ x = ev σ' x) : popv P o σ hp K ↔ popv P o σ' hp K := by
  have hd := dv_congr (P := P) h
  cases o <;> simp only [Op.operands] at h <;> simp only [popv, hd]
  case load t a => rw [h a (by simp)]
  case store t a x => rw [h a (by simp), h x (by simp)]
  case box t x => rw [h x (by simp)]
  case buildSlice t n ps => rw [parts_congr h]
  case makeSlice t l c => rw [h l (by simp), h c (by simp)]
  case call c =>
    obtain ⟨callee, args, ts⟩ := c
    have ha : args.toList.map (ev σ) = args.toList.map (ev σ') := maps_congr fun x hx => h x (by simp [Call.operands, hx])
    cases callee
    case value f =>
      have hf : ev σ f = ev σ' f := h f (by simp [Call.operands])
      simp only [ha, hf]
    case invoke r m => rfl
    case builtin b =>
      cases b <;> simp only <;> (try rw [hd])
      all_goals
        split
        · rename_i s x t tx hargs hts
          have hs : ev σ s = ev σ' s := h s (by
            have : s ∈ args.toList := by rw [hargs]; simp
            simp [Call.operands]; simpa using this)
          have hx : ev σ x = ev σ' x := h x (by
            have : x ∈ args.toList := by rw [hargs]; simp
            simp [Call.operands]; simpa using this)
          rw [hs, hx]
        · rfl
theorem dD_congr {o : Op} {σ σ' : Sl} (h : ∀ x ∈ o.operands, ev σ x = ev σ' x) : dD P o σ = dD P o σ' := by
  have hd := dv_congr (P := P) h
  cases o <;> simp only [Op.operands] at h <;> simp only [dD, hd]
  case box t x => rw [h x (by simp)]
  case buildSlice t n ps => rw [parts_congr h]
  case load t a => rw [h a (by simp)]
theorem rD_congr {o : Op} {σ σ' : Sl} {hp : Heap} {v : PV} (h : ∀ x ∈ o.operands, ev σ x = ev σ' x) : rD P o σ hp v ↔ rD P o σ' hp v := by
  cases o <;> simp only [Op.operands] at h <;> simp only [rD]
  case load t a => rw [h a (by simp)]
  case call c =>
    obtain ⟨callee, args, ts⟩ := c
    have ha : args.toList.map (ev σ) = args.toList.map (ev σ') := maps_congr fun x hx => h x (by simp [Call.operands, hx])
    cases callee
    case value f =>
      have hf : ev σ f = ev σ' f := h f (by simp [Call.operands])
      simp only [ha, hf]
    case invoke r m => rfl
    case builtin b => rfl
theorem popD_congr {z : Bool} {o : Op} {σ σ' : Sl} {hp : Heap} {K : PV → Heap → Prop} (h : ∀ x ∈ o.operands, ev σ x = ev σ' x) : popD P z o σ hp K ↔ popD P z o σ' hp K := by
  unfold popD
  cases cls z o <;> simp only [dD_congr (P := P) h, rD_congr (P := P) h, popv_congr (P := P) h]

/-! ### With guards -/
variable {ops : Array Oper} {L : List Nat}
theorem gv_congr {σ σ' : Sl} {g : Nat} (h : ∀ d, (ops[g]?).bind (·.dst) = some d → σ d = σ' d) : gv ops σ g = gv ops σ' g := by
  unfold gv
  split
  · rename_i d hd; rw [h d hd]
  · rfl
/-- Two states that read alike where an operation looks. -/
def Sees (ops : Array Oper) (o : Oper) (σ σ' : Sl) : Prop := ∀ t ∈ o.looksAt ops, σ t = σ' t
theorem Sees.ev {o : Oper} {σ σ' : Sl} (s : Sees ops o σ σ') : ∀ x ∈ o.op.operands, ev σ x = ev σ' x := fun x hx => by
  cases x with
  | tmp t => exact s t (by unfold Oper.looksAt; exact List.mem_append_left _ (List.mem_filterMap.2 ⟨.tmp t, by simpa using hx, rfl⟩))
  | _ => rfl
theorem Sees.guard {o : Oper} {σ σ' : Sl} {g : Nat} {want : Bool} (s : Sees ops o σ σ') (hg : o.guard = some (g, want)) : gv ops σ g = gv ops σ' g :=
  gv_congr fun d hd => s d (by unfold Oper.looksAt; rw [hg]; exact List.mem_append_right _ (by simp [hd]))
abbrev gD (P : Program) (L : List Nat) (ops : Array Oper) (o : Oper) (σ : Sl) (h : Heap) (K : PV → Heap → Prop) : Prop := gst (popD P (livO L o.dst)) ops o σ h K
theorem gD_congr {o : Oper} {σ σ' : Sl} {h : Heap} {K : PV → Heap → Prop} (s : Sees ops o σ σ') : gD P L ops o σ h K ↔ gD P L ops o σ' h K := by
  unfold gD gst
  cases hg : o.guard with
  | none => simp only; exact popD_congr s.ev
  | some p =>
    obtain ⟨g, want⟩ := p
    simp only
    rw [s.guard hg]
    cases gv ops σ' g with
    | none => rfl
    | some b =>
      simp only
      by_cases e : b = some want
      · simp only [e, if_true]; exact popD_congr s.ev
      · simp only [e, if_false]
theorem gD_mono {o : Oper} {σ : Sl} {h : Heap} {K K' : PV → Heap → Prop} (hk : ∀ v h', K v h' → K' v h') (hp : gD P L ops o σ h K) : gD P L ops o σ h K' := by
  unfold gD gst at hp ⊢
  cases hg : o.guard with
  | none => rw [hg] at hp; exact popD_mono hk hp
  | some p =>
    obtain ⟨g, want⟩ := p
    rw [hg] at hp
    simp only at hp ⊢
    cases hb : gv ops σ g with
    | none => rw [hb] at hp; exact hp
    | some b =>
      rw [hb] at hp
      simp only at hp ⊢
      by_cases e : b = some want
      · rw [if_pos e] at hp ⊢; exact popD_mono hk hp
      · rw [if_neg e] at hp ⊢; exact hk _ _ hp
theorem gD_some {o : Oper} {σ : Sl} {h : Heap} {K : PV → Heap → Prop} (hp : gD P L ops o σ h K) : ∃ v h', K v h' := by
  unfold gD gst at hp
  cases hg : o.guard with
  | none => rw [hg] at hp; exact popD_some hp
  | some p =>
    obtain ⟨g, want⟩ := p
    rw [hg] at hp
    simp only at hp
    cases hb : gv ops σ g with
    | none => rw [hb] at hp; exact hp.elim
    | some b =>
      rw [hb] at hp
      simp only at hp
      by_cases e : b = some want
      · rw [if_pos e] at hp; exact popD_some hp
      · rw [if_neg e] at hp; exact ⟨_, _, hp⟩
/-- What an operation of the first kind yields, in whatever heap. -/
def yD (P : Program) (ops : Array Oper) (o : Oper) (σ : Sl) : Option PV :=
  match o.guard with
  | none => dD P o.op σ
  | some (g, want) => match gv ops σ g with
    | some b => if b = some want then dD P o.op σ else some (.tup [])
    | none => none
theorem gD_D {o : Oper} {σ : Sl} {h : Heap} {K : PV → Heap → Prop} (hc : cls (livO L o.dst) o.op = .D) : gD P L ops o σ h K ↔ ∃ v, yD P ops o σ = some v ∧ K v h := by
  unfold gD gst yD
  cases hg : o.guard with
  | none => simp only [popD, hc]
  | some p =>
    obtain ⟨g, want⟩ := p
    simp only
    cases hb : gv ops σ g with
    | none => simp
    | some b =>
      simp only
      by_cases e : b = some want
      · simp only [e, if_true, popD, hc]
      · simp only [e, if_false]; simp
theorem yD_congr {o : Oper} {σ σ' : Sl} (s : Sees ops o σ σ') : yD P ops o σ = yD P ops o σ' := by
  unfold yD
  cases hg : o.guard with
  | none => exact dD_congr s.ev
  | some p =>
    obtain ⟨g, want⟩ := p
    simp only
    rw [s.guard hg]
    cases gv ops σ' g with
    | none => rfl
    | some b => simp only; rw [dD_congr s.ev]
/-- What an operation of the second kind may yield. -/
def zD (P : Program) (ops : Array Oper) (o : Oper) (σ : Sl) (h : Heap) (v : PV) : Prop :=
  match o.guard with
  | none => rD P o.op σ h v
  | some (g, want) => match gv ops σ g with
    | some b => if b = some want then rD P o.op σ h v else v = .tup []
    | none => False
theorem gD_R {o : Oper} {σ : Sl} {h : Heap} {K : PV → Heap → Prop} (hc : cls (livO L o.dst) o.op = .R) : gD P L ops o σ h K ↔ ∃ v, zD P ops o σ h v ∧ K v h := by
  unfold gD gst zD
  cases hg : o.guard with
  | none => simp only [popD, hc]
  | some p =>
    obtain ⟨g, want⟩ := p
    simp only
    cases hb : gv ops σ g with
    | none => simp
    | some b =>
      simp only
      by_cases e : b = some want
      · simp only [e, if_true, popD, hc]
      · simp only [e, if_false]; simp
theorem zD_congr {o : Oper} {σ σ' : Sl} {h : Heap} {v : PV} (s : Sees ops o σ σ') : zD P ops o σ h v ↔ zD P ops o σ' h v := by
  unfold zD
  cases hg : o.guard with
  | none => exact rD_congr s.ev
  | some p =>
    obtain ⟨g, want⟩ := p
    simp only
    rw [s.guard hg]
    cases gv ops σ' g with
    | none => rfl
    | some b =>
      simp only
      by_cases e : b = some want
      · simp only [e, if_true]; exact rD_congr s.ev
      · simp only [e, if_false]

/-- May two operations change places? -/
def may (L : List Nat) (ops : Array Oper) (x y : Oper) : Bool :=
  x.apart ops y && (cls (livO L x.dst) x.op == .D || cls (livO L y.dst) y.op == .D || (cls (livO L x.dst) x.op == .R && cls (livO L y.dst) y.op == .R) || (cls (livO L x.dst) x.op == .A && cls (livO L y.dst) y.op == .A))

theorem sees_put {o : Oper} {σ : Sl} {d : Option Tmp} {v : PV} (h : ∀ x, d = some x → x ∉ o.looksAt ops) : Sees ops o (put σ d v) σ := fun t ht => by
  cases d with
  | none => rfl
  | some d =>
    have : t ≠ d := fun e => h d rfl (e ▸ ht)
    simp [put, this]

/-- What an operation that makes room asks, and what it makes. -/
def mA (P : Program) (o : Op) (σ : Sl) (z : List PV) (mk : Nat → PV) : Prop := match o with
  | .makeSlice t l c => ∃ r kl nl kc nc, eli P t = some r ∧ ev σ l = .int kl nl ∧ ev σ c = .int kc nc ∧ 0 ≤ nl ∧ nl ≤ nc ∧ (r.2.1 : Int) * nc ≤ 281474976710656 ∧ nc ≤ 9223372036854775807 ∧
      z = rep nl.toNat r.2.2 ∧ mk = fun b => .buf b r.1 0 nl.toNat
  | _ => False
theorem popv_A {z0 : Bool} {o : Op} {σ : Sl} {h : Heap} {K : PV → Heap → Prop} (hc : cls z0 o = .A) : popv P o σ h K ↔ ∃ z mk, mA P o σ z mk ∧ ∀ b, h.f b = none → K (mk b) (h.set b z) := by
  cases o <;> (try (cases z0 <;> simp [cls] at hc; done))
  case call c =>
    exfalso
    obtain ⟨callee, args, ts⟩ := c
    cases callee <;> (try (cases z0 <;> (simp [cls] at hc; done)))
    rename_i b
    cases b <;> simp [cls] at hc
  case makeSlice t l c =>
    constructor
    · rintro ⟨r, kl, nl, kc, nc, e1, e2, e3, e4, e5, e6, e7, q⟩
      exact ⟨_, _, ⟨r, kl, nl, kc, nc, e1, e2, e3, e4, e5, e6, e7, rfl, rfl⟩, q⟩
    · rintro ⟨z, mk, ⟨r, kl, nl, kc, nc, e1, e2, e3, e4, e5, e6, e7, rfl, rfl⟩, q⟩
      exact ⟨r, kl, nl, kc, nc, e1, e2, e3, e4, e5, e6, e7, q⟩
/-- It is skipped, or it makes room. -/
def gA (P : Program) (ops : Array Oper) (o : Oper) (σ : Sl) : Option (List PV × (Nat → PV)) → Prop
  | none => match o.guard with | none => False | some (g, want) => ∃ b, gv ops σ g = some b ∧ b ≠ some want
  | some (z, mk) => mA P o.op σ z mk ∧ match o.guard with | none => True | some (g, want) => gv ops σ g = some (some want)
theorem gD_A {o : Oper} {σ : Sl} {h : Heap} {K : PV → Heap → Prop} (hc : cls (livO L o.dst) o.op = .A) :
    gD P L ops o σ h K ↔ (gA P ops o σ none ∧ K (.tup []) h) ∨ ∃ z mk, gA P ops o σ (some (z, mk)) ∧ ∀ b, h.f b = none → K (mk b) (h.set b z) := by
  have hp : popD P (livO L o.dst) o.op σ h K ↔ popv P o.op σ h K := by unfold popD; rw [hc]
  unfold gD gst gA
  cases hg : o.guard with
  | none => simp only [hp, popv_A hc]; simp
  | some p =>
    obtain ⟨g, want⟩ := p
    simp only
    cases hb : gv ops σ g with
    | none => simp
    | some b =>
      simp only
      by_cases e : b = some want
      · simp only [e, if_true, hp, popv_A hc]; simp
      · simp only [e, if_false]; simp [e]
theorem gA_or {o : Oper} {σ : Sl} {r : List PV × (Nat → PV)} (h1 : gA P ops o σ none) (h2 : gA P ops o σ (some r)) : False := by
  obtain ⟨z, mk⟩ := r
  unfold gA at h1 h2
  cases hg : o.guard with
  | none => rw [hg] at h1; exact h1
  | some p =>
    rw [hg] at h1 h2
    obtain ⟨b, e1, e2⟩ := h1
    have := h2.2
    simp only at this
    rw [e1] at this
    exact e2 (by simpa using this)
theorem mA_one {o : Op} {σ : Sl} {z z' : List PV} {mk mk' : Nat → PV} (h1 : mA P o σ z mk) (h2 : mA P o σ z' mk') : z = z' ∧ mk = mk' := by
  cases o <;> simp only [mA] at h1 h2
  obtain ⟨r, kl, nl, kc, nc, e1, e2, e3, _, _, _, _, rfl, rfl⟩ := h1
  obtain ⟨r', kl', nl', kc', nc', e1', e2', e3', _, _, _, _, rfl, rfl⟩ := h2
  rw [e1] at e1'; cases e1'
  rw [e2] at e2'; cases e2'
  exact ⟨rfl, rfl⟩
theorem gA_one {o : Oper} {σ : Sl} {z z' : List PV} {mk mk' : Nat → PV} (h1 : gA P ops o σ (some (z, mk))) (h2 : gA P ops o σ (some (z', mk'))) : z = z' ∧ mk = mk' := mA_one h1.1 h2.1
theorem swap {x y : Oper} {σ : Sl} {h : Heap} {K : Sl → Heap → Prop} (hm : may L ops x y = true)
    (hp : gD P L ops x σ h fun v h' => gD P L ops y (put σ x.dst v) h' fun u h'' => K (put (put σ x.dst v) y.dst u) h'') :
    gD P L ops y σ h fun u h' => gD P L ops x (put σ y.dst u) h' fun v h'' => K (put (put σ y.dst u) x.dst v) h'' := by
  unfold may at hm
  simp only [Bool.and_eq_true, Bool.or_eq_true, beq_iff_eq] at hm
  obtain ⟨ha, hc⟩ := hm
  obtain ⟨a1, a2, a3⟩ := Oper.apart_spec ha
  have comm : ∀ u v, put (put σ x.dst v) y.dst u = put (put σ y.dst u) x.dst v := fun u v => put_comm σ v u a2
  have sy : ∀ v, Sees ops y (put σ x.dst v) σ := fun v => sees_put a1
  have sx : ∀ u, Sees ops x (put σ y.dst u) σ := fun u => sees_put a3
  have hp' : gD P L ops x σ h fun v h' => gD P L ops y σ h' fun u h'' => K (put (put σ y.dst u) x.dst v) h'' :=
    gD_mono (fun v h' q => gD_mono (fun u h'' q => by rw [← comm]; exact q) ((gD_congr (sy v)).1 q)) hp
  suffices gD P L ops y σ h fun u h' => gD P L ops x σ h' fun v h'' => K (put (put σ y.dst u) x.dst v) h'' from
    gD_mono (fun u h' q => (gD_congr (sx u)).2 q) this
  rcases hc with ((hc | hc) | ⟨hc1, hc2⟩) | ⟨hc1, hc2⟩
  · rw [gD_D hc] at hp'
    obtain ⟨v, e, q⟩ := hp'
    exact gD_mono (fun u h' q => (gD_D hc).2 ⟨v, e, q⟩) q
  · obtain ⟨v0, h0, q0⟩ := gD_some hp'
    obtain ⟨u, e, _⟩ := (gD_D hc).1 q0
    rw [gD_D hc]
    refine ⟨u, e, gD_mono (fun v h' q => ?_) hp'⟩
    obtain ⟨u', e', q'⟩ := (gD_D hc).1 q
    rw [e] at e'
    cases e'
    exact q'
  · rw [gD_R hc1] at hp'
    obtain ⟨v, e, q⟩ := hp'
    rw [gD_R hc2] at q ⊢
    obtain ⟨u, e2, q2⟩ := q
    exact ⟨u, e2, (gD_R hc1).2 ⟨v, e, q2⟩⟩
  · rw [gD_A hc1] at hp'
    rw [gD_A hc2]
    rcases hp' with ⟨s1, q⟩ | ⟨z, mk, s1, q⟩
    · rw [gD_A hc2] at q
      rcases q with ⟨s2, q⟩ | ⟨z2, mk2, s2, q⟩
      · exact .inl ⟨s2, (gD_A hc1).2 (.inl ⟨s1, q⟩)⟩
      · exact .inr ⟨z2, mk2, s2, fun b hb => (gD_A hc1).2 (.inl ⟨s1, q b hb⟩)⟩
    · obtain ⟨b0, hb0⟩ := h.fresh
      have q0 := q b0 hb0
      rw [gD_A hc2] at q0
      rcases q0 with ⟨s2, _⟩ | ⟨z2, mk2, s2, _⟩
      · refine .inl ⟨s2, (gD_A hc1).2 (.inr ⟨z, mk, s1, fun b hb => ?_⟩)⟩
        have q1 := q b hb
        rw [gD_A hc2] at q1
        rcases q1 with ⟨_, q1⟩ | ⟨z3, mk3, s3, _⟩
        · exact q1
        · exact (gA_or s2 s3).elim
      · refine .inr ⟨z2, mk2, s2, fun b2 hb2 => (gD_A hc1).2 (.inr ⟨z, mk, s1, fun b1 hb1 => ?_⟩)⟩
        have hne : b1 ≠ b2 := fun e => by rw [e, Heap.set_same] at hb1; cases hb1
        have hb1' : h.f b1 = none := by rwa [Heap.set_ne _ _ hne] at hb1
        have q1 := q b1 hb1'
        rw [gD_A hc2] at q1
        rcases q1 with ⟨s3, _⟩ | ⟨z3, mk3, s3, q1⟩
        · exact (gA_or s3 s2).elim
        · obtain ⟨rfl, rfl⟩ := gA_one s2 s3
          have := q1 b2 (by rw [Heap.set_ne _ _ (Ne.symm hne)]; exact hb2)
          rwa [Heap.set_comm _ _ _ hne] at this
end
end Go.Pm

/-
  An abstract machine over pure values, part K: the orders, and the rule for a region that draws.
  Conditions: none.
-/
namespace Go.Pm
set_option linter.unusedVariables false
set_option linter.unusedSimpArgs false

def nextMask (ms : List Nat) (o : Oper) : Nat := o.after.toList.foldl (fun s e => if Region.binds .any e then s ||| (2 ^ e.on ||| ms.getD e.on 0) else s) 0
def masks : List Oper → List Nat → List Nat
  | [], ms => ms
  | o :: rest, ms => masks rest (ms ++ [nextMask ms o])
def okDraw (L : List Nat) (ops : Array Oper) : Bool :=
  let ms := masks ops.toList []
  (List.range ops.size).all fun j => match ops[j]? with
    | none => true
    | some y => y.after.all (fun e => !Region.binds .any e || decide (e.on < j)) &&
      (List.range j).all fun x => match ops[x]? with
        | none => true
        | some o => (ms.getD j 0).testBit x || may L ops o y

section
variable {P : Program} {ops : Array Oper} {L : List Nat}

def Pre (o : Oper) (listed : Array Bool) : Prop := ∀ e ∈ o.after, Region.binds .any e = true → listed.getD e.on false = true
def Cl (ops : Array Oper) (listed : Array Bool) : Prop := ∀ j o, ops[j]? = some o → listed.getD j false = true → Pre o listed

theorem nextMask_spec {ms : List Nat} {listed : Array Bool} (hc : Cl ops listed)
    (hms : ∀ (j m : Nat) (o : Oper), ms[j]? = some m → ops[j]? = some o → Pre o listed → ∀ x, m.testBit x = true → listed.getD x false = true)
    (hlen : ms.length ≤ ops.size) {o : Oper} (ho : Pre o listed) : ∀ x, (nextMask ms o).testBit x = true → listed.getD x false = true := by
  unfold nextMask
  have key : ∀ (es : List Edge) (s : Nat), (∀ e ∈ es, Region.binds .any e = true → listed.getD e.on false = true) → (∀ x, s.testBit x = true → listed.getD x false = true) →
      ∀ x, (es.foldl (fun s e => if Region.binds .any e then s ||| (2 ^ e.on ||| ms.getD e.on 0) else s) s).testBit x = true → listed.getD x false = true := by
    intro es
    induction es with
    | nil => intro s _ hs x hx; exact hs x hx
    | cons e es ih =>
      intro s he hs x hx
      simp only [List.foldl_cons] at hx
      refine ih _ (fun e' h' => he e' (List.mem_cons_of_mem _ h')) ?_ x hx
      intro y hy
      by_cases hb : Region.binds .any e = true
      · rw [if_pos hb, Nat.testBit_or, Nat.testBit_or, Bool.or_eq_true, Bool.or_eq_true] at hy
        have hl := he e (List.mem_cons_self ..) hb
        rcases hy with hy | hy | hy
        · exact hs y hy
        · rw [Nat.testBit_two_pow] at hy
          have : e.on = y := by simpa using hy
          rw [← this]; exact hl
        · have hlt : e.on < ms.length := by
            rcases Nat.lt_or_ge e.on ms.length with h | h
            · exact h
            · rw [List.getD_eq_getElem?_getD, List.getElem?_eq_none h] at hy
              simp at hy
          rw [List.getD_eq_getElem?_getD, List.getElem?_eq_getElem hlt] at hy
          have hops : ops[e.on]? = some (ops[e.on]'(by omega)) := Array.getElem?_eq_getElem _
          exact hms e.on _ _ (List.getElem?_eq_getElem hlt) hops (hc e.on _ hops hl) y (by simpa using hy)
      · rw [if_neg hb] at hy; exact hs y hy
  exact key o.after.toList 0 (fun e he hb => ho e (by simpa using he) hb) (fun x hx => by simp at hx)
theorem masks_spec {listed : Array Bool} (hc : Cl ops listed) : ∀ (rest : List Oper) (ms : List Nat), ops.toList.drop ms.length = rest → ms.length ≤ ops.size →
    (∀ (j m : Nat) (o : Oper), ms[j]? = some m → ops[j]? = some o → Pre o listed → ∀ x, m.testBit x = true → listed.getD x false = true) →
    ∀ (j m : Nat) (o : Oper), (masks rest ms)[j]? = some m → ops[j]? = some o → Pre o listed → ∀ x, m.testBit x = true → listed.getD x false = true
  | [], ms, _, _, hms => hms
  | o :: rest, ms, hd, hl, hms => by
    have hlt : ms.length < ops.size := by
      rcases Nat.lt_or_ge ms.length ops.size with h | h
      · exact h
      · rw [List.drop_eq_nil_of_le (by simpa using h)] at hd; cases hd
    rw [List.drop_eq_getElem_cons (by simpa using hlt)] at hd
    simp only [List.cons.injEq] at hd
    refine masks_spec hc rest (ms ++ [nextMask ms o]) (by simpa using hd.2) (by simp; omega) fun j m o' hj ho' hp x hx => ?_
    rw [List.getElem?_append] at hj
    split at hj
    · exact hms j m o' hj ho' hp x hx
    · rename_i hjl
      have hjl' : j = ms.length := by
        rcases Nat.lt_or_ge (j - ms.length) 1 with h | h
        · omega
        · rw [List.getElem?_eq_none (by simpa using h)] at hj; cases hj
      subst hjl'
      simp at hj
      subst hj
      have : ops[ms.length]? = some o := by rw [Array.getElem?_eq_getElem hlt]; simpa using hd.1
      rw [this] at ho'
      cases ho'
      exact nextMask_spec hc hms (by omega) hp x hx

theorem okDraw_back (h : okDraw L ops = true) {j : Nat} {o : Oper} (ho : ops[j]? = some o) : ∀ e ∈ o.after, Region.binds .any e = true → e.on < j := by
  intro e he hb
  simp only [okDraw, List.all_eq_true, List.mem_range] at h
  have := h j (Array.getElem?_eq_some_iff.1 ho).1
  rw [ho] at this
  simp only [Bool.and_eq_true] at this
  have h1 := Array.all_eq_true_iff_forall_mem.1 this.1 e he
  simpa [hb] using h1
theorem okDraw_may (h : okDraw L ops = true) {listed : Array Bool} (hc : Cl ops listed) {x j : Nat} {o y : Oper} (hx : ops[x]? = some o) (hy : ops[j]? = some y) (hlt : x < j)
    (hun : listed.getD x false = false) (hp : Pre y listed) : may L ops o y = true := by
  simp only [okDraw, List.all_eq_true, List.mem_range] at h
  have := h j (Array.getElem?_eq_some_iff.1 hy).1
  rw [hy] at this
  simp only [Bool.and_eq_true, List.all_eq_true, List.mem_range] at this
  have h2 := this.2 x hlt
  rw [hx] at h2
  simp only [Bool.or_eq_true] at h2
  rcases h2 with h2 | h2
  · exfalso
    cases hm : (masks ops.toList [])[j]? with
    | none => rw [List.getD_eq_getElem?_getD, hm] at h2; simp at h2
    | some m =>
      rw [List.getD_eq_getElem?_getD, hm] at h2
      have := masks_spec hc ops.toList [] (by simp) (by simp) (by simp) j m y hm hy hp x (by simpa using h2)
      rw [hun] at this
      cases this
  · exact h2

/-! ### Whatever order -/
def idx (P : Program) (L : List Nat) (ops : Array Oper) (i : Nat) (K : Sl → Heap → Prop) (σ : Sl) (h : Heap) : Prop :=
  match ops[i]? with
  | none => K σ h
  | some o => gD P L ops o σ h fun v h' => K (put σ o.dst v) h'
def tD (P : Program) (L : List Nat) (ops : Array Oper) (K : Sl → Heap → Prop) : List Nat → Sl → Heap → Prop
  | [] => K
  | i :: is => idx P L ops i (tD P L ops K is)
def pAny (P : Program) (L : List Nat) (ops : Array Oper) (K : Sl → Heap → Prop) : Nat → Array Bool → Sl → Heap → Prop
  | 0, listed, σ, h => Region.ready .any ops listed = [] ∧ K σ h
  | fuel + 1, listed, σ, h => (Region.ready .any ops listed = [] → K σ h) ∧ ∀ i ∈ Region.ready .any ops listed, idx P L ops i (pAny P L ops K fuel (listed.setIfInBounds i true)) σ h

theorem idx_mono {i : Nat} {K K' : Sl → Heap → Prop} (hk : ∀ σ h, K σ h → K' σ h) {σ : Sl} {h : Heap} (hp : idx P L ops i K σ h) : idx P L ops i K' σ h := by
  unfold idx at *
  split
  · rename_i e; rw [e] at hp; exact hk _ _ hp
  · rename_i o e; rw [e] at hp; exact gD_mono (fun v h' q => hk _ _ q) hp
theorem front {K : Sl → Heap → Prop} {j : Nat} {B : List Nat} : ∀ (A : List Nat), (∀ x ∈ A, ∀ o y, ops[x]? = some o → ops[j]? = some y → may L ops o y = true) →
    ∀ (σ : Sl) (h : Heap), tD P L ops K (A ++ j :: B) σ h → idx P L ops j (tD P L ops K (A ++ B)) σ h
  | [], _, σ, h, hp => hp
  | x :: A, hA, σ, h, hp => by
    simp only [List.cons_append, tD] at hp ⊢
    have h1 := idx_mono (fun σ h q => front A (fun y hy => hA y (List.mem_cons_of_mem _ hy)) σ h q) hp
    have hxy := hA x (List.mem_cons_self ..)
    unfold idx at h1 ⊢
    cases hx : ops[x]? with
    | none =>
      rw [hx] at h1
      simp only at h1 ⊢
      exact h1
    | some o =>
      rw [hx] at h1
      cases hj : ops[j]? with
      | none => rw [hj] at h1; exact h1
      | some y =>
        rw [hj] at h1
        exact swap (hxy o y hx hj) h1

def un_ (ops : Array Oper) (listed : Array Bool) : List Nat := (List.range ops.size).filter fun i => !listed.getD i true
theorem mem_un {listed : Array Bool} {i : Nat} : i ∈ un_ ops listed ↔ i < ops.size ∧ listed.getD i true = false := by
  simp [un_]
theorem un_sorted (listed : Array Bool) : (un_ ops listed).Pairwise (· < ·) := List.Pairwise.filter _ List.pairwise_lt_range
theorem getD_same {listed : Array Bool} (hs : listed.size = ops.size) {i : Nat} (hi : i < ops.size) : listed.getD i true = listed.getD i false := by
  rw [Array.getD_eq_getD_getElem?, Array.getD_eq_getD_getElem?, Array.getElem?_eq_getElem (by omega)]; rfl

theorem any_of_text (ok : okDraw L ops = true) {K : Sl → Heap → Prop} : ∀ (fuel : Nat) (listed : Array Bool) (σ : Sl) (h : Heap), listed.size = ops.size → Cl ops listed → (un_ ops listed).length = fuel →
    tD P L ops K (un_ ops listed) σ h → pAny P L ops K fuel listed σ h := by
  intro fuel
  induction fuel with
  | zero =>
    intro listed σ h hs hc hl hp
    have hn : un_ ops listed = [] := List.length_eq_zero_iff.1 hl
    rw [hn] at hp
    refine ⟨?_, hp⟩
    rcases hr : Region.ready .any ops listed with _ | ⟨i, l⟩
    · rfl
    · have hi : i ∈ Region.ready .any ops listed := by rw [hr]; exact List.mem_cons_self ..
      obtain ⟨h1, o, ho, _⟩ := mem_ready.1 hi
      have : i ∈ un_ ops listed := mem_un.2 ⟨(Array.getElem?_eq_some_iff.1 ho).1, h1⟩
      rw [hn] at this; cases this
  | succ fuel ih =>
    intro listed σ h hs hc hl hp
    refine ⟨fun hr => ?_, fun j hj => ?_⟩
    · exfalso
      cases hU : un_ ops listed with
      | nil => rw [hU] at hl; cases hl
      | cons i l =>
        have hi : i ∈ un_ ops listed := by rw [hU]; exact List.mem_cons_self ..
        obtain ⟨hi1, hi2⟩ := mem_un.1 hi
        have ho : ops[i]? = some ops[i] := Array.getElem?_eq_getElem hi1
        have hsort := un_sorted (ops := ops) listed
        rw [hU] at hsort
        have : i ∈ Region.ready .any ops listed := mem_ready.2 ⟨hi2, ops[i], ho, fun e he hb => by
          have hlt := okDraw_back ok ho e he hb
          cases hq : listed.getD e.on false with
          | true => rfl
          | false =>
            exfalso
            have hm : e.on ∈ un_ ops listed := mem_un.2 ⟨by omega, by rw [getD_same hs (by omega)]; exact hq⟩
            rw [hU] at hm
            rcases List.mem_cons.1 hm with hm | hm
            · omega
            · have := (List.pairwise_cons.1 hsort).1 _ hm; omega⟩
        rw [hr] at this
        cases this
    · obtain ⟨hj1, y, hy, hpre⟩ := mem_ready.1 hj
      have hjlt := (Array.getElem?_eq_some_iff.1 hy).1
      have hju : j ∈ un_ ops listed := mem_un.2 ⟨hjlt, hj1⟩
      obtain ⟨A, B, hAB⟩ := List.append_of_mem hju
      have hsort := un_sorted (ops := ops) listed
      rw [hAB] at hsort
      have hsA := List.pairwise_append.1 hsort
      have hA : ∀ x ∈ A, x < j := fun x hx => hsA.2.2 x hx j (List.mem_cons_self ..)
      have hB : ∀ x ∈ B, j < x := fun x hx => (List.pairwise_cons.1 hsA.2.1).1 x hx
      rw [hAB] at hp
      have hf := front A (fun x hx o y' ho hy' => by
        rw [hy] at hy'
        cases hy'
        have hxu : x ∈ un_ ops listed := by rw [hAB]; exact List.mem_append_left _ hx
        obtain ⟨hx1, hx2⟩ := mem_un.1 hxu
        exact okDraw_may ok hc ho hy (hA x hx) (by rw [← getD_same hs hx1]; exact hx2) hpre) σ h hp
      have hU' : un_ ops (listed.setIfInBounds j true) = A ++ B := by
        have e1 : un_ ops (listed.setIfInBounds j true) = (un_ ops listed).filter fun i => decide (i ≠ j) := by
          simp only [un_, List.filter_filter]
          apply List.filter_congr
          intro i hi
          have hilt : i < listed.size := by rw [hs]; simpa using hi
          by_cases e : i = j
          · subst e; simp [hilt]
          · have e' : (listed.setIfInBounds j true).getD i true = listed.getD i true := getD_set_ne true (fun q => e q.symm)
            rw [e']; simp [e]
        rw [e1, hAB, List.filter_append, List.filter_cons]
        simp only [ne_eq, not_true_eq_false, decide_false, Bool.false_eq_true, if_false]
        rw [List.filter_eq_self.2, List.filter_eq_self.2]
        · intro x hx; have := hB x hx; simp; omega
        · intro x hx; have := hA x hx; simp; omega
      have hlen : (un_ ops (listed.setIfInBounds j true)).length = fuel := by
        rw [hU']
        rw [hAB] at hl
        simp at hl ⊢
        omega
      have hcl : Cl ops (listed.setIfInBounds j true) := by
        intro k o hk hkl e he hb
        by_cases e1 : k = j
        · subst e1
          rw [hy] at hk
          cases hk
          exact getD_set_true (hpre e he hb)
        · rw [getD_set_ne false (fun q => e1 q.symm)] at hkl
          exact getD_set_true (hc k o hk hkl e he hb)
      refine idx_mono (fun σ' h' q => ih _ σ' h' (by simp [hs]) hcl hlen ?_) hf
      rw [hU']
      exact q

theorem tD_pops {K : Sl → Heap → Prop} : ∀ (l : List Oper) (k : Nat), ops.toList.drop k = l → ∀ (σ : Sl) (h : Heap), popsD P L ops K l σ h → tD P L ops K ((List.range ops.size).drop k) σ h
  | [], k, e, σ, h, hp => by
    have : ops.size ≤ k := by simpa using e
    rw [List.drop_eq_nil_of_le (by simpa using this)]
    exact hp
  | o :: rest, k, e, σ, h, hp => by
    have hlt : k < ops.size := by
      rcases Nat.lt_or_ge k ops.size with h | h
      · exact h
      · rw [List.drop_eq_nil_of_le (by simpa using h)] at e; cases e
    rw [List.drop_eq_getElem_cons (by simpa using hlt)] at e ⊢
    simp only [List.cons.injEq] at e
    have ho : ops[k]? = some o := by rw [Array.getElem?_eq_getElem hlt]; simpa using e.1
    simp only [List.getElem_range, tD, idx, ho]
    exact gD_mono (fun v h' q => tD_pops rest (k + 1) e.2 _ _ q) hp

theorem gst_mono_pv {o : Oper} {σ : Sl} {h : Heap} {K : PV → Heap → Prop} (hp : gD P L ops o σ h K) : gst (popv P) ops o σ h K := by
  unfold gD gst at hp
  unfold gst
  split
  · rename_i hg; rw [hg] at hp; exact popD_popv hp
  · rename_i g want hg
    rw [hg] at hp
    simp only at hp
    cases hb : gv ops σ g with
    | none => rw [hb] at hp; exact hp
    | some b =>
      rw [hb] at hp
      simp only at hp ⊢
      by_cases e : b = some want
      · rw [if_pos e] at hp ⊢; exact popD_popv hp
      · rw [if_neg e] at hp ⊢; exact hp

theorem any_sound {w0 : World} {h0 : Heap} {n : Nat} {Q : Exit → Act → World → Prop} (okr : okR n ops = true) {K : Sl → Heap → Prop} (hk : ∀ σ h a w, K σ h → Rl w0 h0 n σ h a w → Q .normal a w) :
    ∀ (fuel : Nat) (listed : Array Bool) (σ : Sl) (h : Heap) (a : Act) (w : World), Rl w0 h0 n σ h a w → pAny P L ops K fuel listed σ h → wpAny P .any ops Q fuel listed a w := by
  intro fuel
  induction fuel with
  | zero => intro listed σ h a w r hp; exact ⟨hp.1, hk σ h a w hp.2 r⟩
  | succ fuel ih =>
    intro listed σ h a w r hp
    refine ⟨fun hr => hk σ h a w (hp.1 hr) r, fun i hi => ?_⟩
    have h1 := hp.2 i hi
    obtain ⟨_, o, ho, _⟩ := mem_ready.1 hi
    unfold idx at h1
    rw [ho] at h1
    exact gst_sound ho r okr (gst_mono_pv h1) fun v h' a' w' q1 q2 => ih _ _ _ a' w' q2 q1
end
end Go.Pm

/-
  An abstract machine over pure values, part L: code, loops, functions.
  Conditions: none.
-/
namespace Go.Pm
set_option linter.unusedVariables false
set_option linter.unusedSimpArgs false

/-- Code, from a state over pure values, comes to what `Q` tells of. -/
def SWP (P : Program) (n : Nat) (c : Code) (Q : Exit → Sl → Heap → Prop) (σ : Sl) (h : Heap) : Prop :=
  ∀ (w0 : World) (h0 : Heap) (a : Act) (w : World), Rl w0 h0 n σ h a w → c.wp P (fun e a' w' => ∃ σ' h', Rl w0 h0 n σ' h' a' w' ∧ Q e σ' h') a w
def thn (next : Sl → Heap → Prop) (Q : Exit → Sl → Heap → Prop) : Exit → Sl → Heap → Prop
  | .normal, σ, h => next σ h
  | e, σ, h => Q e σ h
def blk (id : Nat) (Q : Exit → Sl → Heap → Prop) : Exit → Sl → Heap → Prop
  | .exit id', σ, h => if id' = id then Q .normal σ h else Q (.exit id') σ h
  | e, σ, h => Q e σ h

section
variable {P : Program} {n : Nat} {Q Q' : Exit → Sl → Heap → Prop} {σ : Sl} {h : Heap}

theorem SWP.mono {c : Code} (hq : ∀ e σ h, Q e σ h → Q' e σ h) (s : SWP P n c Q σ h) : SWP P n c Q' σ h := fun w0 h0 a w r =>
  wp_mono (s w0 h0 a w r) fun e a' w' ⟨σ', h', q1, q2⟩ => ⟨σ', h', q1, hq _ _ _ q2⟩
theorem swp_skip (q : Q .normal σ h) : SWP P n .skip Q σ h := fun w0 h0 a w r => wp_skip ⟨σ, h, r, q⟩
theorem swp_exit {id : Nat} (q : Q (.exit id) σ h) : SWP P n (.exit id) Q σ h := fun w0 h0 a w r => wp_exit ⟨σ, h, r, q⟩
theorem swp_ret (q : Q .ret σ h) : SWP P n .ret Q σ h := fun w0 h0 a w r => wp_ret ⟨σ, h, r, q⟩
theorem swp_seq {x y : Code} (s : SWP P n x (thn (SWP P n y Q) Q) σ h) : SWP P n (.seq x y) Q σ h := fun w0 h0 a w r =>
  wp_seq (wp_mono (s w0 h0 a w r) fun e a' w' ⟨σ', h', q1, q2⟩ => by
    cases e with
    | normal => exact q2 w0 h0 a' w' q1
    | _ => exact ⟨σ', h', q1, q2⟩)
theorem swp_cond {c : Operand} {x y : Code} {t : Bool} (ok : okOp n c = true) (e : ev σ c = .bool t) (s : SWP P n (if t then x else y) Q σ h) : SWP P n (.cond c x y) Q σ h := fun w0 h0 a w r => by
  have hv := ev_sound r ok
  rw [e] at hv
  simp only [VR] at hv
  exact wp_cond hv (s w0 h0 a w r)
theorem swp_condA {c : Operand} {x y : Code} (ok : okOp n c = true) (e : ev σ c = .anyb) (s1 : SWP P n x Q σ h) (s2 : SWP P n y Q σ h) : SWP P n (.cond c x y) Q σ h := fun w0 h0 a w r => by
  have hv := ev_sound r ok
  rw [e] at hv
  simp only [VR] at hv
  obtain ⟨b, hv⟩ := hv
  exact wp_cond hv (by cases b; exact s2 w0 h0 a w r; exact s1 w0 h0 a w r)
theorem swp_block {id : Nat} {c : Code} (s : SWP P n c (blk id Q) σ h) : SWP P n (.block id c) Q σ h := fun w0 h0 a w r =>
  wp_block (wp_mono (s w0 h0 a w r) fun e a' w' ⟨σ', h', q1, q2⟩ => by
    cases e with
    | exit id' =>
      simp only [Exit.inBlock]
      simp only [blk] at q2
      split
      · rename_i e; rw [if_pos e] at q2; exact ⟨σ', h', q1, q2⟩
      · rename_i e; rw [if_neg e] at q2; exact ⟨σ', h', q1, q2⟩
    | _ => exact ⟨σ', h', q1, q2⟩)
theorem swp_region {id : Nat} {ops : Array Oper} (ok : okR n ops = true) (s : pops P ops (Q .normal) ops.toList σ h) : SWP P n (.region id ops false) Q σ h := fun w0 h0 a w r =>
  wp_region (by
    have := pops_sound (Q := fun e a' w' => ∃ σ' h', Rl w0 h0 n σ' h' a' w' ∧ Q e σ' h') ok (fun σ' h' a' w' q1 q2 => ⟨σ', h', q2, q1⟩) ops.toList 0 (by simp) σ h a w r s
    simpa using this)
theorem swp_draw {id : Nat} {ops : Array Oper} (hm : P.follows .mixedOrders = true) (ok : okR n ops = true) {L : List Nat} (od : okDraw L ops = true) (s : popsD P L ops (Q .normal) ops.toList σ h) : SWP P n (.region id ops true) Q σ h := fun w0 h0 a w r =>
  wp_region_any hm (by
    have hun : un_ ops (Array.replicate ops.size false) = List.range ops.size := by
      rw [un_, List.filter_eq_self]
      intro i hi
      have : i < ops.size := by simpa using hi
      simp [this]
    have ht := tD_pops (P := P) (L := L) (ops := ops) ops.toList 0 (by simp) σ h s
    have hcl : Cl ops (Array.replicate ops.size false) := fun j o hj hjl => by
      exfalso
      have : j < ops.size := (Array.getElem?_eq_some_iff.1 hj).1
      simp [this] at hjl
    have ha := any_of_text od ops.size (Array.replicate ops.size false) σ h (by simp) hcl (by rw [hun]; simp) (by rw [hun]; simpa using ht)
    have r' : Rl w0 h0 n σ h a { w with drawn := w.drawn + 1 } :=
      ⟨r.size, r.defers, fun t ht => VR.step (St.drew w h).kp (Nat.le_refl _) _ (r.slots t ht), r.heap.drew, r.st.trans (St.drew w h)⟩
    exact any_sound (Q := fun e a' w' => ∃ σ' h', Rl w0 h0 n σ' h' a' w' ∧ Q e σ' h') ok (fun σ' h' a' w' q1 q2 => ⟨σ', h', q2, q1⟩) _ _ σ h a _ r' ha)
/-- A loop: a relation with a number that every round lowers. -/
theorem swp_loop {c : Code} (I : Nat → Sl → Heap → Prop) (k : Nat) (h1 : I k σ h)
    (round : ∀ k σ h, I k σ h → SWP P n c (thn (fun σ' h' => ∃ k', k' < k ∧ I k' σ' h') Q) σ h) : SWP P n (.loop c) Q σ h := fun w0 h0 a w r =>
  wp_loop_ghost (fun k a w => ∃ σ h, Rl w0 h0 n σ h a w ∧ I k σ h) k ⟨σ, h, r, h1⟩ fun k a w ⟨σ, h, r, hi⟩ =>
    wp_mono (round k σ h hi w0 h0 a w r) fun e a' w' ⟨σ', h', q1, q2⟩ => by
      cases e with
      | normal =>
        obtain ⟨k', q3, q4⟩ := q2
        exact ⟨k', q3, σ', h', q1, q4⟩
      | _ => exact ⟨σ', h', q1, q2⟩
end

/-! ### Results -/
def resv (P : Program) (σ : Sl) (h : Heap) : ResultVar → Option PV
  | .tmp t => some (σ t)
  | .cell a t => ldp P h t (σ a)
def resl (P : Program) (σ : Sl) (h : Heap) : List ResultVar → Option (List PV)
  | [] => some []
  | r :: rs => match resv P σ h r, resl P σ h rs with
    | some v, some vs => some (v :: vs)
    | _, _ => none
def ress (P : Program) (rs : List ResultVar) (σ : Sl) (h : Heap) : Option PV :=
  match rs with
  | [r] => resv P σ h r
  | rs => (resl P σ h rs).map .tup
def okRes (n : Nat) : ResultVar → Bool
  | .tmp t => decide (t < n)
  | .cell a _ => decide (a < n)

def resF (tmps : Array Value) : ResultVar → Sem Value
  | .tmp t => pure (tmps.getD t undef)
  | .cell b t => do loadVar t (← asAddr (tmps.getD b undef))
theorem results_eq (fn : Func) (tmps : Array Value) : results fn tmps = (do let vs ← fn.results.toList.mapM (resF tmps); pure (if h : vs.toArray.size = 1 then vs.toArray[0] else .tuple vs.toArray)) := by
  unfold results
  rw [Array.mapM_eq_mapM_toList]
  have e : (fun x => match x with
    | ResultVar.tmp t => pure (tmps.getD t undef)
    | ResultVar.cell a t => do loadVar t (← asAddr (tmps.getD a undef)) : ResultVar → Sem Value) = resF tmps := funext fun x => by cases x <;> rfl
  rw [← e, bind_map_left]
  rfl
section
variable {P : Program} {n : Nat} {w0 w : World} {h0 h : Heap} {σ : Sl} {a : Act}
theorem asAddr_load {t : TypeId} {p v : PV} {c0 : Value} {N : Nat} (hp : VR w h N p c0) (hw : WR w h 0) (e : ldp P h t p = some v) :
    ∃ c, (do loadVar t (← asAddr c0) : Sem Value).run P w = .ok c w ∧ VR w h N v c := by
  obtain ⟨c, q1, q2⟩ := ld_sound (o := ⟨none, .load t (.const c0), 0, default, #[], none⟩) (ρ := fun _ => c0) (a := .const c0) rfl hp hw e
  have hq : (Instr.loadAt t c0).run P w = .ok c w := by
    simp only [execOp, Sem.run_bind] at q1
    cases hr : (Instr.loadAt t c0).run P w with
    | ok x w' =>
      rw [hr] at q1
      simp at q1
      rw [q1.1, q1.2]
    | halt x w' => rw [hr] at q1; simp at q1
  refine ⟨c, ?_, q2⟩
  cases p <;> simp only [ldp] at e <;> (try (split at e <;> simp at e; done))
  · simp only [VR] at hp
    subst hp
    simpa [Instr.loadAt, Instr.sureAddr, asAddr] using hq
  · simp only [VR] at hp
    obtain ⟨_, _, _, rfl, _⟩ := hp
    simpa [Instr.loadAt, Instr.sureAddr, asAddr] using hq
theorem resv_sound (r : Rl w0 h0 n σ h a w) {x : ResultVar} {v : PV} (ok : okRes n x = true) (e : resv P σ h x = some v) :
    ∃ c, (resF a.tmps x).run P w = .ok c w ∧ VR w h w0.heap.size v c := by
  cases x with
  | tmp t =>
    simp only [resv, Option.some.injEq] at e
    subst e
    exact ⟨_, rfl, r.slots t (by simpa [okRes] using ok)⟩
  | cell b t => exact asAddr_load (r.slots b (by simpa [okRes] using ok)) r.heap e
theorem resl_sound (r : Rl w0 h0 n σ h a w) : ∀ (rs : List ResultVar) (vs : List PV), (∀ x ∈ rs, okRes n x = true) → resl P σ h rs = some vs →
    ∃ cs, (rs.mapM (resF a.tmps)).run P w = .ok cs w ∧ TR w h w0.heap.size vs cs
  | [], vs, _, e => by simp only [resl, Option.some.injEq] at e; subst e; exact ⟨[], rfl, by simp [TR]⟩
  | x :: rs, vs, ok, e => by
    simp only [resl] at e
    split at e
    · rename_i v vs' hv hvs
      cases e
      obtain ⟨c, q1, q2⟩ := resv_sound r (ok x (by simp)) hv
      obtain ⟨cs, q3, q4⟩ := resl_sound r rs vs' (fun y hy => ok y (by simp [hy])) hvs
      refine ⟨c :: cs, ?_, by simp only [TR]; exact ⟨c, cs, rfl, q2, q4⟩⟩
      rw [List.mapM_cons, Sem.run_bind, q1, Result.andThen_ok, Sem.run_bind, q3]
      rfl
    · cases e
theorem ress_sound (r : Rl w0 h0 n σ h a w) {fn : Func} {v : PV} (ok : ∀ x ∈ fn.results.toList, okRes n x = true) (e : ress P fn.results.toList σ h = some v) :
    ∃ c, (results fn a.tmps).run P w = .ok c w ∧ VR w h w0.heap.size v c := by
  rw [results_eq]
  unfold ress at e
  split at e
  · rename_i x hx
    rw [hx] at ok ⊢
    obtain ⟨c, q1, q2⟩ := resv_sound r (ok x (by simp)) e
    refine ⟨c, ?_, q2⟩
    simp [q1]
  · rename_i hne
    cases hl : resl P σ h fn.results.toList with
    | none => rw [hl] at e; cases e
    | some vs =>
      rw [hl] at e
      simp only [Option.map_some, Option.some.injEq] at e
      subst e
      obtain ⟨cs, q1, q2⟩ := resl_sound r _ vs ok hl
      have hlen : cs.length ≠ 1 := fun e1 => by
        have h1 := q2.length
        have h2 : ∀ (rs : List ResultVar) (vs : List PV), resl P σ h rs = some vs → rs.length = vs.length := by
          intro rs
          induction rs with
          | nil => intro vs e; simp only [resl, Option.some.injEq] at e; subst e; rfl
          | cons x rs ih =>
            intro vs e
            simp only [resl] at e
            split at e
            · rename_i v vs' _ hvs
              cases e
              simp [ih _ hvs]
            · cases e
        have h3 := h2 _ _ hl
        obtain ⟨x, hx⟩ := List.length_eq_one_iff.1 (h3.trans (h1.trans e1))
        exact hne x hx
      refine ⟨.tuple cs.toArray, ?_, by simp only [VR]; exact ⟨_, rfl, q2⟩⟩
      simp [q1, hlen]
end

/-- A value may be told otherwise, of a heap that holds less. -/
def Wk (h0 h' : Heap) (v : PV) (h2 : Heap) (v2 : PV) : Prop :=
  h2.le h' ∧ ∀ (w0 w : World) (c : Value), St w0 h0 w h' → WR w h' 0 → VR w h' w0.heap.size v c → VR w h2 w0.heap.size v2 c
theorem Wk.refl (h0 h : Heap) (v : PV) : Wk h0 h v h v := ⟨Heap.le_refl h, fun _ _ _ _ _ q => q⟩
theorem Kp.le {w : World} {h h2 : Heap} (l : h2.le h) : Kp w h w h2 := (St.kill w h h2 l).kp
theorem Wk.drop {h0 h' h2 : Heap} (v : PV) (l : h2.le h') : Wk h0 h' v h2 v := ⟨l, fun _ _ _ _ _ q => VR.step (Kp.le l) (Nat.le_refl _) _ q⟩
theorem own_ge {w0 w : World} {h0 h' : Heap} (s : St w0 h0 w h') {b : Nat} {cs : List PV} (e0 : h0.f b = none) (e : h'.f b = some cs) : w0.heap.size ≤ b := by
  rcases Nat.lt_or_ge b w0.heap.size with hb | hb
  · rw [s.dead b hb e0] at e; cases e
  · exact hb
/-- A live row becomes a list. -/
theorem Wk.buf {h0 h' h2 : Heap} {b E off n : Nat} {cs : List PV} (l : h2.le h') (e0 : h0.f b = none) (e : h'.f b = some cs) (e2 : h2.f b = none) (hl : off + n * E ≤ cs.length) :
    Wk h0 h' (.buf b E off n) h2 (.list true E n (olds ((cs.drop off).take (n * E)))) := ⟨l, fun w0 w c s hw q => by
  simp only [VR] at q ⊢
  obtain ⟨k, rfl, q1, q2, q3⟩ := q
  obtain ⟨cells, t, hc, hcl, hcc⟩ := hw b cs e
  have hlt := hw.lt e
  have h1 : CR w h' 0 ((cs.drop off).take (n * E)) (((cells.toList.take cs.length).drop off).take (n * E)) := (hcc.drop off).take (n * E)
  have h3 := CR.step (Kp.le l) (Nat.le_refl _) _ (CR.olds (N' := w0.heap.size) _ h1)
  refine ⟨_, k, _, rfl, q1, by rw [olds_eq]; simp; omega, h3, .inr ⟨b, off, rfl, hlt, e2, fun _ => own_ge s e0 e, fun i v hi => ?_⟩⟩
  rw [List.getElem?_take] at hi
  split at hi
  · rw [List.getElem?_drop] at hi
    have := Mem.live hc cs.length (off + i) v hi
    simpa using this
  · cases hi⟩
theorem Wk.ptr {h0 h' h2 : Heap} {b off : Nat} {cs : List PV} (l : h2.le h') (e0 : h0.f b = none) (e : h'.f b = some cs) (e2 : h2.f b = none) :
    Wk h0 h' (.ptr b off) h2 (.fptr true (olds cs) off) := ⟨l, fun w0 w c s hw q => by
  simp only [VR] at q ⊢
  subst q
  obtain ⟨cells, t, hc, hcl, hcc⟩ := hw b cs e
  have hlt := hw.lt e
  have h3 := CR.step (Kp.le l) (Nat.le_refl _) _ (CR.olds (N' := w0.heap.size) _ hcc)
  exact ⟨b, 0, _, by simp, hlt, e2, fun _ => own_ge s e0 e, h3, Mem.live hc cs.length⟩⟩
theorem Wk.nil {h0 h' h2 : Heap} (l : h2.le h') (fr : Bool) (E : Nat) : Wk h0 h' .nils h2 (.list fr E 0 []) := ⟨l, fun w0 w c s hw q => by
  simp only [VR] at q ⊢
  subst q
  exact ⟨none, 0, [], rfl, Nat.le_refl _, by simp, by simp [CR], .inl trivial⟩⟩
def WkL (h0 h' : Heap) (h2 : Heap) : List PV → List PV → Prop
  | [], [] => True
  | v :: vs, u :: us => Wk h0 h' v h2 u ∧ WkL h0 h' h2 vs us
  | _, _ => False
theorem Wk.tup {h0 h' h2 : Heap} {vs us : List PV} (l : h2.le h') (ws : WkL h0 h' h2 vs us) : Wk h0 h' (.tup vs) h2 (.tup us) := ⟨l, fun w0 w c s hw q => by
  simp only [VR] at q ⊢
  obtain ⟨cs, rfl, q⟩ := q
  refine ⟨cs, rfl, ?_⟩
  have key : ∀ (vs us : List PV) (cs : List Value), WkL h0 h' h2 vs us → TR w h' w0.heap.size vs cs → TR w h2 w0.heap.size us cs := by
    intro vs
    induction vs with
    | nil => intro us cs ws q; cases us with
      | nil => simpa only [TR] using q
      | cons u us => simp [WkL] at ws
    | cons v vs ih =>
      intro us cs ws q
      cases us with
      | nil => simp [WkL] at ws
      | cons u us =>
        simp only [TR, WkL] at q ws ⊢
        obtain ⟨c, cs', rfl, q1, q2⟩ := q
        exact ⟨c, cs', rfl, ws.1.2 w0 w c s hw q1, ih us cs' ws.2 q2⟩
  exact key vs us _ ws q⟩

/-- What must hold where a function comes to its end. -/
def fin (P : Program) (rs : List ResultVar) (h0 : Heap) (K : PV → Heap → Prop) : Exit → Sl → Heap → Prop
  | .ret, σ, h' => ∃ v, ress P rs σ h' = some v ∧ ∃ v2 h2, Wk h0 h' v h2 v2 ∧ K v2 h2
  | .normal, σ, h' => ∃ v, ress P rs σ h' = some v ∧ ∃ v2 h2, Wk h0 h' v h2 v2 ∧ K v2 h2
  | _, _, _ => False
def slots0 (args : List PV) : Sl := fun t => args.getD t .undef

theorem can_of_swp {P : Program} {f : FuncId} {fn : Func} {c : Code} {n : Nat} {args : List PV} {h : Heap} {K : PV → Heap → Prop} (hf : P.funcs[f]? = some fn)
    (hname : (fn.name == "runtime.NumGoroutine") = false) (hb : fn.body = some c) (hn : args.length + (fn.ntmps - args.length) = n) (hr : fn.results.toList.all (okRes n) = true)
    (s : SWP P n c (fin P fn.results.toList h K) (slots0 (olds args)) h) : CanP P f args h K := by
  refine ⟨⟨fn, hf, hname, by rw [hb]; rfl⟩, fun w cargs hw ha => ?_⟩
  have hl : args.length = cargs.size := by have := ha.length; simpa using this
  have ho := TR.olds (N' := w.heap.size) args ha
  have r : Rl w h n (slots0 (olds args)) h { tmps := cargs ++ Array.replicate (fn.ntmps - cargs.size) undef, defers := [] } w := by
    refine ⟨by simp; omega, rfl, fun t ht => ?_, hw, St.refl w h⟩
    unfold slots0
    by_cases e : t < cargs.size
    · have hlt : t < (olds args).length := by rw [olds_eq]; simp; omega
      obtain ⟨v, q1, q2⟩ := ho.get t (List.getElem?_eq_getElem hlt)
      have e1 : (olds args).getD t .undef = (olds args)[t] := by simp [List.getD, hlt]
      rw [e1]
      have q1' : cargs[t]? = some v := by simpa using q1
      have e2 : (cargs ++ Array.replicate (fn.ntmps - cargs.size) undef).getD t undef = v := by
        simp [Array.getElem?_append_left e, q1']
      simp only [e2]
      exact q2
    · have hle : (olds args).length ≤ t := by rw [olds_eq]; simp; omega
      have e1 : (olds args).getD t .undef = .undef := by simp [List.getD, List.getElem?_eq_none hle]
      rw [e1]
      simp only [VR]
  refine calls_of_wp hf hb (wp_mono (s w h _ w r) fun e a' w' ⟨σ', h', q1, q2⟩ => ?_)
  have ok : ∀ x ∈ fn.results.toList, okRes n x = true := fun x hx => List.all_eq_true.1 hr x hx
  have done : (∃ v, ress P fn.results.toList σ' h' = some v ∧ ∃ v2 h2, Wk h h' v h2 v2 ∧ K v2 h2) → a'.defers = [] ∧ ∃ v, (results fn a'.tmps).run P w' = .ok v w' ∧
      (∃ v' c h'', Ending.returned v = .returned c ∧ St w h w' h'' ∧ WR w' h'' 0 ∧ VR w' h'' w.heap.size v' c ∧ K v' h'') := by
    rintro ⟨v, e1, v2, h2, wk, hk⟩
    obtain ⟨c, q3, q4⟩ := ress_sound q1 ok e1
    exact ⟨q1.defers, c, q3, v2, c, h2, rfl, q1.st.trans (St.kill w' h' h2 wk.1), q1.heap.kill wk.1, wk.2 w w' c q1.st q1.heap q4, hk⟩
  cases e with
  | normal => exact done q2
  | ret => exact done q2
  | exit id => exact q2.elim
  | goto l => exact q2.elim
  | panic ch => exact q2.elim
  | outgrown => exact q2.elim
end Go.Pm
