/-
  An abstract machine over pure values, part S: cutting rows, as equations for a walk.
  Conditions: none.
-/
import Derived.Test.YtdllafendiaplaaPmR
namespace Go.Pm
set_option linter.unusedVariables false
set_option linter.unusedSimpArgs false

theorem cut_lo {n j : Nat} (h : j ≤ n) : cutB n (some (.int .i64 (j : Int))) none = some (j, n) := by
  have h1 : (0 : Int) ≤ j := by omega
  have h2 : (j : Int) ≤ n := by omega
  simp [cutB, h1, h2]
theorem cut_hi {n j : Nat} (h : j ≤ n) : cutB n none (some (.int .i64 (j : Int))) = some (0, j) := by
  have h1 : (0 : Int) ≤ j := by omega
  have h2 : (j : Int) ≤ n := by omega
  simp [cutB, h1, h2]
theorem cut_both {n i j : Nat} (h0 : i ≤ j) (h : j ≤ n) : cutB n (some (.int .i64 (i : Int))) (some (.int .i64 (j : Int))) = some (i, j) := by
  have h1 : (0 : Int) ≤ i := by omega
  have h2 : (i : Int) ≤ j := by omega
  have h3 : (j : Int) ≤ n := by omega
  simp [cutB, h1, h2, h3]
theorem ex_cut {x : Option (Nat × Nat)} {r : Nat × Nat} {F : Nat × Nat → Prop} (e : x = some r) : (∃ p, x = some p ∧ F p) = F r := by
  subst e
  apply propext
  constructor
  · rintro ⟨p, hp, q⟩; cases hp; exact q
  · intro q; exact ⟨r, rfl, q⟩
section
variable {K : Kt} {h : Heap} {b E off n i j : Nat} {fr : Bool} {cs : List PV} {k : Option Nat}
/-- A live row, from a place on. -/
theorem slcB_lo (h1 : 0 < j) (h2 : j < n) : slcK k (some E) (.buf b E off n) (some (.int .i64 (j : Int))) none K h = K (.buf b E (off + j * E) (n - j)) h := by
  simp only [slcK, true_and, ex_cut (cut_lo (Nat.le_of_lt h2))]
  rw [if_neg (by omega), if_pos h2]
theorem slcB_lo0 : slcK k (some E) (.buf b E off n) (some (.int .i64 0)) none K h = K (.buf b E off n) h := by
  have := cut_lo (n := n) (j := 0) (Nat.zero_le _)
  simp only [slcK, true_and]
  rw [show ((0 : Int)) = ((0 : Nat) : Int) from rfl, ex_cut this]; simp
theorem slcB_hi (h2 : j ≤ n) : slcK k (some E) (.buf b E off n) none (some (.int .i64 (j : Int))) K h = K (.buf b E off j) h := by
  simp only [slcK, true_and, ex_cut (cut_hi h2), if_true]
theorem slcB_both (h0 : 0 < i) (h1 : i < j) (h2 : j ≤ n) : slcK k (some E) (.buf b E off n) (some (.int .i64 (i : Int))) (some (.int .i64 (j : Int))) K h = K (.buf b E (off + i * E) (j - i)) h := by
  simp only [slcK, true_and, ex_cut (cut_both (Nat.le_of_lt h1) h2)]
  rw [if_neg (by omega), if_pos h1]
theorem slcB_none (h0 : 0 < i) (h2 : i ≤ n) : slcK k (some E) (.buf b E off n) (some (.int .i64 (i : Int))) (some (.int .i64 (i : Int))) K h = K (.list true E 0 []) h := by
  simp only [slcK, true_and, ex_cut (cut_both (Nat.le_refl i) h2)]
  rw [if_neg (by omega), if_neg (by omega)]
theorem slcB_both0 (h2 : j ≤ n) : slcK k (some E) (.buf b E off n) (some (.int .i64 0)) (some (.int .i64 (j : Int))) K h = K (.buf b E off j) h := by
  have e := cut_both (Nat.zero_le j) h2
  rw [show ((0 : Nat) : Int) = 0 from rfl] at e
  simp only [slcK, true_and, ex_cut e, if_true]
theorem slcB_00 : slcK k (some E) (.buf b E off n) (some (.int .i64 0)) (some (.int .i64 0)) K h = K (.buf b E off 0) h :=
  slcB_both0 (j := 0) (Nat.zero_le n)
/-- What is only read, cut. -/
theorem slcL_both (h1 : i ≤ j) (h2 : j ≤ n) : slcK k (some E) (.list fr E n cs) (some (.int .i64 (i : Int))) (some (.int .i64 (j : Int))) K h = K (.list fr E (j - i) ((cs.drop (i * E)).take ((j - i) * E))) h := by
  simp only [slcK, true_and, ex_cut (cut_both h1 h2)]
theorem slcL_hi (h2 : j ≤ n) : slcK k (some E) (.list fr E n cs) none (some (.int .i64 (j : Int))) K h = K (.list fr E j (cs.take (j * E))) h := by
  simp only [slcK, true_and, ex_cut (cut_hi h2)]; simp
theorem slcL_lo (h2 : j ≤ n) : slcK k (some E) (.list fr E n cs) (some (.int .i64 (j : Int))) none K h = K (.list fr E (n - j) ((cs.drop (j * E)).take ((n - j) * E))) h := by
  simp only [slcK, true_and, ex_cut (cut_lo h2)]
theorem slcN_hi : slcK k (some E) .nils none (some (.int .i64 0)) K h = K .nils h := by
  have := cut_hi (n := 0) (j := 0) (Nat.le_refl _)
  simp only [slcK, Option.isSome_some, true_and]
  rw [show ((0 : Int)) = ((0 : Nat) : Int) from rfl, ex_cut this]
end
/-- A row that is used as a stack: nothing yet, or the beginning of a live block of its own. -/
def Stk (h h' : Heap) (v : PV) (E n : Nat) (cs : List PV) : Prop := (v = .nils ∧ n = 0 ∧ cs = []) ∨ ∃ b ds, v = .buf b E 0 n ∧ h.f b = none ∧ h'.f b = some ds ∧ n * E ≤ ds.length ∧ cs = ds.take (n * E)
theorem Stk.nil (h h' : Heap) (E : Nat) : Stk h h' .nils E 0 [] := .inl ⟨rfl, rfl, rfl⟩
theorem Stk.len {h h' : Heap} {v : PV} {E n : Nat} {cs : List PV} (a : Stk h h' v E n cs) : cs.length = n * E := by
  rcases a with ⟨_, rfl, rfl⟩ | ⟨b, ds, _, _, _, l, rfl⟩
  · simp
  · simp; omega
theorem Stk.beside {h h' h'' : Heap} {u : PV} {E n : Nat} {cs : List PV} {v v' : PV} (a : Stk h h' u E n cs) (s : Beside h' v h'' v') (d : ∀ b, blkOf u = some b → blkOf v ≠ some b) : Stk h h'' u E n cs ∧ ∀ b, blkOf u = some b → blkOf v' ≠ some b := by
  rcases a with ⟨rfl, rfl, rfl⟩ | ⟨b, ds, rfl, h1, h2, h3, h4⟩
  · exact ⟨.inl ⟨rfl, rfl, rfl⟩, fun b e => by cases e⟩
  · have := s b ds h2 (d b rfl)
    exact ⟨.inr ⟨b, ds, rfl, h1, this.1, h3, h4⟩, fun x e => by cases e; exact this.2⟩
theorem Stk.set {h h' : Heap} {v : PV} {E n x : Nat} {cs ds : List PV} (a : Stk h h' v E n cs) (e : blkOf v ≠ some x) : Stk h (h'.set x ds) v E n cs := by
  rcases a with ⟨rfl, rfl, rfl⟩ | ⟨b, es, rfl, h1, h2, h3, h4⟩
  · exact .inl ⟨rfl, rfl, rfl⟩
  · exact .inr ⟨b, es, rfl, h1, by rw [Heap.set_ne]; exact h2; exact fun e' => e (by rw [e']; rfl), h3, h4⟩
theorem Stk.app {h h' : Heap} {v : PV} {E n m by_ : Nat} {cs new : List PV} {K : Kt} (a : Stk h h' v E n cs) (l : h.le h') (hm : m ≠ 0) (hn : new.length = m * E) (b1 : (n + m) * by_ ≤ 140737488355328) (b2 : n + m ≤ maxLen)
    (k : ∀ v' h'', Stk h h'' v' E (n + m) (cs ++ new) → h.le h'' → Beside h' v h'' v' → K v' h'') : ap2K (some (m, new)) E by_ v K h' := by
  rcases a with ⟨rfl, rfl, rfl⟩ | ⟨b, ds, rfl, e1, e2, e3, e4⟩
  · refine ⟨by simpa using b1, by simpa using b2, ?_⟩
    unfold apnK; rw [if_neg hm]
    intro b hb
    have hb0 : h.f b = none := Heap.le_none l hb
    refine k _ _ (.inr ⟨b, new, by simp, hb0, Heap.set_same _ _ _, by simp; omega, by simp [List.take_of_length_le (Nat.le_of_eq hn)]⟩) (Heap.le_set l hb0) ?_
    intro x ds hx _
    have hne : x ≠ b := fun e => by rw [e, hb] at hx; cases hx
    exact ⟨by rw [Heap.set_ne _ _ hne]; exact hx, by simp [blkOf]; exact fun e => hne e.symm⟩
  · refine ⟨rfl, rfl, b1, b2, ?_⟩
    rw [e2]
    refine ⟨e3, fun b' hb' => ?_⟩
    rw [← e4]
    have hb0 : h.f b' = none := by
      rcases hb' with rfl | hb'
      · exact e1
      · exact Heap.le_none l hb'
    have hl : (cs ++ new).length = (n + m) * E := by rw [List.length_append, hn, e4, List.length_take, Nat.add_mul]; omega
    refine k _ _ (.inr ⟨b', cs ++ new, rfl, hb0, Heap.set_same _ _ _, by omega, by rw [List.take_of_length_le (by omega)]⟩) (Heap.le_set (Heap.le_kill l e1) hb0) ?_
    intro x ds hx hv
    have h1 : x ≠ b := fun e => hv (by rw [e]; rfl)
    have h2 : x ≠ b' := by
      rintro rfl
      rcases hb' with rfl | hb'
      · exact h1 rfl
      · rw [hb'] at hx; cases hx
    exact ⟨by rw [Heap.set_ne _ _ h2, Heap.kill_ne _ h1]; exact hx, by simp [blkOf]; exact fun e => h2 e.symm⟩
/-- One that is cut. -/
theorem Stk.cut {h h' : Heap} {b E n m : Nat} {cs : List PV} (a : Stk h h' (.buf b E 0 n) E n cs) (hm : m ≤ n) : Stk h h' (.buf b E 0 m) E m (cs.take (m * E)) := by
  rcases a with ⟨e, _⟩ | ⟨b', ds, e, e1, e2, e3, e4⟩
  · cases e
  · cases e
    have := Nat.mul_le_mul_right E hm
    exact .inr ⟨b, ds, rfl, e1, e2, by omega, by rw [e4, List.take_take, Nat.min_eq_left this]⟩
theorem Stk.wk {h h' : Heap} {v : PV} {E n : Nat} {cs : List PV} (a : Stk h h' v E n cs) (l : h.le h') : Wk h h' v h (.list true E n (olds cs)) := by
  rcases a with ⟨rfl, rfl, rfl⟩ | ⟨b, ds, rfl, e1, e2, e3, rfl⟩
  · exact Wk.nil l true E
  · have := Wk.buf (E := E) (off := 0) (n := n) l e1 e2 e1 (by omega)
    rwa [List.drop_zero] at this
theorem Stk.fin {h h' : Heap} {v : PV} {E n : Nat} {cs : List PV} {K : Kt} (a : Stk h h' v E n cs) (l : h.le h') (k : K (.list true E n (olds cs)) h) : finK v h K h' := finK_wk (a.wk l) k
/-- What stands in it. -/
theorem Stk.get {h h' : Heap} {b E n : Nat} {cs : List PV} (a : Stk h h' (.buf b E 0 n) E n cs) : ∃ ds, h.f b = none ∧ h'.f b = some ds ∧ ∀ i, i < n * E → ds[i]? = cs[i]? := by
  rcases a with ⟨e, _⟩ | ⟨b', ds, e, e1, e2, e3, e4⟩
  · cases e
  · cases e
    exact ⟨ds, e1, e2, fun i hi => by rw [e4, List.getElem?_take, if_pos hi]⟩
theorem Stk.live {h h' : Heap} {v : PV} {E n : Nat} {cs : List PV} (a : Stk h h' v E n cs) (hn : 0 < n) : ∃ b, v = .buf b E 0 n := by
  rcases a with ⟨_, rfl, _⟩ | ⟨b, ds, e, _⟩
  · omega
  · exact ⟨b, e⟩
/-- One that is appended to, by however many. -/
theorem Acc.appA {h h' : Heap} {v : PV} {E n m by_ : Nat} {cs new : List PV} {K : Kt} (a : Acc h h' v E n cs) (l : h.le h') (hn : new.length = m * E) (b1 : (n + m) * by_ ≤ 140737488355328) (b2 : n + m ≤ maxLen)
    (k : ∀ v' h'', Acc h h'' v' E (n + m) (cs ++ new) → h.le h'' → Beside h' v h'' v' → K v' h'') : ap2K (some (m, new)) E by_ v K h' := by
  by_cases hm : m = 0
  · subst hm
    have hnew : new = [] := List.length_eq_zero_iff.1 (by omega)
    subst hnew
    rcases a with ⟨rfl, rfl, rfl⟩ | ⟨b, rfl, e1, e2, e3⟩
    · refine ⟨by simp, by simp, ?_⟩
      unfold apnK; rw [if_pos rfl]
      exact k _ _ (Acc.nil _ _ _) l fun x ds hx _ => ⟨hx, fun e => by cases e⟩
    · refine ⟨rfl, rfl, b1, b2, ?_⟩
      rw [e2]
      refine ⟨by omega, fun b' hb' => ?_⟩
      have ht : cs.take (n * E) = cs := List.take_of_length_le (by omega)
      rw [ht]
      have hb0 : h.f b' = none := by
        rcases hb' with rfl | hb'
        · exact e1
        · exact Heap.le_none l hb'
      refine k _ _ (.inr ⟨b', rfl, hb0, Heap.set_same _ _ _, by rw [List.length_append, e3]; simp⟩) (Heap.le_set (Heap.le_kill l e1) hb0) ?_
      intro x ds hx hv
      have h1 : x ≠ b := fun e => hv (by rw [e]; rfl)
      have h2 : x ≠ b' := by
        rintro rfl
        rcases hb' with rfl | hb'
        · exact h1 rfl
        · rw [hb'] at hx; cases hx
      exact ⟨by rw [Heap.set_ne _ _ h2, Heap.kill_ne _ h1]; exact hx, by simp [blkOf]; exact fun e => h2 e.symm⟩
  · exact a.app l hm hn b1 b2 k
end Go.Pm
