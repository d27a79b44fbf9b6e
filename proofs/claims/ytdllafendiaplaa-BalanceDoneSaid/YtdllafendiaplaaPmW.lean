/-
  An abstract machine over pure values, part W: a live box that comes back is only read from then on, with all rows in it.
-/
import Derived.Test.YtdllafendiaplaaPmV
namespace Go.Pm
set_option linter.unusedVariables false
set_option linter.unusedSimpArgs false

/-- A cell of a box may be told otherwise. -/
def Wc (h0 h' : Heap) (v : PV) (h2 : Heap) (u : PV) : Prop := ∀ (w0 w : World) (c : Value), St w0 h0 w h' → WR w h' 0 → VR w h' 0 v c → VR w h2 w0.heap.size u c
theorem Wc.old {h0 h' h2 : Heap} (v : PV) (l : h2.le h') : Wc h0 h' v h2 v.old := fun w0 w c s hw q =>
  VR.step (Kp.le l) (Nat.le_refl _) _ (VR.old (N' := w0.heap.size) _ q)
theorem Stk.wc {h h' : Heap} {v : PV} {E n : Nat} {cs : List PV} (a : Stk h h' v E n cs) (l : h.le h') : Wc h h' v h (.list true E n (olds cs)) := fun w0 w c s hw q => by
  refine (a.wk l).2 w0 w c s hw ?_
  rcases a with ⟨rfl, _⟩ | ⟨b, ds, rfl, _⟩
  · simpa only [VR] using q
  · simpa only [VR] using q
def WcL (h0 h' h2 : Heap) : List PV → List PV → Prop
  | [], [] => True
  | v :: vs, u :: us => Wc h0 h' v h2 u ∧ WcL h0 h' h2 vs us
  | _, _ => False
theorem WcL.cr {h0 h' h2 : Heap} {w0 w : World} (s : St w0 h0 w h') (hw : WR w h' 0) : ∀ (vs us : List PV) (cs : List Value), WcL h0 h' h2 vs us → CR w h' 0 vs cs → CR w h2 w0.heap.size us cs
  | [], [], cs, _, q => by simpa only [CR] using q
  | v :: vs, u :: us, cs, ws, q => by
    simp only [CR] at q ⊢
    obtain ⟨c, cs', rfl, h1, q1, q2⟩ := q
    exact ⟨c, cs', rfl, h1, ws.1 w0 w c s hw q1, WcL.cr s hw vs us cs' ws.2 q2⟩
  | [], u :: us, cs, ws, _ => ws.elim
  | v :: vs, [], cs, ws, _ => ws.elim
theorem Wk.box {h0 h' h2 : Heap} {b off : Nat} {cs us : List PV} (l : h2.le h') (e0 : h0.f b = none) (e : h'.f b = some cs) (e2 : h2.f b = none) (ws : WcL h0 h' h2 cs us) :
    Wk h0 h' (.ptr b off) h2 (.fptr true us off) := ⟨l, fun w0 w c s hw q => by
  simp only [VR] at q ⊢
  subst q
  obtain ⟨cells, t, hc, hcl, hcc⟩ := hw b cs e
  have hlt := hw.lt e
  exact ⟨b, 0, _, by simp, hlt, e2, fun _ => own_ge s e0 e, WcL.cr s hw _ _ _ ws hcc, Mem.live hc cs.length⟩⟩
end Go.Pm
