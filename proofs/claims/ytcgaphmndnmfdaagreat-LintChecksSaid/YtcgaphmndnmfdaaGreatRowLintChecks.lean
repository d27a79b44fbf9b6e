/-
  The row of LintChecks: whatever the input, it returns true, and its arguments read as they did.
  Conditions: none.
-/
import Derived.Test.YtcgaphmndnmfdaaGreatRows
import Derived.Test.YtcgaphmndnmfdaaGreatLin7
import Derived.WalkKit
import Derived.ProofKit
import Derived.OpenShut
import Derived.ShutString
import Derived.ChangeOld
import Derived.Below
import Derived.SizedLaws
namespace Go.Proofs.YtcgaphmndnmfdaaGreat.lintChecks
open Go.ChangeShapes Go.WideShapes Go.ChangeAt Go.RowKit Go.Pm
set_option linter.unusedVariables false
set_option maxRecDepth 100000
theorem own : ownKnob Tryz.prog.godebug = none := by kernel_rfl
theorem laidOut : laidOutB Tryz.prog = true := by kernel_rfl
theorem lifted (os : Os) (started : os.Started) (H : Type) (enc : TypeId × Value → H) :
    ReturnsInHanded {} Tryz.checked os 3 .any (Rows.lintChecksSpec.pre6 enc Tryz.prog Tryz.f3 Rows.lintChecksRow.domain false) (Rows.lintChecksSpec.post enc Tryz.prog Tryz.f3 false true false false) := by
  refine returnsInHanded_of_change_sized (C := Tryz.checked) own started (by kernel_rfl) Tryz.func3
    (ChangeSpec.witness6 (enc := enc) (C := Tryz.checked) false ⟨#[], #[.slice none 0 0], []⟩ 8 (by kernel_rfl) (by kernel_rfl) (by kernel_rfl) (by kernel_rfl)) ?_
  intro W base args ds gs before hval0 hW hcnd hsz0 _
  have hsz : (DataW.weightsEach Tryz.prog (Tryz.f3.params.toList ++ Rows.lintChecksSpec.plain.varTypes Tryz.prog) (ds ++ gs)).all (· ≤ reachBytes) = true := hsz0
  have hval : ∀ (j : Nat) t v, Tryz.f3.params[j]? = some t → args[j]? = some v → Value.okWide Tryz.prog W .any base t v := hval0
  have hW' := hW
  obtain ⟨p, q, hA0, hV, rfl, hfz, hnd⟩ := hW
  have hA : DataW.TrodAll enc Tryz.prog W 0 (fun _ => true) true Tryz.f3.params.toList args.toList ds p := hA0
  obtain ⟨rfl, rfl⟩ := trodVars_none hV
  obtain ⟨l, hl, tr⟩ := open_args (P := Tryz.prog) (pre := []) (es := []) (us := Rows.lintChecksSpec.plain.varTypes Tryz.prog) (gs := []) (ks := kinds_LintChecks) (by kernel_rfl) hA (fun j t v a b => hval j t v (by simpa using a) (by simpa using b)) rfl hsz
  have hA' := hA
  rw [Tryz.params3] at hA
  obtain ⟨v0, vs0, d0, ds0, p0, q0, hargs, rfl, rfl, h0, r0⟩ := trodAll_cons hA
  obtain ⟨rfl, rfl, rfl⟩ := trodAll_nil r0
  refine (true_calls (all_LintChecks _ hl) tr).mono fun e W' ⟨he, bel⟩ => ?_
  subst he
  exact ⟨_, rfl, _, _, _, [], _, [], hW', trodAll_mk1 (shut_bool Tryz.underlying4 _), args_below laidOut bel (by kernel_rfl) hA', rfl, bel.frame _, fun h => by cases h⟩
theorem over : Rows.lintChecksRow.holds Tryz.pinned (OpenSpec.ofChange Rows.lintChecksSpec) :=
  OpenClaim.holds_of_wide 3 Tryz.f3 rfl rfl rfl rfl rfl rfl rfl ⟨rfl, rfl, rfl, rfl, rfl⟩ rfl rfl rfl rfl rfl (by kernel_rfl) Tryz.func3 (by kernel_rfl)
    (of_decide_eq_true (by kernel_rfl)) (by unfold Func.isWrapper; first | (rw [if_pos (by decide +kernel)]; kernel_rfl) | (rw [if_neg (by decide +kernel)]; exact ⟨rfl, rfl⟩))
    (fun os started H enc _ => lifted os started H enc)
theorem proved : Rows.LintChecksSaid := over
end Go.Proofs.YtcgaphmndnmfdaaGreat.lintChecks
namespace Go.Proofs.YtcgaphmndnmfdaaGreat
/-- The row, under a short name, for the claim. -/
theorem lintChecks_holds : Rows.LintChecksSaid := lintChecks.proved
end Go.Proofs.YtcgaphmndnmfdaaGreat
