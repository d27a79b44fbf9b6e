/-
  No cell of these rows narrows 'for every input' (looked for: loops, veiled, ifaces, maps, wideKeys, modest, calm, conditions, laid).
  DERIVED. THE GIVEN ROWS OF THIS SEAT. 3 by the template 'for every input the law returns true; each argument reads behind the call as it read before'; 0 by the template 'total and deterministic' (their statements: YtcgaphmndnmfdaaGreatTotals.lean).
  GIVEN WITH THE SEED: the statements are not yours to turn. If you find one false, say at which input.
  Laid BY PROGRAM, IN A SANDBOX (cutbox-rows.mjs): the forced cells as the released guide's own fill.sh prints them over the translation 888d4e08f7a74606… (all of the seat's roots in one cut). By AI agents, Wed Nov 11 2026. No macro, syntax, notation, axiom, sorry.
-/
import Derived.Test.YtcgaphmndnmfdaaGreatChecked
import GoSem.Claim
import GoSem.ClaimJoined
import GoSem.ClaimMapViews
import Derived.JoinedTies
import Derived.KernelRfl
namespace Go.Proofs.YtcgaphmndnmfdaaGreat
/- THE CELL 'sum', in the pinned program and in every row, IS THE sha256 OF THE DUMP (.gsa) THAT YtcgaphmndnmfdaaGreatProg.lean LOADS. Nothing in Lean hashes anything: it is a label: what it is worth is what the hold of that sum in a sandbox is worth. -/
noncomputable def Tryz.pinned : Pinned := { name := "ytcgaphmndnmfdaagreat", sum := "888d4e08f7a7460604a185ad15fac277862768ac49d53e991782f51d6f95d312", checked := Tryz.checked }
namespace Rows
def none {H : Type} : Left H := { results := [], args := [] }

/-- 'naskhlaw49.LintChecks': WHATEVER THE INPUT: true; the input reads as it did. -/
def lintChecksSpec : ChangeSpec := { name := "lintChecks", fn := fun _ => fun
  | [d] => { results := [.lit (.bool true)], args := [d] }
  | _ => none }
def lintChecksRow : OpenClaim := { program := "ytcgaphmndnmfdaagreat", sum := "888d4e08f7a7460604a185ad15fac277862768ac49d53e991782f51d6f95d312", func := "naskh/naskhlaw49.LintChecks", spec := "lintChecks", unfollowed := true, recurses := true, apart := false }
def LintChecksSaid : Prop := lintChecksRow.holds Tryz.pinned (OpenSpec.ofChange lintChecksSpec)

/-- ITS FALSE NEIGHBOUR: 'it returns false'. Refute it at one input. -/
def lintChecksWrong : ChangeSpec := { name := "lintChecks", fn := fun _ => fun
  | [d] => { results := [.lit (.bool false)], args := [d] }
  | _ => none }
def LintChecksWrongFalsely : Prop := lintChecksRow.holds Tryz.pinned (OpenSpec.ofChange lintChecksWrong)

/-- 'naskhlaw49.LintMends': WHATEVER THE INPUT: true; the input reads as it did. -/
def lintMendsSpec : ChangeSpec := { name := "lintMends", fn := fun _ => fun
  | [d] => { results := [.lit (.bool true)], args := [d] }
  | _ => none }
def lintMendsRow : OpenClaim := { program := "ytcgaphmndnmfdaagreat", sum := "888d4e08f7a7460604a185ad15fac277862768ac49d53e991782f51d6f95d312", func := "naskh/naskhlaw49.LintMends", spec := "lintMends", unfollowed := true, recurses := true, apart := false }
def LintMendsSaid : Prop := lintMendsRow.holds Tryz.pinned (OpenSpec.ofChange lintMendsSpec)

/-- ITS FALSE NEIGHBOUR: 'it returns false'. Refute it at one input. -/
def lintMendsWrong : ChangeSpec := { name := "lintMends", fn := fun _ => fun
  | [d] => { results := [.lit (.bool false)], args := [d] }
  | _ => none }
def LintMendsWrongFalsely : Prop := lintMendsRow.holds Tryz.pinned (OpenSpec.ofChange lintMendsWrong)

/-- 'naskhlaw49.LintDone': WHATEVER THE INPUT: true; the input reads as it did. -/
def lintDoneSpec : ChangeSpec := { name := "lintDone", fn := fun _ => fun
  | [d] => { results := [.lit (.bool true)], args := [d] }
  | _ => none }
def lintDoneRow : OpenClaim := { program := "ytcgaphmndnmfdaagreat", sum := "888d4e08f7a7460604a185ad15fac277862768ac49d53e991782f51d6f95d312", func := "naskh/naskhlaw49.LintDone", spec := "lintDone", unfollowed := true, recurses := true, apart := false }
def LintDoneSaid : Prop := lintDoneRow.holds Tryz.pinned (OpenSpec.ofChange lintDoneSpec)

/-- ITS FALSE NEIGHBOUR: 'it returns false'. Refute it at one input. -/
def lintDoneWrong : ChangeSpec := { name := "lintDone", fn := fun _ => fun
  | [d] => { results := [.lit (.bool false)], args := [d] }
  | _ => none }
def LintDoneWrongFalsely : Prop := lintDoneRow.holds Tryz.pinned (OpenSpec.ofChange lintDoneWrong)

/- THE SECOND FORM. 'bulk': how many values and letters a reading holds, each counted each time it is reached (what is shared counts as often as it is met; a slice's spare places count too). A statement '..UptoSaid' is the law's where the arguments, and the package variables that the reading takes, are together of bulk at most 1048576: NARROWER than '..Said'. Prove '..Said' where nothing that the law and all that it calls make is longer than what came in: it says more and counts as full. Else prove '..UptoSaid'. A law counts once. -/
mutual
def uptoBulk {H : Type} : DataW H → Nat
  | .lit (.string bytes) => bytes.length + 1
  | .lit _ => 1
  | .nil => 1
  | .ptr d => uptoBulk d + 1
  | .slice elems spare => uptoBulkAll elems + uptoBulkAll spare + 1
  | .agg parts => uptoBulkAll parts + 1
  | .iface _ d => uptoBulk d + 1
  | .map entries => uptoBulkEntries entries + 1
  | .held _ => 1
def uptoBulkAll {H : Type} : List (DataW H) → Nat
  | [] => 0
  | d :: r => uptoBulk d + uptoBulkAll r
def uptoBulkEntries {H : Type} : List (Lit × DataW H) → Nat
  | [] => 0
  | x :: r => uptoBulkEntry x + uptoBulkEntries r
def uptoBulkEntry {H : Type} : Lit × DataW H → Nat
  | (.string bytes, d) => bytes.length + uptoBulk d + 1
  | (_, d) => uptoBulk d + 1
 end
def uptoSmall : (H : Type) → List (DataW H) → Bool := fun _ ds => decide (uptoBulkAll ds ≤ 1048576)
def OpenSpec.upto (s : _root_.Go.ChangeSpec) : _root_.Go.OpenSpec := { _root_.Go.OpenSpec.ofChange s with cond := some uptoSmall }

/-- 'naskhlaw49.LintChecks', WHERE WHAT IT READS IS OF BULK AT MOST 1048576: true; the input reads as it did. -/
def lintChecksUptoRow : OpenClaim := { program := "ytcgaphmndnmfdaagreat", sum := "888d4e08f7a7460604a185ad15fac277862768ac49d53e991782f51d6f95d312", func := "naskh/naskhlaw49.LintChecks", spec := "lintChecks", unfollowed := true, recurses := true, apart := false, narrowed := true }
def LintChecksUptoSaid : Prop := lintChecksUptoRow.holds Tryz.pinned (OpenSpec.upto lintChecksSpec)

/-- 'naskhlaw49.LintMends', WHERE WHAT IT READS IS OF BULK AT MOST 1048576: true; the input reads as it did. -/
def lintMendsUptoRow : OpenClaim := { program := "ytcgaphmndnmfdaagreat", sum := "888d4e08f7a7460604a185ad15fac277862768ac49d53e991782f51d6f95d312", func := "naskh/naskhlaw49.LintMends", spec := "lintMends", unfollowed := true, recurses := true, apart := false, narrowed := true }
def LintMendsUptoSaid : Prop := lintMendsUptoRow.holds Tryz.pinned (OpenSpec.upto lintMendsSpec)

/-- 'naskhlaw49.LintDone', WHERE WHAT IT READS IS OF BULK AT MOST 1048576: true; the input reads as it did. -/
def lintDoneUptoRow : OpenClaim := { program := "ytcgaphmndnmfdaagreat", sum := "888d4e08f7a7460604a185ad15fac277862768ac49d53e991782f51d6f95d312", func := "naskh/naskhlaw49.LintDone", spec := "lintDone", unfollowed := true, recurses := true, apart := false, narrowed := true }
def LintDoneUptoSaid : Prop := lintDoneUptoRow.holds Tryz.pinned (OpenSpec.upto lintDoneSpec)

end Rows
end Go.Proofs.YtcgaphmndnmfdaaGreat
