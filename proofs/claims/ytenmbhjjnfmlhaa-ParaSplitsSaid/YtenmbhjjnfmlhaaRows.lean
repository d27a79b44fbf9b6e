/-
  No cell of these rows narrows 'for every input' (looked for: loops, veiled, ifaces, maps, wideKeys, modest, calm, conditions, laid).
  DERIVED. THE GIVEN ROWS OF THIS SEAT. 4 by the template 'for every input the law returns true; each argument reads behind the call as it read before'; 0 by the template 'total and deterministic' (their statements: YtenmbhjjnfmlhaaTotals.lean).
  GIVEN WITH THE SEED: the statements are not yours to turn. If you find one false, say at which input.
  Laid BY PROGRAM, IN A SANDBOX (cutbox-rows.mjs): the forced cells as the released guide's own fill.sh prints them over the translation 1efa2bf11f1bb4a7… (all of the seat's roots in one cut). By AI agents, Wed Nov 11 2026. No macro, syntax, notation, axiom, sorry.
-/
import Derived.Test.YtenmbhjjnfmlhaaChecked
import GoSem.Claim
import GoSem.ClaimJoined
import GoSem.ClaimMapViews
import Derived.JoinedTies
import Derived.KernelRfl
namespace Go.Proofs.Ytenmbhjjnfmlhaa
/- THE CELL 'sum', in the pinned program and in every row, IS THE sha256 OF THE DUMP (.gsa) THAT YtenmbhjjnfmlhaaProg.lean LOADS. Nothing in Lean hashes anything: it is a label: what it is worth is what the hold of that sum in a sandbox is worth. -/
noncomputable def Try.pinned : Pinned := { name := "ytenmbhjjnfmlhaa", sum := "1efa2bf11f1bb4a70db5a78bd3d0c6a49cd2e8753ea0d59e188b123b5d02728d", checked := Try.checked }
namespace Rows
def none {H : Type} : Left H := { results := [], args := [] }

/-- 'naskhlaw20.ParaMatches': WHATEVER THE INPUT: true; the input reads as it did. -/
def paraMatchesSpec : ChangeSpec := { name := "paraMatches", fn := fun _ => fun
  | [d] => { results := [.lit (.bool true)], args := [d] }
  | _ => none }
def paraMatchesRow : OpenClaim := { program := "ytenmbhjjnfmlhaa", sum := "1efa2bf11f1bb4a70db5a78bd3d0c6a49cd2e8753ea0d59e188b123b5d02728d", func := "naskh/naskhlaw20.ParaMatches", spec := "paraMatches", unfollowed := true, recurses := true, apart := false }
def ParaMatchesSaid : Prop := paraMatchesRow.holds Try.pinned (OpenSpec.ofChange paraMatchesSpec)

/-- ITS FALSE NEIGHBOUR: 'it returns false'. Refute it at one input. -/
def paraMatchesWrong : ChangeSpec := { name := "paraMatches", fn := fun _ => fun
  | [d] => { results := [.lit (.bool false)], args := [d] }
  | _ => none }
def ParaMatchesWrongFalsely : Prop := paraMatchesRow.holds Try.pinned (OpenSpec.ofChange paraMatchesWrong)

/-- 'naskhlaw20.ParaLevels': WHATEVER THE INPUT: true; the input reads as it did. -/
def paraLevelsSpec : ChangeSpec := { name := "paraLevels", fn := fun _ => fun
  | [d1, d2, d3] => { results := [.lit (.bool true)], args := [d1, d2, d3] }
  | _ => none }
def paraLevelsRow : OpenClaim := { program := "ytenmbhjjnfmlhaa", sum := "1efa2bf11f1bb4a70db5a78bd3d0c6a49cd2e8753ea0d59e188b123b5d02728d", func := "naskh/naskhlaw20.ParaLevels", spec := "paraLevels", unfollowed := true, recurses := true, apart := false }
def ParaLevelsSaid : Prop := paraLevelsRow.holds Try.pinned (OpenSpec.ofChange paraLevelsSpec)

/-- ITS FALSE NEIGHBOUR: 'it returns false'. Refute it at one input. -/
def paraLevelsWrong : ChangeSpec := { name := "paraLevels", fn := fun _ => fun
  | [d1, d2, d3] => { results := [.lit (.bool false)], args := [d1, d2, d3] }
  | _ => none }
def ParaLevelsWrongFalsely : Prop := paraLevelsRow.holds Try.pinned (OpenSpec.ofChange paraLevelsWrong)

/-- 'naskhlaw20.ParaFirst': WHATEVER THE INPUT: true; the input reads as it did. -/
def paraFirstSpec : ChangeSpec := { name := "paraFirst", fn := fun _ => fun
  | [d1, d2, d3] => { results := [.lit (.bool true)], args := [d1, d2, d3] }
  | _ => none }
def paraFirstRow : OpenClaim := { program := "ytenmbhjjnfmlhaa", sum := "1efa2bf11f1bb4a70db5a78bd3d0c6a49cd2e8753ea0d59e188b123b5d02728d", func := "naskh/naskhlaw20.ParaFirst", spec := "paraFirst", unfollowed := true, recurses := true, apart := false }
def ParaFirstSaid : Prop := paraFirstRow.holds Try.pinned (OpenSpec.ofChange paraFirstSpec)

/-- ITS FALSE NEIGHBOUR: 'it returns false'. Refute it at one input. -/
def paraFirstWrong : ChangeSpec := { name := "paraFirst", fn := fun _ => fun
  | [d1, d2, d3] => { results := [.lit (.bool false)], args := [d1, d2, d3] }
  | _ => none }
def ParaFirstWrongFalsely : Prop := paraFirstRow.holds Try.pinned (OpenSpec.ofChange paraFirstWrong)

/-- 'naskhlaw20.ParaSplits': WHATEVER THE INPUT: true; the input reads as it did. -/
def paraSplitsSpec : ChangeSpec := { name := "paraSplits", fn := fun _ => fun
  | [d] => { results := [.lit (.bool true)], args := [d] }
  | _ => none }
def paraSplitsRow : OpenClaim := { program := "ytenmbhjjnfmlhaa", sum := "1efa2bf11f1bb4a70db5a78bd3d0c6a49cd2e8753ea0d59e188b123b5d02728d", func := "naskh/naskhlaw20.ParaSplits", spec := "paraSplits", unfollowed := true, recurses := true, apart := false }
def ParaSplitsSaid : Prop := paraSplitsRow.holds Try.pinned (OpenSpec.ofChange paraSplitsSpec)

/-- ITS FALSE NEIGHBOUR: 'it returns false'. Refute it at one input. -/
def paraSplitsWrong : ChangeSpec := { name := "paraSplits", fn := fun _ => fun
  | [d] => { results := [.lit (.bool false)], args := [d] }
  | _ => none }
def ParaSplitsWrongFalsely : Prop := paraSplitsRow.holds Try.pinned (OpenSpec.ofChange paraSplitsWrong)

/- THE SECOND FORM. 'bulk': how many values and letters a reading holds, each counted each time it is reached (what is shared counts as often as it is met; a slice's spare places count too). A statement '..UptoSaid' is the law's where the arguments, and the package variables that the reading takes, are together of bulk at most 1048576: NARROWER than '..Said'. Prove '..Said' where nothing that the law and all that it calls make is longer than what came in: it says more and counts as full. Else prove '..UptoSaid'. A law counts once. -/
mutual
def uptoBulk {H : Type} : DataW H → Nat
  | .lit (.string bytes) => bytes.length + 1
  | .lit _ => 1
  | .nil => 1
  | .ptr d => uptoBulk d + 1
  | .slice elems spare => uptoBulkAll elems + uptoBulkAll spare + 1
  | .agg parts => uptoBulkAll parts + 1
  | .iface _ d => uptoBulk d + 1
  | .map entries => uptoBulkEntries entries + 1
  | .held _ => 1
def uptoBulkAll {H : Type} : List (DataW H) → Nat
  | [] => 0
  | d :: r => uptoBulk d + uptoBulkAll r
def uptoBulkEntries {H : Type} : List (Lit × DataW H) → Nat
  | [] => 0
  | x :: r => uptoBulkEntry x + uptoBulkEntries r
def uptoBulkEntry {H : Type} : Lit × DataW H → Nat
  | (.string bytes, d) => bytes.length + uptoBulk d + 1
  | (_, d) => uptoBulk d + 1
 end
def uptoSmall : (H : Type) → List (DataW H) → Bool := fun _ ds => decide (uptoBulkAll ds ≤ 1048576)
def OpenSpec.upto (s : _root_.Go.ChangeSpec) : _root_.Go.OpenSpec := { _root_.Go.OpenSpec.ofChange s with cond := some uptoSmall }

/-- 'naskhlaw20.ParaMatches', WHERE WHAT IT READS IS OF BULK AT MOST 1048576: true; the input reads as it did. -/
def paraMatchesUptoRow : OpenClaim := { program := "ytenmbhjjnfmlhaa", sum := "1efa2bf11f1bb4a70db5a78bd3d0c6a49cd2e8753ea0d59e188b123b5d02728d", func := "naskh/naskhlaw20.ParaMatches", spec := "paraMatches", unfollowed := true, recurses := true, apart := false, narrowed := true }
def ParaMatchesUptoSaid : Prop := paraMatchesUptoRow.holds Try.pinned (OpenSpec.upto paraMatchesSpec)

/-- 'naskhlaw20.ParaLevels', WHERE WHAT IT READS IS OF BULK AT MOST 1048576: true; the input reads as it did. -/
def paraLevelsUptoRow : OpenClaim := { program := "ytenmbhjjnfmlhaa", sum := "1efa2bf11f1bb4a70db5a78bd3d0c6a49cd2e8753ea0d59e188b123b5d02728d", func := "naskh/naskhlaw20.ParaLevels", spec := "paraLevels", unfollowed := true, recurses := true, apart := false, narrowed := true }
def ParaLevelsUptoSaid : Prop := paraLevelsUptoRow.holds Try.pinned (OpenSpec.upto paraLevelsSpec)

/-- 'naskhlaw20.ParaFirst', WHERE WHAT IT READS IS OF BULK AT MOST 1048576: true; the input reads as it did. -/
def paraFirstUptoRow : OpenClaim := { program := "ytenmbhjjnfmlhaa", sum := "1efa2bf11f1bb4a70db5a78bd3d0c6a49cd2e8753ea0d59e188b123b5d02728d", func := "naskh/naskhlaw20.ParaFirst", spec := "paraFirst", unfollowed := true, recurses := true, apart := false, narrowed := true }
def ParaFirstUptoSaid : Prop := paraFirstUptoRow.holds Try.pinned (OpenSpec.upto paraFirstSpec)

/-- 'naskhlaw20.ParaSplits', WHERE WHAT IT READS IS OF BULK AT MOST 1048576: true; the input reads as it did. -/
def paraSplitsUptoRow : OpenClaim := { program := "ytenmbhjjnfmlhaa", sum := "1efa2bf11f1bb4a70db5a78bd3d0c6a49cd2e8753ea0d59e188b123b5d02728d", func := "naskh/naskhlaw20.ParaSplits", spec := "paraSplits", unfollowed := true, recurses := true, apart := false, narrowed := true }
def ParaSplitsUptoSaid : Prop := paraSplitsUptoRow.holds Try.pinned (OpenSpec.upto paraSplitsSpec)

end Rows
end Go.Proofs.Ytenmbhjjnfmlhaa
