/-
  No cell of these rows narrows 'for every input' (looked for: loops, veiled, ifaces, maps, wideKeys, modest, calm, conditions, laid).
  DERIVED. THE GIVEN ROWS OF THIS SEAT. 4 by the template 'for every input the law returns true; each argument reads behind the call as it read before'; 0 by the template 'total and deterministic' (their statements: YtdkhfgkcgioidaaTotals.lean).
  GIVEN WITH THE SEED: the statements are not yours to turn. If you find one false, say at which input.
  Laid BY PROGRAM, IN A SANDBOX (cutbox-rows.mjs): the forced cells as the released guide's own fill.sh prints them over the translation 60c0390668f93493… (all of the seat's roots in one cut). By AI agents, Wed Nov 11 2026. No macro, syntax, notation, axiom, sorry.
-/
import Derived.Test.YtdkhfgkcgioidaaChecked
import GoSem.Claim
import GoSem.ClaimJoined
import GoSem.ClaimMapViews
import Derived.JoinedTies
import Derived.KernelRfl
namespace Go.Proofs.Ytdkhfgkcgioidaa
/- THE CELL 'sum', in the pinned program and in every row, IS THE sha256 OF THE DUMP (.gsa) THAT YtdkhfgkcgioidaaProg.lean LOADS. Nothing in Lean hashes anything: it is a label: what it is worth is what the hold of that sum in a sandbox is worth. -/
noncomputable def Try.pinned : Pinned := { name := "ytdkhfgkcgioidaa", sum := "60c0390668f93493fb04eb9365ed4b3d3744b9fa3c74fdec46cb846eaf535780", checked := Try.checked }
namespace Rows
def none {H : Type} : Left H := { results := [], args := [] }

/-- 'naskhlaw41.WidthFits': WHATEVER THE INPUT: true; the input reads as it did. -/
def widthFitsSpec : ChangeSpec := { name := "widthFits", fn := fun _ => fun
  | [d1, d2] => { results := [.lit (.bool true)], args := [d1, d2] }
  | _ => none }
def widthFitsRow : OpenClaim := { program := "ytdkhfgkcgioidaa", sum := "60c0390668f93493fb04eb9365ed4b3d3744b9fa3c74fdec46cb846eaf535780", func := "naskh/naskhlaw41.WidthFits", spec := "widthFits", apart := false }
def WidthFitsSaid : Prop := widthFitsRow.holds Try.pinned (OpenSpec.ofChange widthFitsSpec)

/-- ITS FALSE NEIGHBOUR: 'it returns false'. Refute it at one input. -/
def widthFitsWrong : ChangeSpec := { name := "widthFits", fn := fun _ => fun
  | [d1, d2] => { results := [.lit (.bool false)], args := [d1, d2] }
  | _ => none }
def WidthFitsWrongFalsely : Prop := widthFitsRow.holds Try.pinned (OpenSpec.ofChange widthFitsWrong)

/-- 'naskhlaw41.WidthNobody': WHATEVER THE INPUT: true; the input reads as it did. -/
def widthNobodySpec : ChangeSpec := { name := "widthNobody", fn := fun _ => fun
  | [d1, d2] => { results := [.lit (.bool true)], args := [d1, d2] }
  | _ => none }
def widthNobodyRow : OpenClaim := { program := "ytdkhfgkcgioidaa", sum := "60c0390668f93493fb04eb9365ed4b3d3744b9fa3c74fdec46cb846eaf535780", func := "naskh/naskhlaw41.WidthNobody", spec := "widthNobody", apart := false }
def WidthNobodySaid : Prop := widthNobodyRow.holds Try.pinned (OpenSpec.ofChange widthNobodySpec)

/-- ITS FALSE NEIGHBOUR: 'it returns false'. Refute it at one input. -/
def widthNobodyWrong : ChangeSpec := { name := "widthNobody", fn := fun _ => fun
  | [d1, d2] => { results := [.lit (.bool false)], args := [d1, d2] }
  | _ => none }
def WidthNobodyWrongFalsely : Prop := widthNobodyRow.holds Try.pinned (OpenSpec.ofChange widthNobodyWrong)

/-- 'naskhlaw41.WidthAdds': WHATEVER THE INPUT: true; the input reads as it did. -/
def widthAddsSpec : ChangeSpec := { name := "widthAdds", fn := fun _ => fun
  | [d1, d2] => { results := [.lit (.bool true)], args := [d1, d2] }
  | _ => none }
def widthAddsRow : OpenClaim := { program := "ytdkhfgkcgioidaa", sum := "60c0390668f93493fb04eb9365ed4b3d3744b9fa3c74fdec46cb846eaf535780", func := "naskh/naskhlaw41.WidthAdds", spec := "widthAdds", apart := false }
def WidthAddsSaid : Prop := widthAddsRow.holds Try.pinned (OpenSpec.ofChange widthAddsSpec)

/-- ITS FALSE NEIGHBOUR: 'it returns false'. Refute it at one input. -/
def widthAddsWrong : ChangeSpec := { name := "widthAdds", fn := fun _ => fun
  | [d1, d2] => { results := [.lit (.bool false)], args := [d1, d2] }
  | _ => none }
def WidthAddsWrongFalsely : Prop := widthAddsRow.holds Try.pinned (OpenSpec.ofChange widthAddsWrong)

/-- 'naskhlaw41.WidthTells': WHATEVER THE INPUT: true; the input reads as it did. -/
def widthTellsSpec : ChangeSpec := { name := "widthTells", fn := fun _ => fun
  | [d1, d2, d3, d4] => { results := [.lit (.bool true)], args := [d1, d2, d3, d4] }
  | _ => none }
def widthTellsRow : OpenClaim := { program := "ytdkhfgkcgioidaa", sum := "60c0390668f93493fb04eb9365ed4b3d3744b9fa3c74fdec46cb846eaf535780", func := "naskh/naskhlaw41.WidthTells", spec := "widthTells", apart := false }
def WidthTellsSaid : Prop := widthTellsRow.holds Try.pinned (OpenSpec.ofChange widthTellsSpec)

/-- ITS FALSE NEIGHBOUR: 'it returns false'. Refute it at one input. -/
def widthTellsWrong : ChangeSpec := { name := "widthTells", fn := fun _ => fun
  | [d1, d2, d3, d4] => { results := [.lit (.bool false)], args := [d1, d2, d3, d4] }
  | _ => none }
def WidthTellsWrongFalsely : Prop := widthTellsRow.holds Try.pinned (OpenSpec.ofChange widthTellsWrong)

/- THE SECOND FORM. 'bulk': how many values and letters a reading holds, each counted each time it is reached (what is shared counts as often as it is met; a slice's spare places count too). A statement '..UptoSaid' is the law's where the arguments, and the package variables that the reading takes, are together of bulk at most 1048576: NARROWER than '..Said'. Prove '..Said' where nothing that the law and all that it calls make is longer than what came in: it says more and counts as full. Else prove '..UptoSaid'. A law counts once. -/
mutual
def uptoBulk {H : Type} : DataW H → Nat
  | .lit (.string bytes) => bytes.length + 1
  | .lit _ => 1
  | .nil => 1
  | .ptr d => uptoBulk d + 1
  | .slice elems spare => uptoBulkAll elems + uptoBulkAll spare + 1
  | .agg parts => uptoBulkAll parts + 1
  | .iface _ d => uptoBulk d + 1
  | .map entries => uptoBulkEntries entries + 1
  | .held _ => 1
def uptoBulkAll {H : Type} : List (DataW H) → Nat
  | [] => 0
  | d :: r => uptoBulk d + uptoBulkAll r
def uptoBulkEntries {H : Type} : List (Lit × DataW H) → Nat
  | [] => 0
  | x :: r => uptoBulkEntry x + uptoBulkEntries r
def uptoBulkEntry {H : Type} : Lit × DataW H → Nat
  | (.string bytes, d) => bytes.length + uptoBulk d + 1
  | (_, d) => uptoBulk d + 1
 end
def uptoSmall : (H : Type) → List (DataW H) → Bool := fun _ ds => decide (uptoBulkAll ds ≤ 1048576)
def OpenSpec.upto (s : _root_.Go.ChangeSpec) : _root_.Go.OpenSpec := { _root_.Go.OpenSpec.ofChange s with cond := some uptoSmall }

/-- 'naskhlaw41.WidthFits', WHERE WHAT IT READS IS OF BULK AT MOST 1048576: true; the input reads as it did. -/
def widthFitsUptoRow : OpenClaim := { program := "ytdkhfgkcgioidaa", sum := "60c0390668f93493fb04eb9365ed4b3d3744b9fa3c74fdec46cb846eaf535780", func := "naskh/naskhlaw41.WidthFits", spec := "widthFits", apart := false, narrowed := true }
def WidthFitsUptoSaid : Prop := widthFitsUptoRow.holds Try.pinned (OpenSpec.upto widthFitsSpec)

/-- 'naskhlaw41.WidthNobody', WHERE WHAT IT READS IS OF BULK AT MOST 1048576: true; the input reads as it did. -/
def widthNobodyUptoRow : OpenClaim := { program := "ytdkhfgkcgioidaa", sum := "60c0390668f93493fb04eb9365ed4b3d3744b9fa3c74fdec46cb846eaf535780", func := "naskh/naskhlaw41.WidthNobody", spec := "widthNobody", apart := false, narrowed := true }
def WidthNobodyUptoSaid : Prop := widthNobodyUptoRow.holds Try.pinned (OpenSpec.upto widthNobodySpec)

/-- 'naskhlaw41.WidthAdds', WHERE WHAT IT READS IS OF BULK AT MOST 1048576: true; the input reads as it did. -/
def widthAddsUptoRow : OpenClaim := { program := "ytdkhfgkcgioidaa", sum := "60c0390668f93493fb04eb9365ed4b3d3744b9fa3c74fdec46cb846eaf535780", func := "naskh/naskhlaw41.WidthAdds", spec := "widthAdds", apart := false, narrowed := true }
def WidthAddsUptoSaid : Prop := widthAddsUptoRow.holds Try.pinned (OpenSpec.upto widthAddsSpec)

/-- 'naskhlaw41.WidthTells', WHERE WHAT IT READS IS OF BULK AT MOST 1048576: true; the input reads as it did. -/
def widthTellsUptoRow : OpenClaim := { program := "ytdkhfgkcgioidaa", sum := "60c0390668f93493fb04eb9365ed4b3d3744b9fa3c74fdec46cb846eaf535780", func := "naskh/naskhlaw41.WidthTells", spec := "widthTells", apart := false, narrowed := true }
def WidthTellsUptoSaid : Prop := widthTellsUptoRow.holds Try.pinned (OpenSpec.upto widthTellsSpec)

end Rows
end Go.Proofs.Ytdkhfgkcgioidaa
