/-
  No cell of these rows narrows 'for every input' (looked for: loops, veiled, ifaces, maps, wideKeys, modest, calm, conditions, laid).
  DERIVED. THE GIVEN ROWS OF THIS SEAT. 3 by the template 'for every input the law returns true; each argument reads behind the call as it read before'; 0 by the template 'total and deterministic' (their statements: YteobpmnbajnokaaTotals.lean).
  GIVEN WITH THE SEED: the statements are not yours to turn. If you find one false, say at which input.
  Laid BY PROGRAM, IN A SANDBOX (cutbox-rows.mjs): the forced cells as the released guide's own fill.sh prints them over the translation 9d021b0f28170729… (all of the seat's roots in one cut). By AI agents, Wed Nov 11 2026. No macro, syntax, notation, axiom, sorry.
-/
import Derived.Test.YteobpmnbajnokaaChecked
import GoSem.Claim
import GoSem.ClaimJoined
import GoSem.ClaimMapViews
import Derived.JoinedTies
import Derived.KernelRfl
namespace Go.Proofs.Yteobpmnbajnokaa
/- THE CELL 'sum', in the pinned program and in every row, IS THE sha256 OF THE DUMP (.gsa) THAT YteobpmnbajnokaaProg.lean LOADS. Nothing in Lean hashes anything: it is a label: what it is worth is what the hold of that sum in a sandbox is worth. -/
noncomputable def Try.pinned : Pinned := { name := "yteobpmnbajnokaa", sum := "9d021b0f28170729c85c71679f0095c6a86dee70acfc76b32f510ee7a7307085", checked := Try.checked }
namespace Rows
def none {H : Type} : Left H := { results := [], args := [] }

/-- 'naskhlaw16.TailGives': WHATEVER THE INPUT: true; the input reads as it did. -/
def tailGivesSpec : ChangeSpec := { name := "tailGives", fn := fun _ => fun
  | [d1, d2, d3, d4] => { results := [.lit (.bool true)], args := [d1, d2, d3, d4] }
  | _ => none }
def tailGivesRow : OpenClaim := { program := "yteobpmnbajnokaa", sum := "9d021b0f28170729c85c71679f0095c6a86dee70acfc76b32f510ee7a7307085", func := "naskh/naskhlaw16.TailGives", spec := "tailGives", unfollowed := true, recurses := true, apart := false }
def TailGivesSaid : Prop := tailGivesRow.holds Try.pinned (OpenSpec.ofChange tailGivesSpec)

/-- ITS FALSE NEIGHBOUR: 'it returns false'. Refute it at one input. -/
def tailGivesWrong : ChangeSpec := { name := "tailGives", fn := fun _ => fun
  | [d1, d2, d3, d4] => { results := [.lit (.bool false)], args := [d1, d2, d3, d4] }
  | _ => none }
def TailGivesWrongFalsely : Prop := tailGivesRow.holds Try.pinned (OpenSpec.ofChange tailGivesWrong)

/-- 'naskhlaw16.TailTakes': WHATEVER THE INPUT: true; the input reads as it did. -/
def tailTakesSpec : ChangeSpec := { name := "tailTakes", fn := fun _ => fun
  | [d1, d2, d3, d4] => { results := [.lit (.bool true)], args := [d1, d2, d3, d4] }
  | _ => none }
def tailTakesRow : OpenClaim := { program := "yteobpmnbajnokaa", sum := "9d021b0f28170729c85c71679f0095c6a86dee70acfc76b32f510ee7a7307085", func := "naskh/naskhlaw16.TailTakes", spec := "tailTakes", unfollowed := true, recurses := true, apart := false }
def TailTakesSaid : Prop := tailTakesRow.holds Try.pinned (OpenSpec.ofChange tailTakesSpec)

/-- ITS FALSE NEIGHBOUR: 'it returns false'. Refute it at one input. -/
def tailTakesWrong : ChangeSpec := { name := "tailTakes", fn := fun _ => fun
  | [d1, d2, d3, d4] => { results := [.lit (.bool false)], args := [d1, d2, d3, d4] }
  | _ => none }
def TailTakesWrongFalsely : Prop := tailTakesRow.holds Try.pinned (OpenSpec.ofChange tailTakesWrong)

/-- 'naskhlaw16.TailBack': WHATEVER THE INPUT: true; the input reads as it did. -/
def tailBackSpec : ChangeSpec := { name := "tailBack", fn := fun _ => fun
  | [d1, d2, d3, d4] => { results := [.lit (.bool true)], args := [d1, d2, d3, d4] }
  | _ => none }
def tailBackRow : OpenClaim := { program := "yteobpmnbajnokaa", sum := "9d021b0f28170729c85c71679f0095c6a86dee70acfc76b32f510ee7a7307085", func := "naskh/naskhlaw16.TailBack", spec := "tailBack", unfollowed := true, recurses := true, apart := false }
def TailBackSaid : Prop := tailBackRow.holds Try.pinned (OpenSpec.ofChange tailBackSpec)

/-- ITS FALSE NEIGHBOUR: 'it returns false'. Refute it at one input. -/
def tailBackWrong : ChangeSpec := { name := "tailBack", fn := fun _ => fun
  | [d1, d2, d3, d4] => { results := [.lit (.bool false)], args := [d1, d2, d3, d4] }
  | _ => none }
def TailBackWrongFalsely : Prop := tailBackRow.holds Try.pinned (OpenSpec.ofChange tailBackWrong)

/- THE SECOND FORM. 'bulk': how many values and letters a reading holds, each counted each time it is reached (what is shared counts as often as it is met; a slice's spare places count too). A statement '..UptoSaid' is the law's where the arguments, and the package variables that the reading takes, are together of bulk at most 1048576: NARROWER than '..Said'. Prove '..Said' where nothing that the law and all that it calls make is longer than what came in: it says more and counts as full. Else prove '..UptoSaid'. A law counts once. -/
mutual
def uptoBulk {H : Type} : DataW H → Nat
  | .lit (.string bytes) => bytes.length + 1
  | .lit _ => 1
  | .nil => 1
  | .ptr d => uptoBulk d + 1
  | .slice elems spare => uptoBulkAll elems + uptoBulkAll spare + 1
  | .agg parts => uptoBulkAll parts + 1
  | .iface _ d => uptoBulk d + 1
  | .map entries => uptoBulkEntries entries + 1
  | .held _ => 1
def uptoBulkAll {H : Type} : List (DataW H) → Nat
  | [] => 0
  | d :: r => uptoBulk d + uptoBulkAll r
def uptoBulkEntries {H : Type} : List (Lit × DataW H) → Nat
  | [] => 0
  | x :: r => uptoBulkEntry x + uptoBulkEntries r
def uptoBulkEntry {H : Type} : Lit × DataW H → Nat
  | (.string bytes, d) => bytes.length + uptoBulk d + 1
  | (_, d) => uptoBulk d + 1
 end
def uptoSmall : (H : Type) → List (DataW H) → Bool := fun _ ds => decide (uptoBulkAll ds ≤ 1048576)
def OpenSpec.upto (s : _root_.Go.ChangeSpec) : _root_.Go.OpenSpec := { _root_.Go.OpenSpec.ofChange s with cond := some uptoSmall }

/-- 'naskhlaw16.TailGives', WHERE WHAT IT READS IS OF BULK AT MOST 1048576: true; the input reads as it did. -/
def tailGivesUptoRow : OpenClaim := { program := "yteobpmnbajnokaa", sum := "9d021b0f28170729c85c71679f0095c6a86dee70acfc76b32f510ee7a7307085", func := "naskh/naskhlaw16.TailGives", spec := "tailGives", unfollowed := true, recurses := true, apart := false, narrowed := true }
def TailGivesUptoSaid : Prop := tailGivesUptoRow.holds Try.pinned (OpenSpec.upto tailGivesSpec)

/-- 'naskhlaw16.TailTakes', WHERE WHAT IT READS IS OF BULK AT MOST 1048576: true; the input reads as it did. -/
def tailTakesUptoRow : OpenClaim := { program := "yteobpmnbajnokaa", sum := "9d021b0f28170729c85c71679f0095c6a86dee70acfc76b32f510ee7a7307085", func := "naskh/naskhlaw16.TailTakes", spec := "tailTakes", unfollowed := true, recurses := true, apart := false, narrowed := true }
def TailTakesUptoSaid : Prop := tailTakesUptoRow.holds Try.pinned (OpenSpec.upto tailTakesSpec)

/-- 'naskhlaw16.TailBack', WHERE WHAT IT READS IS OF BULK AT MOST 1048576: true; the input reads as it did. -/
def tailBackUptoRow : OpenClaim := { program := "yteobpmnbajnokaa", sum := "9d021b0f28170729c85c71679f0095c6a86dee70acfc76b32f510ee7a7307085", func := "naskh/naskhlaw16.TailBack", spec := "tailBack", unfollowed := true, recurses := true, apart := false, narrowed := true }
def TailBackUptoSaid : Prop := tailBackUptoRow.holds Try.pinned (OpenSpec.upto tailBackSpec)

end Rows
end Go.Proofs.Yteobpmnbajnokaa
