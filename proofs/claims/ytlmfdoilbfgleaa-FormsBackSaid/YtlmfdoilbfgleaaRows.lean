/-
  No cell of these rows narrows 'for every input' (looked for: loops, veiled, ifaces, maps, wideKeys, modest, calm, conditions, laid).
  DERIVED. THE GIVEN ROWS OF THIS SEAT. 4 by the template 'for every input the law returns true; each argument reads behind the call as it read before'; 0 by the template 'total and deterministic' (their statements: YtlmfdoilbfgleaaTotals.lean).
  GIVEN WITH THE SEED: the statements are not yours to turn. If you find one false, say at which input.
  Laid BY PROGRAM, IN A SANDBOX (cutbox-rows.mjs): the forced cells as the released guide's own fill.sh prints them over the translation e48786d6dbb32fc2… (all of the seat's roots in one cut). By AI agents, Wed Nov 11 2026. No macro, syntax, notation, axiom, sorry.
-/
import Derived.Test.YtlmfdoilbfgleaaChecked
import GoSem.Claim
import GoSem.ClaimJoined
import GoSem.ClaimMapViews
import Derived.JoinedTies
import Derived.KernelRfl
namespace Go.Proofs.Ytlmfdoilbfgleaa
/- THE CELL 'sum', in the pinned program and in every row, IS THE sha256 OF THE DUMP (.gsa) THAT YtlmfdoilbfgleaaProg.lean LOADS. Nothing in Lean hashes anything: it is a label: what it is worth is what the hold of that sum in a sandbox is worth. -/
noncomputable def Try.pinned : Pinned := { name := "ytlmfdoilbfgleaa", sum := "e48786d6dbb32fc27fd191a724c950897a564bab90ef4b391f878053245571fc", checked := Try.checked }
namespace Rows
def none {H : Type} : Left H := { results := [], args := [] }

/-- 'naskhlaw09.FormsTakes': WHATEVER THE INPUT: true; the input reads as it did. -/
def formsTakesSpec : ChangeSpec := { name := "formsTakes", fn := fun _ => fun
  | [d] => { results := [.lit (.bool true)], args := [d] }
  | _ => none }
def formsTakesRow : OpenClaim := { program := "ytlmfdoilbfgleaa", sum := "e48786d6dbb32fc27fd191a724c950897a564bab90ef4b391f878053245571fc", func := "naskh/naskhlaw09.FormsTakes", spec := "formsTakes", unfollowed := true, recurses := true, apart := false }
def FormsTakesSaid : Prop := formsTakesRow.holds Try.pinned (OpenSpec.ofChange formsTakesSpec)

/-- ITS FALSE NEIGHBOUR: 'it returns false'. Refute it at one input. -/
def formsTakesWrong : ChangeSpec := { name := "formsTakes", fn := fun _ => fun
  | [d] => { results := [.lit (.bool false)], args := [d] }
  | _ => none }
def FormsTakesWrongFalsely : Prop := formsTakesRow.holds Try.pinned (OpenSpec.ofChange formsTakesWrong)

/-- 'naskhlaw09.FormsMarks': WHATEVER THE INPUT: true; the input reads as it did. -/
def formsMarksSpec : ChangeSpec := { name := "formsMarks", fn := fun _ => fun
  | [d1, d2] => { results := [.lit (.bool true)], args := [d1, d2] }
  | _ => none }
def formsMarksRow : OpenClaim := { program := "ytlmfdoilbfgleaa", sum := "e48786d6dbb32fc27fd191a724c950897a564bab90ef4b391f878053245571fc", func := "naskh/naskhlaw09.FormsMarks", spec := "formsMarks", unfollowed := true, recurses := true, apart := false }
def FormsMarksSaid : Prop := formsMarksRow.holds Try.pinned (OpenSpec.ofChange formsMarksSpec)

/-- ITS FALSE NEIGHBOUR: 'it returns false'. Refute it at one input. -/
def formsMarksWrong : ChangeSpec := { name := "formsMarks", fn := fun _ => fun
  | [d1, d2] => { results := [.lit (.bool false)], args := [d1, d2] }
  | _ => none }
def FormsMarksWrongFalsely : Prop := formsMarksRow.holds Try.pinned (OpenSpec.ofChange formsMarksWrong)

/-- 'naskhlaw09.FormsGives': WHATEVER THE INPUT: true; the input reads as it did. -/
def formsGivesSpec : ChangeSpec := { name := "formsGives", fn := fun _ => fun
  | [d1, d2] => { results := [.lit (.bool true)], args := [d1, d2] }
  | _ => none }
def formsGivesRow : OpenClaim := { program := "ytlmfdoilbfgleaa", sum := "e48786d6dbb32fc27fd191a724c950897a564bab90ef4b391f878053245571fc", func := "naskh/naskhlaw09.FormsGives", spec := "formsGives", unfollowed := true, recurses := true, apart := false }
def FormsGivesSaid : Prop := formsGivesRow.holds Try.pinned (OpenSpec.ofChange formsGivesSpec)

/-- ITS FALSE NEIGHBOUR: 'it returns false'. Refute it at one input. -/
def formsGivesWrong : ChangeSpec := { name := "formsGives", fn := fun _ => fun
  | [d1, d2] => { results := [.lit (.bool false)], args := [d1, d2] }
  | _ => none }
def FormsGivesWrongFalsely : Prop := formsGivesRow.holds Try.pinned (OpenSpec.ofChange formsGivesWrong)

/-- 'naskhlaw09.FormsBack': WHATEVER THE INPUT: true; the input reads as it did. -/
def formsBackSpec : ChangeSpec := { name := "formsBack", fn := fun _ => fun
  | [d1, d2, d3] => { results := [.lit (.bool true)], args := [d1, d2, d3] }
  | _ => none }
def formsBackRow : OpenClaim := { program := "ytlmfdoilbfgleaa", sum := "e48786d6dbb32fc27fd191a724c950897a564bab90ef4b391f878053245571fc", func := "naskh/naskhlaw09.FormsBack", spec := "formsBack", unfollowed := true, recurses := true, apart := false }
def FormsBackSaid : Prop := formsBackRow.holds Try.pinned (OpenSpec.ofChange formsBackSpec)

/-- ITS FALSE NEIGHBOUR: 'it returns false'. Refute it at one input. -/
def formsBackWrong : ChangeSpec := { name := "formsBack", fn := fun _ => fun
  | [d1, d2, d3] => { results := [.lit (.bool false)], args := [d1, d2, d3] }
  | _ => none }
def FormsBackWrongFalsely : Prop := formsBackRow.holds Try.pinned (OpenSpec.ofChange formsBackWrong)

/- THE SECOND FORM. 'bulk': how many values and letters a reading holds, each counted each time it is reached (what is shared counts as often as it is met; a slice's spare places count too). A statement '..UptoSaid' is the law's where the arguments, and the package variables that the reading takes, are together of bulk at most 1048576: NARROWER than '..Said'. Prove '..Said' where nothing that the law and all that it calls make is longer than what came in: it says more and counts as full. Else prove '..UptoSaid'. A law counts once. -/
mutual
def uptoBulk {H : Type} : DataW H → Nat
  | .lit (.string bytes) => bytes.length + 1
  | .lit _ => 1
  | .nil => 1
  | .ptr d => uptoBulk d + 1
  | .slice elems spare => uptoBulkAll elems + uptoBulkAll spare + 1
  | .agg parts => uptoBulkAll parts + 1
  | .iface _ d => uptoBulk d + 1
  | .map entries => uptoBulkEntries entries + 1
  | .held _ => 1
def uptoBulkAll {H : Type} : List (DataW H) → Nat
  | [] => 0
  | d :: r => uptoBulk d + uptoBulkAll r
def uptoBulkEntries {H : Type} : List (Lit × DataW H) → Nat
  | [] => 0
  | x :: r => uptoBulkEntry x + uptoBulkEntries r
def uptoBulkEntry {H : Type} : Lit × DataW H → Nat
  | (.string bytes, d) => bytes.length + uptoBulk d + 1
  | (_, d) => uptoBulk d + 1
 end
def uptoSmall : (H : Type) → List (DataW H) → Bool := fun _ ds => decide (uptoBulkAll ds ≤ 1048576)
def OpenSpec.upto (s : _root_.Go.ChangeSpec) : _root_.Go.OpenSpec := { _root_.Go.OpenSpec.ofChange s with cond := some uptoSmall }

/-- 'naskhlaw09.FormsTakes', WHERE WHAT IT READS IS OF BULK AT MOST 1048576: true; the input reads as it did. -/
def formsTakesUptoRow : OpenClaim := { program := "ytlmfdoilbfgleaa", sum := "e48786d6dbb32fc27fd191a724c950897a564bab90ef4b391f878053245571fc", func := "naskh/naskhlaw09.FormsTakes", spec := "formsTakes", unfollowed := true, recurses := true, apart := false, narrowed := true }
def FormsTakesUptoSaid : Prop := formsTakesUptoRow.holds Try.pinned (OpenSpec.upto formsTakesSpec)

/-- 'naskhlaw09.FormsMarks', WHERE WHAT IT READS IS OF BULK AT MOST 1048576: true; the input reads as it did. -/
def formsMarksUptoRow : OpenClaim := { program := "ytlmfdoilbfgleaa", sum := "e48786d6dbb32fc27fd191a724c950897a564bab90ef4b391f878053245571fc", func := "naskh/naskhlaw09.FormsMarks", spec := "formsMarks", unfollowed := true, recurses := true, apart := false, narrowed := true }
def FormsMarksUptoSaid : Prop := formsMarksUptoRow.holds Try.pinned (OpenSpec.upto formsMarksSpec)

/-- 'naskhlaw09.FormsGives', WHERE WHAT IT READS IS OF BULK AT MOST 1048576: true; the input reads as it did. -/
def formsGivesUptoRow : OpenClaim := { program := "ytlmfdoilbfgleaa", sum := "e48786d6dbb32fc27fd191a724c950897a564bab90ef4b391f878053245571fc", func := "naskh/naskhlaw09.FormsGives", spec := "formsGives", unfollowed := true, recurses := true, apart := false, narrowed := true }
def FormsGivesUptoSaid : Prop := formsGivesUptoRow.holds Try.pinned (OpenSpec.upto formsGivesSpec)

/-- 'naskhlaw09.FormsBack', WHERE WHAT IT READS IS OF BULK AT MOST 1048576: true; the input reads as it did. -/
def formsBackUptoRow : OpenClaim := { program := "ytlmfdoilbfgleaa", sum := "e48786d6dbb32fc27fd191a724c950897a564bab90ef4b391f878053245571fc", func := "naskh/naskhlaw09.FormsBack", spec := "formsBack", unfollowed := true, recurses := true, apart := false, narrowed := true }
def FormsBackUptoSaid : Prop := formsBackUptoRow.holds Try.pinned (OpenSpec.upto formsBackSpec)

end Rows
end Go.Proofs.Ytlmfdoilbfgleaa
