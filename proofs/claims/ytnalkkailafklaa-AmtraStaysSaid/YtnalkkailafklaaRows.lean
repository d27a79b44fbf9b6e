/-
  No cell of these rows narrows 'for every input' (looked for: loops, veiled, ifaces, maps, wideKeys, modest, calm, conditions, laid).
  DERIVED. THE GIVEN ROWS OF THIS SEAT. 4 by the template 'for every input the law returns true; each argument reads behind the call as it read before'; 0 by the template 'total and deterministic' (their statements: YtnalkkailafklaaTotals.lean).
  GIVEN WITH THE SEED: the statements are not yours to turn. If you find one false, say at which input.
  Laid BY PROGRAM, IN A SANDBOX (cutbox-rows.mjs): the forced cells as the released guide's own fill.sh prints them over the translation fd67651038a349bb… (all of the seat's roots in one cut). By AI agents, Wed Nov 11 2026. No macro, syntax, notation, axiom, sorry.
-/
import Derived.Test.YtnalkkailafklaaChecked
import GoSem.Claim
import GoSem.ClaimJoined
import GoSem.ClaimMapViews
import Derived.JoinedTies
import Derived.KernelRfl
namespace Go.Proofs.Ytnalkkailafklaa
/- THE CELL 'sum', in the pinned program and in every row, IS THE sha256 OF THE DUMP (.gsa) THAT YtnalkkailafklaaProg.lean LOADS. Nothing in Lean hashes anything: it is a label: what it is worth is what the hold of that sum in a sandbox is worth. -/
noncomputable def Try.pinned : Pinned := { name := "ytnalkkailafklaa", sum := "fd67651038a349bb45e5ec837e2d15d21a646acb9348796e3f926d8ceff632eb", checked := Try.checked }
namespace Rows
def none {H : Type} : Left H := { results := [], args := [] }

/-- 'naskhlaw38.AmtraOrders': WHATEVER THE INPUT: true; the input reads as it did. -/
def amtraOrdersSpec : ChangeSpec := { name := "amtraOrders", fn := fun _ => fun
  | [d1, d2] => { results := [.lit (.bool true)], args := [d1, d2] }
  | _ => none }
def amtraOrdersRow : OpenClaim := { program := "ytnalkkailafklaa", sum := "fd67651038a349bb45e5ec837e2d15d21a646acb9348796e3f926d8ceff632eb", func := "naskh/naskhlaw38.AmtraOrders", spec := "amtraOrders", unfollowed := true, recurses := true, apart := false }
def AmtraOrdersSaid : Prop := amtraOrdersRow.holds Try.pinned (OpenSpec.ofChange amtraOrdersSpec)

/-- ITS FALSE NEIGHBOUR: 'it returns false'. Refute it at one input. -/
def amtraOrdersWrong : ChangeSpec := { name := "amtraOrders", fn := fun _ => fun
  | [d1, d2] => { results := [.lit (.bool false)], args := [d1, d2] }
  | _ => none }
def AmtraOrdersWrongFalsely : Prop := amtraOrdersRow.holds Try.pinned (OpenSpec.ofChange amtraOrdersWrong)

/-- 'naskhlaw38.AmtraTwice': WHATEVER THE INPUT: true; the input reads as it did. -/
def amtraTwiceSpec : ChangeSpec := { name := "amtraTwice", fn := fun _ => fun
  | [d] => { results := [.lit (.bool true)], args := [d] }
  | _ => none }
def amtraTwiceRow : OpenClaim := { program := "ytnalkkailafklaa", sum := "fd67651038a349bb45e5ec837e2d15d21a646acb9348796e3f926d8ceff632eb", func := "naskh/naskhlaw38.AmtraTwice", spec := "amtraTwice", unfollowed := true, recurses := true, apart := false }
def AmtraTwiceSaid : Prop := amtraTwiceRow.holds Try.pinned (OpenSpec.ofChange amtraTwiceSpec)

/-- ITS FALSE NEIGHBOUR: 'it returns false'. Refute it at one input. -/
def amtraTwiceWrong : ChangeSpec := { name := "amtraTwice", fn := fun _ => fun
  | [d] => { results := [.lit (.bool false)], args := [d] }
  | _ => none }
def AmtraTwiceWrongFalsely : Prop := amtraTwiceRow.holds Try.pinned (OpenSpec.ofChange amtraTwiceWrong)

/-- 'naskhlaw38.AmtraAlike': WHATEVER THE INPUT: true; the input reads as it did. -/
def amtraAlikeSpec : ChangeSpec := { name := "amtraAlike", fn := fun _ => fun
  | [d] => { results := [.lit (.bool true)], args := [d] }
  | _ => none }
def amtraAlikeRow : OpenClaim := { program := "ytnalkkailafklaa", sum := "fd67651038a349bb45e5ec837e2d15d21a646acb9348796e3f926d8ceff632eb", func := "naskh/naskhlaw38.AmtraAlike", spec := "amtraAlike", unfollowed := true, recurses := true, apart := false }
def AmtraAlikeSaid : Prop := amtraAlikeRow.holds Try.pinned (OpenSpec.ofChange amtraAlikeSpec)

/-- ITS FALSE NEIGHBOUR: 'it returns false'. Refute it at one input. -/
def amtraAlikeWrong : ChangeSpec := { name := "amtraAlike", fn := fun _ => fun
  | [d] => { results := [.lit (.bool false)], args := [d] }
  | _ => none }
def AmtraAlikeWrongFalsely : Prop := amtraAlikeRow.holds Try.pinned (OpenSpec.ofChange amtraAlikeWrong)

/-- 'naskhlaw38.AmtraStays': WHATEVER THE INPUT: true; the input reads as it did. -/
def amtraStaysSpec : ChangeSpec := { name := "amtraStays", fn := fun _ => fun
  | [d] => { results := [.lit (.bool true)], args := [d] }
  | _ => none }
def amtraStaysRow : OpenClaim := { program := "ytnalkkailafklaa", sum := "fd67651038a349bb45e5ec837e2d15d21a646acb9348796e3f926d8ceff632eb", func := "naskh/naskhlaw38.AmtraStays", spec := "amtraStays", unfollowed := true, recurses := true, apart := false }
def AmtraStaysSaid : Prop := amtraStaysRow.holds Try.pinned (OpenSpec.ofChange amtraStaysSpec)

/-- ITS FALSE NEIGHBOUR: 'it returns false'. Refute it at one input. -/
def amtraStaysWrong : ChangeSpec := { name := "amtraStays", fn := fun _ => fun
  | [d] => { results := [.lit (.bool false)], args := [d] }
  | _ => none }
def AmtraStaysWrongFalsely : Prop := amtraStaysRow.holds Try.pinned (OpenSpec.ofChange amtraStaysWrong)

/- THE SECOND FORM. 'bulk': how many values and letters a reading holds, each counted each time it is reached (what is shared counts as often as it is met; a slice's spare places count too). A statement '..UptoSaid' is the law's where the arguments, and the package variables that the reading takes, are together of bulk at most 1048576: NARROWER than '..Said'. Prove '..Said' where nothing that the law and all that it calls make is longer than what came in: it says more and counts as full. Else prove '..UptoSaid'. A law counts once. -/
mutual
def uptoBulk {H : Type} : DataW H → Nat
  | .lit (.string bytes) => bytes.length + 1
  | .lit _ => 1
  | .nil => 1
  | .ptr d => uptoBulk d + 1
  | .slice elems spare => uptoBulkAll elems + uptoBulkAll spare + 1
  | .agg parts => uptoBulkAll parts + 1
  | .iface _ d => uptoBulk d + 1
  | .map entries => uptoBulkEntries entries + 1
  | .held _ => 1
def uptoBulkAll {H : Type} : List (DataW H) → Nat
  | [] => 0
  | d :: r => uptoBulk d + uptoBulkAll r
def uptoBulkEntries {H : Type} : List (Lit × DataW H) → Nat
  | [] => 0
  | x :: r => uptoBulkEntry x + uptoBulkEntries r
def uptoBulkEntry {H : Type} : Lit × DataW H → Nat
  | (.string bytes, d) => bytes.length + uptoBulk d + 1
  | (_, d) => uptoBulk d + 1
 end
def uptoSmall : (H : Type) → List (DataW H) → Bool := fun _ ds => decide (uptoBulkAll ds ≤ 1048576)
def OpenSpec.upto (s : _root_.Go.ChangeSpec) : _root_.Go.OpenSpec := { _root_.Go.OpenSpec.ofChange s with cond := some uptoSmall }

/-- 'naskhlaw38.AmtraOrders', WHERE WHAT IT READS IS OF BULK AT MOST 1048576: true; the input reads as it did. -/
def amtraOrdersUptoRow : OpenClaim := { program := "ytnalkkailafklaa", sum := "fd67651038a349bb45e5ec837e2d15d21a646acb9348796e3f926d8ceff632eb", func := "naskh/naskhlaw38.AmtraOrders", spec := "amtraOrders", unfollowed := true, recurses := true, apart := false, narrowed := true }
def AmtraOrdersUptoSaid : Prop := amtraOrdersUptoRow.holds Try.pinned (OpenSpec.upto amtraOrdersSpec)

/-- 'naskhlaw38.AmtraTwice', WHERE WHAT IT READS IS OF BULK AT MOST 1048576: true; the input reads as it did. -/
def amtraTwiceUptoRow : OpenClaim := { program := "ytnalkkailafklaa", sum := "fd67651038a349bb45e5ec837e2d15d21a646acb9348796e3f926d8ceff632eb", func := "naskh/naskhlaw38.AmtraTwice", spec := "amtraTwice", unfollowed := true, recurses := true, apart := false, narrowed := true }
def AmtraTwiceUptoSaid : Prop := amtraTwiceUptoRow.holds Try.pinned (OpenSpec.upto amtraTwiceSpec)

/-- 'naskhlaw38.AmtraAlike', WHERE WHAT IT READS IS OF BULK AT MOST 1048576: true; the input reads as it did. -/
def amtraAlikeUptoRow : OpenClaim := { program := "ytnalkkailafklaa", sum := "fd67651038a349bb45e5ec837e2d15d21a646acb9348796e3f926d8ceff632eb", func := "naskh/naskhlaw38.AmtraAlike", spec := "amtraAlike", unfollowed := true, recurses := true, apart := false, narrowed := true }
def AmtraAlikeUptoSaid : Prop := amtraAlikeUptoRow.holds Try.pinned (OpenSpec.upto amtraAlikeSpec)

/-- 'naskhlaw38.AmtraStays', WHERE WHAT IT READS IS OF BULK AT MOST 1048576: true; the input reads as it did. -/
def amtraStaysUptoRow : OpenClaim := { program := "ytnalkkailafklaa", sum := "fd67651038a349bb45e5ec837e2d15d21a646acb9348796e3f926d8ceff632eb", func := "naskh/naskhlaw38.AmtraStays", spec := "amtraStays", unfollowed := true, recurses := true, apart := false, narrowed := true }
def AmtraStaysUptoSaid : Prop := amtraStaysUptoRow.holds Try.pinned (OpenSpec.upto amtraStaysSpec)

end Rows
end Go.Proofs.Ytnalkkailafklaa
