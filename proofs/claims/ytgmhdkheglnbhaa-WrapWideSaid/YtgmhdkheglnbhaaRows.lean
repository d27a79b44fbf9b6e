/-
  No cell of these rows narrows 'for every input' (looked for: loops, veiled, ifaces, maps, wideKeys, modest, calm, conditions, laid).
  DERIVED. THE GIVEN ROWS OF THIS SEAT. 3 by the template 'for every input the law returns true; each argument reads behind the call as it read before'; 0 by the template 'total and deterministic' (their statements: YtgmhdkheglnbhaaTotals.lean).
  GIVEN WITH THE SEED: the statements are not yours to turn. If you find one false, say at which input.
  Laid BY PROGRAM, IN A SANDBOX (cutbox-rows.mjs): the forced cells as the released guide's own fill.sh prints them over the translation 6f2a4782be15e3cc… (all of the seat's roots in one cut). By AI agents, Wed Nov 11 2026. No macro, syntax, notation, axiom, sorry.
-/
import Derived.Test.YtgmhdkheglnbhaaChecked
import GoSem.Claim
import GoSem.ClaimJoined
import GoSem.ClaimMapViews
import Derived.JoinedTies
import Derived.KernelRfl
namespace Go.Proofs.Ytgmhdkheglnbhaa
/- THE CELL 'sum', in the pinned program and in every row, IS THE sha256 OF THE DUMP (.gsa) THAT YtgmhdkheglnbhaaProg.lean LOADS. Nothing in Lean hashes anything: it is a label: what it is worth is what the hold of that sum in a sandbox is worth. -/
noncomputable def Try.pinned : Pinned := { name := "ytgmhdkheglnbhaa", sum := "6f2a4782be15e3cc1eafc73d560b59cba96d12f5fbe29ac558c383965acf2e6a", checked := Try.checked }
namespace Rows
def none {H : Type} : Left H := { results := [], args := [] }

/-- 'naskhlaw43.WrapWide': WHATEVER THE INPUT: true; the input reads as it did. -/
def wrapWideSpec : ChangeSpec := { name := "wrapWide", fn := fun _ => fun
  | [d] => { results := [.lit (.bool true)], args := [d] }
  | _ => none }
def wrapWideRow : OpenClaim := { program := "ytgmhdkheglnbhaa", sum := "6f2a4782be15e3cc1eafc73d560b59cba96d12f5fbe29ac558c383965acf2e6a", func := "naskh/naskhlaw43.WrapWide", spec := "wrapWide", unfollowed := true, recurses := true, apart := false }
def WrapWideSaid : Prop := wrapWideRow.holds Try.pinned (OpenSpec.ofChange wrapWideSpec)

/-- ITS FALSE NEIGHBOUR: 'it returns false'. Refute it at one input. -/
def wrapWideWrong : ChangeSpec := { name := "wrapWide", fn := fun _ => fun
  | [d] => { results := [.lit (.bool false)], args := [d] }
  | _ => none }
def WrapWideWrongFalsely : Prop := wrapWideRow.holds Try.pinned (OpenSpec.ofChange wrapWideWrong)

/-- 'naskhlaw43.WrapFits': WHATEVER THE INPUT: true; the input reads as it did. -/
def wrapFitsSpec : ChangeSpec := { name := "wrapFits", fn := fun _ => fun
  | [d1, d2] => { results := [.lit (.bool true)], args := [d1, d2] }
  | _ => none }
def wrapFitsRow : OpenClaim := { program := "ytgmhdkheglnbhaa", sum := "6f2a4782be15e3cc1eafc73d560b59cba96d12f5fbe29ac558c383965acf2e6a", func := "naskh/naskhlaw43.WrapFits", spec := "wrapFits", unfollowed := true, recurses := true, apart := false }
def WrapFitsSaid : Prop := wrapFitsRow.holds Try.pinned (OpenSpec.ofChange wrapFitsSpec)

/-- ITS FALSE NEIGHBOUR: 'it returns false'. Refute it at one input. -/
def wrapFitsWrong : ChangeSpec := { name := "wrapFits", fn := fun _ => fun
  | [d1, d2] => { results := [.lit (.bool false)], args := [d1, d2] }
  | _ => none }
def WrapFitsWrongFalsely : Prop := wrapFitsRow.holds Try.pinned (OpenSpec.ofChange wrapFitsWrong)

/-- 'naskhlaw43.WrapBreaks': WHATEVER THE INPUT: true; the input reads as it did. -/
def wrapBreaksSpec : ChangeSpec := { name := "wrapBreaks", fn := fun _ => fun
  | [d1, d2] => { results := [.lit (.bool true)], args := [d1, d2] }
  | _ => none }
def wrapBreaksRow : OpenClaim := { program := "ytgmhdkheglnbhaa", sum := "6f2a4782be15e3cc1eafc73d560b59cba96d12f5fbe29ac558c383965acf2e6a", func := "naskh/naskhlaw43.WrapBreaks", spec := "wrapBreaks", unfollowed := true, recurses := true, apart := false }
def WrapBreaksSaid : Prop := wrapBreaksRow.holds Try.pinned (OpenSpec.ofChange wrapBreaksSpec)

/-- ITS FALSE NEIGHBOUR: 'it returns false'. Refute it at one input. -/
def wrapBreaksWrong : ChangeSpec := { name := "wrapBreaks", fn := fun _ => fun
  | [d1, d2] => { results := [.lit (.bool false)], args := [d1, d2] }
  | _ => none }
def WrapBreaksWrongFalsely : Prop := wrapBreaksRow.holds Try.pinned (OpenSpec.ofChange wrapBreaksWrong)

/- THE SECOND FORM. 'bulk': how many values and letters a reading holds, each counted each time it is reached (what is shared counts as often as it is met; a slice's spare places count too). A statement '..UptoSaid' is the law's where the arguments, and the package variables that the reading takes, are together of bulk at most 1048576: NARROWER than '..Said'. Prove '..Said' where nothing that the law and all that it calls make is longer than what came in: it says more and counts as full. Else prove '..UptoSaid'. A law counts once. -/
mutual
def uptoBulk {H : Type} : DataW H → Nat
  | .lit (.string bytes) => bytes.length + 1
  | .lit _ => 1
  | .nil => 1
  | .ptr d => uptoBulk d + 1
  | .slice elems spare => uptoBulkAll elems + uptoBulkAll spare + 1
  | .agg parts => uptoBulkAll parts + 1
  | .iface _ d => uptoBulk d + 1
  | .map entries => uptoBulkEntries entries + 1
  | .held _ => 1
def uptoBulkAll {H : Type} : List (DataW H) → Nat
  | [] => 0
  | d :: r => uptoBulk d + uptoBulkAll r
def uptoBulkEntries {H : Type} : List (Lit × DataW H) → Nat
  | [] => 0
  | x :: r => uptoBulkEntry x + uptoBulkEntries r
def uptoBulkEntry {H : Type} : Lit × DataW H → Nat
  | (.string bytes, d) => bytes.length + uptoBulk d + 1
  | (_, d) => uptoBulk d + 1
 end
def uptoSmall : (H : Type) → List (DataW H) → Bool := fun _ ds => decide (uptoBulkAll ds ≤ 1048576)
def OpenSpec.upto (s : _root_.Go.ChangeSpec) : _root_.Go.OpenSpec := { _root_.Go.OpenSpec.ofChange s with cond := some uptoSmall }

/-- 'naskhlaw43.WrapWide', WHERE WHAT IT READS IS OF BULK AT MOST 1048576: true; the input reads as it did. -/
def wrapWideUptoRow : OpenClaim := { program := "ytgmhdkheglnbhaa", sum := "6f2a4782be15e3cc1eafc73d560b59cba96d12f5fbe29ac558c383965acf2e6a", func := "naskh/naskhlaw43.WrapWide", spec := "wrapWide", unfollowed := true, recurses := true, apart := false, narrowed := true }
def WrapWideUptoSaid : Prop := wrapWideUptoRow.holds Try.pinned (OpenSpec.upto wrapWideSpec)

/-- 'naskhlaw43.WrapFits', WHERE WHAT IT READS IS OF BULK AT MOST 1048576: true; the input reads as it did. -/
def wrapFitsUptoRow : OpenClaim := { program := "ytgmhdkheglnbhaa", sum := "6f2a4782be15e3cc1eafc73d560b59cba96d12f5fbe29ac558c383965acf2e6a", func := "naskh/naskhlaw43.WrapFits", spec := "wrapFits", unfollowed := true, recurses := true, apart := false, narrowed := true }
def WrapFitsUptoSaid : Prop := wrapFitsUptoRow.holds Try.pinned (OpenSpec.upto wrapFitsSpec)

/-- 'naskhlaw43.WrapBreaks', WHERE WHAT IT READS IS OF BULK AT MOST 1048576: true; the input reads as it did. -/
def wrapBreaksUptoRow : OpenClaim := { program := "ytgmhdkheglnbhaa", sum := "6f2a4782be15e3cc1eafc73d560b59cba96d12f5fbe29ac558c383965acf2e6a", func := "naskh/naskhlaw43.WrapBreaks", spec := "wrapBreaks", unfollowed := true, recurses := true, apart := false, narrowed := true }
def WrapBreaksUptoSaid : Prop := wrapBreaksUptoRow.holds Try.pinned (OpenSpec.upto wrapBreaksSpec)

end Rows
end Go.Proofs.Ytgmhdkheglnbhaa
