/-
  No cell of these rows narrows 'for every input' (looked for: loops, veiled, ifaces, maps, wideKeys, modest, calm, conditions, laid).
  DERIVED. THE GIVEN ROWS OF THIS SEAT. 3 by the template 'for every input the law returns true; each argument reads behind the call as it read before'; 0 by the template 'total and deterministic' (their statements: YtbhkdnagicblkaaTotals.lean).
  GIVEN WITH THE SEED: the statements are not yours to turn. If you find one false, say at which input.
  Laid BY PROGRAM, IN A SANDBOX (cutbox-rows.mjs): the forced cells as the released guide's own fill.sh prints them over the translation 59d9f0fb119165af… (all of the seat's roots in one cut). By AI agents, Wed Nov 11 2026. No macro, syntax, notation, axiom, sorry.
-/
import Derived.Test.YtbhkdnagicblkaaChecked
import GoSem.Claim
import GoSem.ClaimJoined
import GoSem.ClaimMapViews
import Derived.JoinedTies
import Derived.KernelRfl
namespace Go.Proofs.Ytbhkdnagicblkaa
/- THE CELL 'sum', in the pinned program and in every row, IS THE sha256 OF THE DUMP (.gsa) THAT YtbhkdnagicblkaaProg.lean LOADS. Nothing in Lean hashes anything: it is a label: what it is worth is what the hold of that sum in a sandbox is worth. -/
noncomputable def Try.pinned : Pinned := { name := "ytbhkdnagicblkaa", sum := "59d9f0fb119165af22bde814cb933ebf482a8a2bfaae7a7a186994b1bf8e869a", checked := Try.checked }
namespace Rows
def none {H : Type} : Left H := { results := [], args := [] }

/-- 'naskhlaw07.PropsNear': WHATEVER THE INPUT: true; the input reads as it did. -/
def propsNearSpec : ChangeSpec := { name := "propsNear", fn := fun _ => fun
  | [d1, d2] => { results := [.lit (.bool true)], args := [d1, d2] }
  | _ => none }
def propsNearRow : OpenClaim := { program := "ytbhkdnagicblkaa", sum := "59d9f0fb119165af22bde814cb933ebf482a8a2bfaae7a7a186994b1bf8e869a", func := "naskh/naskhlaw07.PropsNear", spec := "propsNear", apart := false }
def PropsNearSaid : Prop := propsNearRow.holds Try.pinned (OpenSpec.ofChange propsNearSpec)

/-- ITS FALSE NEIGHBOUR: 'it returns false'. Refute it at one input. -/
def propsNearWrong : ChangeSpec := { name := "propsNear", fn := fun _ => fun
  | [d1, d2] => { results := [.lit (.bool false)], args := [d1, d2] }
  | _ => none }
def PropsNearWrongFalsely : Prop := propsNearRow.holds Try.pinned (OpenSpec.ofChange propsNearWrong)

/-- 'naskhlaw07.PropsApart': WHATEVER THE INPUT: true; the input reads as it did. -/
def propsApartSpec : ChangeSpec := { name := "propsApart", fn := fun _ => fun
  | [d] => { results := [.lit (.bool true)], args := [d] }
  | _ => none }
def propsApartRow : OpenClaim := { program := "ytbhkdnagicblkaa", sum := "59d9f0fb119165af22bde814cb933ebf482a8a2bfaae7a7a186994b1bf8e869a", func := "naskh/naskhlaw07.PropsApart", spec := "propsApart", apart := false }
def PropsApartSaid : Prop := propsApartRow.holds Try.pinned (OpenSpec.ofChange propsApartSpec)

/-- ITS FALSE NEIGHBOUR: 'it returns false'. Refute it at one input. -/
def propsApartWrong : ChangeSpec := { name := "propsApart", fn := fun _ => fun
  | [d] => { results := [.lit (.bool false)], args := [d] }
  | _ => none }
def PropsApartWrongFalsely : Prop := propsApartRow.holds Try.pinned (OpenSpec.ofChange propsApartWrong)

/-- 'naskhlaw07.PropsNobody': WHATEVER THE INPUT: true; the input reads as it did. -/
def propsNobodySpec : ChangeSpec := { name := "propsNobody", fn := fun _ => fun
  | [d] => { results := [.lit (.bool true)], args := [d] }
  | _ => none }
def propsNobodyRow : OpenClaim := { program := "ytbhkdnagicblkaa", sum := "59d9f0fb119165af22bde814cb933ebf482a8a2bfaae7a7a186994b1bf8e869a", func := "naskh/naskhlaw07.PropsNobody", spec := "propsNobody", apart := false }
def PropsNobodySaid : Prop := propsNobodyRow.holds Try.pinned (OpenSpec.ofChange propsNobodySpec)

/-- ITS FALSE NEIGHBOUR: 'it returns false'. Refute it at one input. -/
def propsNobodyWrong : ChangeSpec := { name := "propsNobody", fn := fun _ => fun
  | [d] => { results := [.lit (.bool false)], args := [d] }
  | _ => none }
def PropsNobodyWrongFalsely : Prop := propsNobodyRow.holds Try.pinned (OpenSpec.ofChange propsNobodyWrong)

/- THE SECOND FORM. 'bulk': how many values and letters a reading holds, each counted each time it is reached (what is shared counts as often as it is met; a slice's spare places count too). A statement '..UptoSaid' is the law's where the arguments, and the package variables that the reading takes, are together of bulk at most 1048576: NARROWER than '..Said'. Prove '..Said' where nothing that the law and all that it calls make is longer than what came in: it says more and counts as full. Else prove '..UptoSaid'. A law counts once. -/
mutual
def uptoBulk {H : Type} : DataW H → Nat
  | .lit (.string bytes) => bytes.length + 1
  | .lit _ => 1
  | .nil => 1
  | .ptr d => uptoBulk d + 1
  | .slice elems spare => uptoBulkAll elems + uptoBulkAll spare + 1
  | .agg parts => uptoBulkAll parts + 1
  | .iface _ d => uptoBulk d + 1
  | .map entries => uptoBulkEntries entries + 1
  | .held _ => 1
def uptoBulkAll {H : Type} : List (DataW H) → Nat
  | [] => 0
  | d :: r => uptoBulk d + uptoBulkAll r
def uptoBulkEntries {H : Type} : List (Lit × DataW H) → Nat
  | [] => 0
  | x :: r => uptoBulkEntry x + uptoBulkEntries r
def uptoBulkEntry {H : Type} : Lit × DataW H → Nat
  | (.string bytes, d) => bytes.length + uptoBulk d + 1
  | (_, d) => uptoBulk d + 1
 end
def uptoSmall : (H : Type) → List (DataW H) → Bool := fun _ ds => decide (uptoBulkAll ds ≤ 1048576)
def OpenSpec.upto (s : _root_.Go.ChangeSpec) : _root_.Go.OpenSpec := { _root_.Go.OpenSpec.ofChange s with cond := some uptoSmall }

/-- 'naskhlaw07.PropsNear', WHERE WHAT IT READS IS OF BULK AT MOST 1048576: true; the input reads as it did. -/
def propsNearUptoRow : OpenClaim := { program := "ytbhkdnagicblkaa", sum := "59d9f0fb119165af22bde814cb933ebf482a8a2bfaae7a7a186994b1bf8e869a", func := "naskh/naskhlaw07.PropsNear", spec := "propsNear", apart := false, narrowed := true }
def PropsNearUptoSaid : Prop := propsNearUptoRow.holds Try.pinned (OpenSpec.upto propsNearSpec)

/-- 'naskhlaw07.PropsApart', WHERE WHAT IT READS IS OF BULK AT MOST 1048576: true; the input reads as it did. -/
def propsApartUptoRow : OpenClaim := { program := "ytbhkdnagicblkaa", sum := "59d9f0fb119165af22bde814cb933ebf482a8a2bfaae7a7a186994b1bf8e869a", func := "naskh/naskhlaw07.PropsApart", spec := "propsApart", apart := false, narrowed := true }
def PropsApartUptoSaid : Prop := propsApartUptoRow.holds Try.pinned (OpenSpec.upto propsApartSpec)

/-- 'naskhlaw07.PropsNobody', WHERE WHAT IT READS IS OF BULK AT MOST 1048576: true; the input reads as it did. -/
def propsNobodyUptoRow : OpenClaim := { program := "ytbhkdnagicblkaa", sum := "59d9f0fb119165af22bde814cb933ebf482a8a2bfaae7a7a186994b1bf8e869a", func := "naskh/naskhlaw07.PropsNobody", spec := "propsNobody", apart := false, narrowed := true }
def PropsNobodyUptoSaid : Prop := propsNobodyUptoRow.holds Try.pinned (OpenSpec.upto propsNobodySpec)

end Rows
end Go.Proofs.Ytbhkdnagicblkaa
