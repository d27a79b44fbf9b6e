/-
  No cell of these rows narrows 'for every input' (looked for: loops, veiled, ifaces, maps, wideKeys, modest, calm, conditions, laid).
  DERIVED. THE GIVEN ROWS OF THIS SEAT. 3 by the template 'for every input the law returns true; each argument reads behind the call as it read before'; 0 by the template 'total and deterministic' (their statements: YtjabiegaeflhjaaTotals.lean).
  GIVEN WITH THE SEED: the statements are not yours to turn. If you find one false, say at which input.
  Laid BY PROGRAM, IN A SANDBOX (cutbox-rows.mjs): the forced cells as the released guide's own fill.sh prints them over the translation e10d00b1d08038cd… (all of the seat's roots in one cut). By AI agents, Wed Nov 11 2026. No macro, syntax, notation, axiom, sorry.
-/
import Derived.Test.YtjabiegaeflhjaaChecked
import GoSem.Claim
import GoSem.ClaimJoined
import GoSem.ClaimMapViews
import Derived.JoinedTies
import Derived.KernelRfl
namespace Go.Proofs.Ytjabiegaeflhjaa
/- THE CELL 'sum', in the pinned program and in every row, IS THE sha256 OF THE DUMP (.gsa) THAT YtjabiegaeflhjaaProg.lean LOADS. Nothing in Lean hashes anything: it is a label: what it is worth is what the hold of that sum in a sandbox is worth. -/
noncomputable def Try.pinned : Pinned := { name := "ytjabiegaeflhjaa", sum := "e10d00b1d08038cdc5fe878b91cdc1ecd702193360f3e537f720e636617a432e", checked := Try.checked }
namespace Rows
def none {H : Type} : Left H := { results := [], args := [] }

/-- 'naskhlaw46.FlipTells': WHATEVER THE INPUT: true; the input reads as it did. -/
def flipTellsSpec : ChangeSpec := { name := "flipTells", fn := fun _ => fun
  | [d1, d2, d3, d4] => { results := [.lit (.bool true)], args := [d1, d2, d3, d4] }
  | _ => none }
def flipTellsRow : OpenClaim := { program := "ytjabiegaeflhjaa", sum := "e10d00b1d08038cdc5fe878b91cdc1ecd702193360f3e537f720e636617a432e", func := "naskh/naskhlaw46.FlipTells", spec := "flipTells", unfollowed := true, recurses := true, apart := false }
def FlipTellsSaid : Prop := flipTellsRow.holds Try.pinned (OpenSpec.ofChange flipTellsSpec)

/-- ITS FALSE NEIGHBOUR: 'it returns false'. Refute it at one input. -/
def flipTellsWrong : ChangeSpec := { name := "flipTells", fn := fun _ => fun
  | [d1, d2, d3, d4] => { results := [.lit (.bool false)], args := [d1, d2, d3, d4] }
  | _ => none }
def FlipTellsWrongFalsely : Prop := flipTellsRow.holds Try.pinned (OpenSpec.ofChange flipTellsWrong)

/-- 'naskhlaw46.FlipBack': WHATEVER THE INPUT: true; the input reads as it did. -/
def flipBackSpec : ChangeSpec := { name := "flipBack", fn := fun _ => fun
  | [d1, d2, d3] => { results := [.lit (.bool true)], args := [d1, d2, d3] }
  | _ => none }
def flipBackRow : OpenClaim := { program := "ytjabiegaeflhjaa", sum := "e10d00b1d08038cdc5fe878b91cdc1ecd702193360f3e537f720e636617a432e", func := "naskh/naskhlaw46.FlipBack", spec := "flipBack", unfollowed := true, recurses := true, apart := false }
def FlipBackSaid : Prop := flipBackRow.holds Try.pinned (OpenSpec.ofChange flipBackSpec)

/-- ITS FALSE NEIGHBOUR: 'it returns false'. Refute it at one input. -/
def flipBackWrong : ChangeSpec := { name := "flipBack", fn := fun _ => fun
  | [d1, d2, d3] => { results := [.lit (.bool false)], args := [d1, d2, d3] }
  | _ => none }
def FlipBackWrongFalsely : Prop := flipBackRow.holds Try.pinned (OpenSpec.ofChange flipBackWrong)

/-- 'naskhlaw46.FlipChunks': WHATEVER THE INPUT: true; the input reads as it did. -/
def flipChunksSpec : ChangeSpec := { name := "flipChunks", fn := fun _ => fun
  | [d1, d2] => { results := [.lit (.bool true)], args := [d1, d2] }
  | _ => none }
def flipChunksRow : OpenClaim := { program := "ytjabiegaeflhjaa", sum := "e10d00b1d08038cdc5fe878b91cdc1ecd702193360f3e537f720e636617a432e", func := "naskh/naskhlaw46.FlipChunks", spec := "flipChunks", unfollowed := true, recurses := true, apart := false }
def FlipChunksSaid : Prop := flipChunksRow.holds Try.pinned (OpenSpec.ofChange flipChunksSpec)

/-- ITS FALSE NEIGHBOUR: 'it returns false'. Refute it at one input. -/
def flipChunksWrong : ChangeSpec := { name := "flipChunks", fn := fun _ => fun
  | [d1, d2] => { results := [.lit (.bool false)], args := [d1, d2] }
  | _ => none }
def FlipChunksWrongFalsely : Prop := flipChunksRow.holds Try.pinned (OpenSpec.ofChange flipChunksWrong)

/- THE SECOND FORM. 'bulk': how many values and letters a reading holds, each counted each time it is reached (what is shared counts as often as it is met; a slice's spare places count too). A statement '..UptoSaid' is the law's where the arguments, and the package variables that the reading takes, are together of bulk at most 1048576: NARROWER than '..Said'. Prove '..Said' where nothing that the law and all that it calls make is longer than what came in: it says more and counts as full. Else prove '..UptoSaid'. A law counts once. -/
mutual
def uptoBulk {H : Type} : DataW H → Nat
  | .lit (.string bytes) => bytes.length + 1
  | .lit _ => 1
  | .nil => 1
  | .ptr d => uptoBulk d + 1
  | .slice elems spare => uptoBulkAll elems + uptoBulkAll spare + 1
  | .agg parts => uptoBulkAll parts + 1
  | .iface _ d => uptoBulk d + 1
  | .map entries => uptoBulkEntries entries + 1
  | .held _ => 1
def uptoBulkAll {H : Type} : List (DataW H) → Nat
  | [] => 0
  | d :: r => uptoBulk d + uptoBulkAll r
def uptoBulkEntries {H : Type} : List (Lit × DataW H) → Nat
  | [] => 0
  | x :: r => uptoBulkEntry x + uptoBulkEntries r
def uptoBulkEntry {H : Type} : Lit × DataW H → Nat
  | (.string bytes, d) => bytes.length + uptoBulk d + 1
  | (_, d) => uptoBulk d + 1
 end
def uptoSmall : (H : Type) → List (DataW H) → Bool := fun _ ds => decide (uptoBulkAll ds ≤ 1048576)
def OpenSpec.upto (s : _root_.Go.ChangeSpec) : _root_.Go.OpenSpec := { _root_.Go.OpenSpec.ofChange s with cond := some uptoSmall }

/-- 'naskhlaw46.FlipTells', WHERE WHAT IT READS IS OF BULK AT MOST 1048576: true; the input reads as it did. -/
def flipTellsUptoRow : OpenClaim := { program := "ytjabiegaeflhjaa", sum := "e10d00b1d08038cdc5fe878b91cdc1ecd702193360f3e537f720e636617a432e", func := "naskh/naskhlaw46.FlipTells", spec := "flipTells", unfollowed := true, recurses := true, apart := false, narrowed := true }
def FlipTellsUptoSaid : Prop := flipTellsUptoRow.holds Try.pinned (OpenSpec.upto flipTellsSpec)

/-- 'naskhlaw46.FlipBack', WHERE WHAT IT READS IS OF BULK AT MOST 1048576: true; the input reads as it did. -/
def flipBackUptoRow : OpenClaim := { program := "ytjabiegaeflhjaa", sum := "e10d00b1d08038cdc5fe878b91cdc1ecd702193360f3e537f720e636617a432e", func := "naskh/naskhlaw46.FlipBack", spec := "flipBack", unfollowed := true, recurses := true, apart := false, narrowed := true }
def FlipBackUptoSaid : Prop := flipBackUptoRow.holds Try.pinned (OpenSpec.upto flipBackSpec)

/-- 'naskhlaw46.FlipChunks', WHERE WHAT IT READS IS OF BULK AT MOST 1048576: true; the input reads as it did. -/
def flipChunksUptoRow : OpenClaim := { program := "ytjabiegaeflhjaa", sum := "e10d00b1d08038cdc5fe878b91cdc1ecd702193360f3e537f720e636617a432e", func := "naskh/naskhlaw46.FlipChunks", spec := "flipChunks", unfollowed := true, recurses := true, apart := false, narrowed := true }
def FlipChunksUptoSaid : Prop := flipChunksUptoRow.holds Try.pinned (OpenSpec.upto flipChunksSpec)

end Rows
end Go.Proofs.Ytjabiegaeflhjaa
