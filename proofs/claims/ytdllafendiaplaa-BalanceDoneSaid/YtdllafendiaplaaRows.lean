/-
  No cell of these rows narrows 'for every input' (looked for: loops, veiled, ifaces, maps, wideKeys, modest, calm, conditions, laid).
  DERIVED. THE GIVEN ROWS OF THIS SEAT. 4 by the template 'for every input the law returns true; each argument reads behind the call as it read before'; 0 by the template 'total and deterministic' (their statements: YtdllafendiaplaaTotals.lean).
  GIVEN WITH THE SEED: the statements are not yours to turn. If you find one false, say at which input.
  Laid BY PROGRAM, IN A SANDBOX (cutbox-rows.mjs): the forced cells as the released guide's own fill.sh prints them over the translation b2a3636574136ec7… (all of the seat's roots in one cut). By AI agents, Wed Nov 11 2026. No macro, syntax, notation, axiom, sorry.
-/
import Derived.Test.YtdllafendiaplaaChecked
import GoSem.Claim
import GoSem.ClaimJoined
import GoSem.ClaimMapViews
import Derived.JoinedTies
import Derived.KernelRfl
namespace Go.Proofs.Ytdllafendiaplaa
/- THE CELL 'sum', in the pinned program and in every row, IS THE sha256 OF THE DUMP (.gsa) THAT YtdllafendiaplaaProg.lean LOADS. Nothing in Lean hashes anything: it is a label: what it is worth is what the hold of that sum in a sandbox is worth. -/
noncomputable def Try.pinned : Pinned := { name := "ytdllafendiaplaa", sum := "b2a3636574136ec7e4691aa8f7283dc8da9f6f412dcc31ad2c87f39724afe482", checked := Try.checked }
namespace Rows
def none {H : Type} : Left H := { results := [], args := [] }

/-- 'naskhlaw47.BalanceTells': WHATEVER THE INPUT: true; the input reads as it did. -/
def balanceTellsSpec : ChangeSpec := { name := "balanceTells", fn := fun _ => fun
  | [d] => { results := [.lit (.bool true)], args := [d] }
  | _ => none }
def balanceTellsRow : OpenClaim := { program := "ytdllafendiaplaa", sum := "b2a3636574136ec7e4691aa8f7283dc8da9f6f412dcc31ad2c87f39724afe482", func := "naskh/naskhlaw47.BalanceTells", spec := "balanceTells", unfollowed := true, recurses := true, apart := false }
def BalanceTellsSaid : Prop := balanceTellsRow.holds Try.pinned (OpenSpec.ofChange balanceTellsSpec)

/-- ITS FALSE NEIGHBOUR: 'it returns false'. Refute it at one input. -/
def balanceTellsWrong : ChangeSpec := { name := "balanceTells", fn := fun _ => fun
  | [d] => { results := [.lit (.bool false)], args := [d] }
  | _ => none }
def BalanceTellsWrongFalsely : Prop := balanceTellsRow.holds Try.pinned (OpenSpec.ofChange balanceTellsWrong)

/-- 'naskhlaw47.BalanceEven': WHATEVER THE INPUT: true; the input reads as it did. -/
def balanceEvenSpec : ChangeSpec := { name := "balanceEven", fn := fun _ => fun
  | [d] => { results := [.lit (.bool true)], args := [d] }
  | _ => none }
def balanceEvenRow : OpenClaim := { program := "ytdllafendiaplaa", sum := "b2a3636574136ec7e4691aa8f7283dc8da9f6f412dcc31ad2c87f39724afe482", func := "naskh/naskhlaw47.BalanceEven", spec := "balanceEven", unfollowed := true, recurses := true, apart := false }
def BalanceEvenSaid : Prop := balanceEvenRow.holds Try.pinned (OpenSpec.ofChange balanceEvenSpec)

/-- ITS FALSE NEIGHBOUR: 'it returns false'. Refute it at one input. -/
def balanceEvenWrong : ChangeSpec := { name := "balanceEven", fn := fun _ => fun
  | [d] => { results := [.lit (.bool false)], args := [d] }
  | _ => none }
def BalanceEvenWrongFalsely : Prop := balanceEvenRow.holds Try.pinned (OpenSpec.ofChange balanceEvenWrong)

/-- 'naskhlaw47.BalanceTwice': WHATEVER THE INPUT: true; the input reads as it did. -/
def balanceTwiceSpec : ChangeSpec := { name := "balanceTwice", fn := fun _ => fun
  | [d] => { results := [.lit (.bool true)], args := [d] }
  | _ => none }
def balanceTwiceRow : OpenClaim := { program := "ytdllafendiaplaa", sum := "b2a3636574136ec7e4691aa8f7283dc8da9f6f412dcc31ad2c87f39724afe482", func := "naskh/naskhlaw47.BalanceTwice", spec := "balanceTwice", unfollowed := true, recurses := true, apart := false }
def BalanceTwiceSaid : Prop := balanceTwiceRow.holds Try.pinned (OpenSpec.ofChange balanceTwiceSpec)

/-- ITS FALSE NEIGHBOUR: 'it returns false'. Refute it at one input. -/
def balanceTwiceWrong : ChangeSpec := { name := "balanceTwice", fn := fun _ => fun
  | [d] => { results := [.lit (.bool false)], args := [d] }
  | _ => none }
def BalanceTwiceWrongFalsely : Prop := balanceTwiceRow.holds Try.pinned (OpenSpec.ofChange balanceTwiceWrong)

/-- 'naskhlaw47.BalanceDone': WHATEVER THE INPUT: true; the input reads as it did. -/
def balanceDoneSpec : ChangeSpec := { name := "balanceDone", fn := fun _ => fun
  | [d] => { results := [.lit (.bool true)], args := [d] }
  | _ => none }
def balanceDoneRow : OpenClaim := { program := "ytdllafendiaplaa", sum := "b2a3636574136ec7e4691aa8f7283dc8da9f6f412dcc31ad2c87f39724afe482", func := "naskh/naskhlaw47.BalanceDone", spec := "balanceDone", unfollowed := true, recurses := true, apart := false }
def BalanceDoneSaid : Prop := balanceDoneRow.holds Try.pinned (OpenSpec.ofChange balanceDoneSpec)

/-- ITS FALSE NEIGHBOUR: 'it returns false'. Refute it at one input. -/
def balanceDoneWrong : ChangeSpec := { name := "balanceDone", fn := fun _ => fun
  | [d] => { results := [.lit (.bool false)], args := [d] }
  | _ => none }
def BalanceDoneWrongFalsely : Prop := balanceDoneRow.holds Try.pinned (OpenSpec.ofChange balanceDoneWrong)

/- THE SECOND FORM. 'bulk': how many values and letters a reading holds, each counted each time it is reached (what is shared counts as often as it is met; a slice's spare places count too). A statement '..UptoSaid' is the law's where the arguments, and the package variables that the reading takes, are together of bulk at most 1048576: NARROWER than '..Said'. Prove '..Said' where nothing that the law and all that it calls make is longer than what came in: it says more and counts as full. Else prove '..UptoSaid'. A law counts once. -/
mutual
def uptoBulk {H : Type} : DataW H → Nat
  | .lit (.string bytes) => bytes.length + 1
  | .lit _ => 1
  | .nil => 1
  | .ptr d => uptoBulk d + 1
  | .slice elems spare => uptoBulkAll elems + uptoBulkAll spare + 1
  | .agg parts => uptoBulkAll parts + 1
  | .iface _ d => uptoBulk d + 1
  | .map entries => uptoBulkEntries entries + 1
  | .held _ => 1
def uptoBulkAll {H : Type} : List (DataW H) → Nat
  | [] => 0
  | d :: r => uptoBulk d + uptoBulkAll r
def uptoBulkEntries {H : Type} : List (Lit × DataW H) → Nat
  | [] => 0
  | x :: r => uptoBulkEntry x + uptoBulkEntries r
def uptoBulkEntry {H : Type} : Lit × DataW H → Nat
  | (.string bytes, d) => bytes.length + uptoBulk d + 1
  | (_, d) => uptoBulk d + 1
 end
def uptoSmall : (H : Type) → List (DataW H) → Bool := fun _ ds => decide (uptoBulkAll ds ≤ 1048576)
def OpenSpec.upto (s : _root_.Go.ChangeSpec) : _root_.Go.OpenSpec := { _root_.Go.OpenSpec.ofChange s with cond := some uptoSmall }

/-- 'naskhlaw47.BalanceTells', WHERE WHAT IT READS IS OF BULK AT MOST 1048576: true; the input reads as it did. -/
def balanceTellsUptoRow : OpenClaim := { program := "ytdllafendiaplaa", sum := "b2a3636574136ec7e4691aa8f7283dc8da9f6f412dcc31ad2c87f39724afe482", func := "naskh/naskhlaw47.BalanceTells", spec := "balanceTells", unfollowed := true, recurses := true, apart := false, narrowed := true }
def BalanceTellsUptoSaid : Prop := balanceTellsUptoRow.holds Try.pinned (OpenSpec.upto balanceTellsSpec)

/-- 'naskhlaw47.BalanceEven', WHERE WHAT IT READS IS OF BULK AT MOST 1048576: true; the input reads as it did. -/
def balanceEvenUptoRow : OpenClaim := { program := "ytdllafendiaplaa", sum := "b2a3636574136ec7e4691aa8f7283dc8da9f6f412dcc31ad2c87f39724afe482", func := "naskh/naskhlaw47.BalanceEven", spec := "balanceEven", unfollowed := true, recurses := true, apart := false, narrowed := true }
def BalanceEvenUptoSaid : Prop := balanceEvenUptoRow.holds Try.pinned (OpenSpec.upto balanceEvenSpec)

/-- 'naskhlaw47.BalanceTwice', WHERE WHAT IT READS IS OF BULK AT MOST 1048576: true; the input reads as it did. -/
def balanceTwiceUptoRow : OpenClaim := { program := "ytdllafendiaplaa", sum := "b2a3636574136ec7e4691aa8f7283dc8da9f6f412dcc31ad2c87f39724afe482", func := "naskh/naskhlaw47.BalanceTwice", spec := "balanceTwice", unfollowed := true, recurses := true, apart := false, narrowed := true }
def BalanceTwiceUptoSaid : Prop := balanceTwiceUptoRow.holds Try.pinned (OpenSpec.upto balanceTwiceSpec)

/-- 'naskhlaw47.BalanceDone', WHERE WHAT IT READS IS OF BULK AT MOST 1048576: true; the input reads as it did. -/
def balanceDoneUptoRow : OpenClaim := { program := "ytdllafendiaplaa", sum := "b2a3636574136ec7e4691aa8f7283dc8da9f6f412dcc31ad2c87f39724afe482", func := "naskh/naskhlaw47.BalanceDone", spec := "balanceDone", unfollowed := true, recurses := true, apart := false, narrowed := true }
def BalanceDoneUptoSaid : Prop := balanceDoneUptoRow.holds Try.pinned (OpenSpec.upto balanceDoneSpec)

end Rows
end Go.Proofs.Ytdllafendiaplaa
