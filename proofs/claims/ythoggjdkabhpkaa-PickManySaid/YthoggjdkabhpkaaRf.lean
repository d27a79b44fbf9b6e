/-
  Functions that hold a range over a function, told in short. Printed by this project's own program.
  Conditions: none.
-/
import Derived.Test.YthoggjdkabhpkaaPmV
import Derived.Test.YthoggjdkabhpkaaC
namespace Go.Proofs.Ythoggjdkabhpkaa
open Go.Pm
set_option maxRecDepth 100000
set_option linter.unusedVariables false
/-! ### slices.AppendSeq[[]int,int]: function 41 -/
def r41_0 : List PS := [.mk (some 2) (.box 22 (.tmp 0)) none,
  .mk (some 4) (.assign (.const (.slice none 0 0))) none]
def r41_1 : List PS := [.mk (some 6) (.move (.tmp 1)) none]
def r41_2 : List PS := [.mk (some 5) (.assign (.tmp 7)) none]
def r41_3 : List PS := [.mk (some 8) (.load 22 (.tmp 2)) none,
  .mk (some 9) (.move (.tmp 5)) none,
  .mk (some 10) (.buildSlice 22 1 #[(0, (.tmp 9))]) none,
  .mk (some 11) (.call ⟨(.builtin .append), #[(.tmp 8), (.tmp 10)], #[22, 22]⟩) none,
  .mk none (.store 22 (.tmp 2) (.tmp 11)) none]
def r41_4 : List PS := [.mk (some 12) (.load 22 (.tmp 2)) none,
  .mk (some 4) (.assign (.tmp 12)) none]
def c41 : PC := (.seq (.reg false r41_0) (.reg false r41_1))
def ca41 : PC := (.reg false r41_2)
def cb41 : PC := (.block 1 (.reg false r41_3))
def cr41 : PC := (.reg false r41_4)
theorem e41 {args : List PV} {h : Heap} {K : PV → Heap → Prop} (hl : args.length = 2) (s : pwp Try.prog [2] c41 (fun e σ h1 => e = .normal ∧ Ranges Try.prog [2] (.tmp 6) #[7] ca41 cb41 cr41 (fin Try.prog [.tmp 4] h K .ret) σ h1) (slots0 (olds args)) h) : CanP Try.prog 41 args h K :=
  can_of_range1 (n := 13) (L := [2]) (pA := (.reg false r41_0)) (pC := (.reg false r41_1)) (pa := ca41) (pb := cb41) (lR := r41_4) mixed Try.func41 (by kernel_rfl) rfl (by rw [hl]; kernel_rfl) (by kernel_rfl) (by kernel_rfl) (by kernel_rfl) (by kernel_rfl) (by kernel_rfl) (by kernel_rfl) (by kernel_rfl) (by kernel_rfl) (by kernel_rfl) (by kernel_rfl) (by kernel_rfl) (by kernel_rfl) s
end Go.Proofs.Ythoggjdkabhpkaa
