/-
  Functions that hold a range over a function, told in short. Printed by this project's own program.
  Conditions: none.
-/
import Derived.Test.YtjabiegaeflhjaaPmV
import Derived.Test.YtjabiegaeflhjaaC
namespace Go.Proofs.Ytjabiegaeflhjaa
open Go.Pm
set_option maxRecDepth 100000
set_option linter.unusedVariables false
/-! ### naskh.flip.turned: function 23 -/
def r23_0 : List PS := [.mk (some 4) (.box 22 (.tmp 1)) none,
  .mk (some 6) (.assign (.const (.slice none 0 0))) none]
def r23_1 : List PS := [.mk (some 10) (.load 22 (.tmp 4)) none,
  .mk (some 11) (.call ⟨(.builtin .len), #[(.tmp 10)], #[22]⟩) none,
  .mk (some 12) (.makeSlice 22 (.const (.int .i64 0)) (.tmp 11)) none,
  .mk (some 7) (.alloc 22) none,
  .mk none (.store 22 (.tmp 7) (.tmp 12)) none]
def r23_2 : List PS := [.mk (some 13) (.move (.tmp 0)) none,
  .mk (some 14) (.load 22 (.tmp 4)) none,
  .mk (some 15) (.move (.tmp 2)) none,
  .mk (some 16) (.call ⟨(.value (.func 12)), #[(.tmp 13), (.tmp 14), (.tmp 15)], #[24, 22, 4]⟩) none,
  .mk (some 17) (.call ⟨(.value (.func 37)), #[(.tmp 16)], #[30]⟩) none]
def r23_3 : List PS := [.mk (some 9) (.alloc 32) none,
  .mk none (.store 32 (.tmp 9) (.tmp 19)) none,
  .frz 9]
def r23_4 : List PS := [.mk (some 20) (.load 22 (.tmp 7)) none,
  .mk (some 21) (.load 22 (.tmp 4)) none,
  .mk (some 22) (.fieldAddr 32 (.tmp 9) 0) none,
  .mk (some 23) (.load 3 (.tmp 22)) none,
  .mk (some 24) (.fieldAddr 32 (.tmp 9) 1) none,
  .mk (some 25) (.load 3 (.tmp 24)) none,
  .mk (some 26) (.slice 22 (.tmp 21) (some (.tmp 23)) (some (.tmp 25)) none) none,
  .mk (some 27) (.call ⟨(.builtin .append), #[(.tmp 20), (.tmp 26)], #[22, 22]⟩) none,
  .mk none (.store 22 (.tmp 7) (.tmp 27)) none]
def r23_5 : List PS := [.mk (some 28) (.load 22 (.tmp 7)) none,
  .mk (some 6) (.assign (.tmp 28)) none]
def c23 : PC := (.seq (.reg false r23_0) (.seq (.reg false r23_1) (.reg false r23_2)))
def ca23 : PC := (.reg false r23_3)
def cb23 : PC := (.block 1 (.reg true r23_4))
def cr23 : PC := (.reg false r23_5)
theorem e23 {args : List PV} {h : Heap} {K : PV → Heap → Prop} (hl : args.length = 3) (s : pwp Try.prog [7, 9] c23 (fun e σ h1 => e = .normal ∧ Ranges Try.prog [7, 9] (.tmp 17) #[18, 19] ca23 cb23 cr23 (fin Try.prog [.tmp 6] h K .ret) σ h1) (slots0 (olds args)) h) : CanP Try.prog 23 args h K :=
  can_of_range (n := 29) (L := [7, 9]) (pA := (.reg false r23_0)) (pB := (.reg false r23_1)) (pC := (.reg false r23_2)) (pa := ca23) (pb := cb23) (lR := r23_5) mixed Try.func23 (by kernel_rfl) rfl (by rw [hl]; kernel_rfl) (by kernel_rfl) (by kernel_rfl) (by kernel_rfl) (by kernel_rfl) (by kernel_rfl) (by kernel_rfl) (by kernel_rfl) (by kernel_rfl) (by kernel_rfl) (by kernel_rfl) (by kernel_rfl) (by kernel_rfl) (by kernel_rfl) s
end Go.Proofs.Ytjabiegaeflhjaa
