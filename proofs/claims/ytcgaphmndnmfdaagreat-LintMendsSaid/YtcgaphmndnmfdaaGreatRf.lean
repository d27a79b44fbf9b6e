/-
  Functions that hold a range over a function, told in short. Printed by this project's own program.
  Conditions: none.
-/
import Derived.Test.YtcgaphmndnmfdaaGreatPmW
import Derived.Test.YtcgaphmndnmfdaaGreatC
namespace Go.Proofs.YtcgaphmndnmfdaaGreat
open Go.Pm
set_option maxRecDepth 100000
set_option linter.unusedVariables false
/-! ### (*naskh.balance.walk).ends: function 110 -/
def r110_0 : List PS := [.mk (some 1) (.box 138 (.tmp 0)) none,
  .mk (some 2) (.assign (.const (.slice none 0 0))) none]
def r110_1 : List PS := [.mk (some 3) (.alloc 22) none]
def r110_2 : List PS := [.mk (some 7) (.load 138 (.tmp 1)) none,
  .mk (some 8) (.nilCheck (.tmp 7)) none,
  .mk (some 9) (.fieldAddr 141 (.tmp 8) 1) none,
  .mk (some 10) (.load 22 (.tmp 9)) none,
  .mk (some 11) (.call ⟨(.value (.func 132)), #[(.tmp 10)], #[22]⟩) none]
def r110_3 : List PS := [.mk (some 5) (.assign (.tmp 13)) none]
def r110_4 : List PS := [.mk (some 6) (.assign (.const (.int .i64 8236))) none]
def r110_5 : List PS := [.mk (some 14) (.load 138 (.tmp 1)) none,
  .mk (some 15) (.nilCheck (.tmp 14)) none,
  .mk (some 16) (.fieldAddr 141 (.tmp 15) 0) none,
  .mk (some 17) (.load 22 (.tmp 16)) none,
  .mk (some 18) (.move (.tmp 5)) none,
  .mk (some 19) (.indexAddr 22 (.tmp 17) (.tmp 18)) none,
  .mk (some 20) (.load 3 (.tmp 19)) none,
  .mk (some 21) (.call ⟨(.value (.func 121)), #[(.tmp 20)], #[3]⟩) none]
def r110_6 : List PS := [.mk (some 6) (.assign (.const (.int .i64 8297))) none]
def r110_7 : List PS := [.mk (some 22) (.load 22 (.tmp 3)) none,
  .mk (some 23) (.move (.tmp 6)) none,
  .mk (some 24) (.buildSlice 22 1 #[(0, (.tmp 23))]) none,
  .mk (some 25) (.call ⟨(.builtin .append), #[(.tmp 22), (.tmp 24)], #[22, 22]⟩) none,
  .mk none (.store 22 (.tmp 3) (.tmp 25)) none]
def r110_8 : List PS := [.mk (some 26) (.load 22 (.tmp 3)) none,
  .mk (some 2) (.assign (.tmp 26)) none]
def c110 : PC := (.seq (.reg false r110_0) (.seq (.reg false r110_1) (.reg false r110_2)))
def ca110 : PC := (.reg false r110_3)
def cb110 : PC := (.block 1 (.seq (.reg false r110_4) (.seq (.seq (.reg false r110_5) (.cond (.tmp 21) (.reg false r110_6) .skip)) (.reg false r110_7))))
def cr110 : PC := (.reg false r110_8)
theorem e110 {args : List PV} {h : Heap} {K : PV → Heap → Prop} (hl : args.length = 1) (s : pwp Tryz.prog [3] c110 (fun e σ h1 => e = .normal ∧ Ranges Tryz.prog [3] (.tmp 11) #[12, 13] ca110 cb110 cr110 (fin Tryz.prog [.tmp 2] h K .ret) σ h1) (slots0 (olds args)) h) : CanP Tryz.prog 110 args h K :=
  can_of_range (n := 27) (L := [3]) (pA := (.reg false r110_0)) (pB := (.reg false r110_1)) (pC := (.reg false r110_2)) (pa := ca110) (pb := cb110) (lR := r110_8) mixed Tryz.func110 (by kernel_rfl) rfl (by rw [hl]; kernel_rfl) (by kernel_rfl) (by kernel_rfl) (by kernel_rfl) (by kernel_rfl) (by kernel_rfl) (by kernel_rfl) (by kernel_rfl) (by kernel_rfl) (by kernel_rfl) (by kernel_rfl) (by kernel_rfl) (by kernel_rfl) (by kernel_rfl) s
end Go.Proofs.YtcgaphmndnmfdaaGreat
