/-
  Functions whose second region draws its order, told in short. Printed by this project's own program.
  Conditions: none.
-/
import Derived.Test.YtcgaphmndnmfdaaGreatPmX
import Derived.Test.YtcgaphmndnmfdaaGreatC
namespace Go.Proofs.YtcgaphmndnmfdaaGreat
open Go.Pm
set_option maxRecDepth 100000
set_option linter.unusedVariables false
theorem tag103 : tag Tryz.prog 103 = some true := by kernel_rfl
theorem tsz103 : tsz Tryz.prog 103 = some 9 := by kernel_rfl
theorem und103 : und Tryz.prog 103 = true := by kernel_rfl
theorem ik103 : ik Tryz.prog 103 = none := by kernel_rfl
theorem kd103 : kd Tryz.prog 103 = some 29 := by kernel_rfl
theorem esz103 : esz Tryz.prog 103 = none := by kernel_rfl
theorem zc103 : zc Tryz.prog 103 = some [.bool false, .bool false, .bool false, .bool false, .bool false, .bool false, .bool false, .bool false, .bool false] := by kernel_rfl
theorem ars103 : ars Tryz.prog 103 = some (9, 1, false) := by kernel_rfl
theorem plc103 : plc Tryz.prog 103 = some fun i => some (i * 1, 1) := by kernel_rfl
theorem ft3 : True ∧
    (tag Tryz.prog 103 = some true) ∧
    (tsz Tryz.prog 103 = some 9) ∧
    (und Tryz.prog 103 = true) ∧
    (ik Tryz.prog 103 = none) ∧
    (kd Tryz.prog 103 = some 29) ∧
    (esz Tryz.prog 103 = none) ∧
    (zc Tryz.prog 103 = some [.bool false, .bool false, .bool false, .bool false, .bool false, .bool false, .bool false, .bool false, .bool false]) ∧
    (ars Tryz.prog 103 = some (9, 1, false)) ∧
    (plc Tryz.prog 103 = some fun i => some (i * 1, 1)) := ⟨trivial, tag103, tsz103, und103, ik103, kd103, esz103, zc103, ars103, plc103⟩
/-! ### naskh.naskhref49.kinds: function 29 -/
def r29_0 : List PS := [.mk (some 6) (.box 49 (.tmp 1)) none,
  .mk (some 10) (.assign (.const (.slice none 0 0))) none]
def r29_1 : List PS := [.frz 11,
  .mk (some 12) (.assign (.const (.slice none 0 0))) none]
def r29_2 : List PS := [.mk (some 13) (.assign (.const (.int .i64 1))) none]
def r29_3 : List PS := [.mk (some 79) (.move (.tmp 13)) none,
  .mk (some 80) (.binOp .lss 3 (.tmp 79) (.const (.int .i64 9)) 3) none]
def r29_4 : List PS := [.mk (some 83) (.move (.tmp 13)) none,
  .mk (some 84) (.indexAddr 103 (.tmp 11) (.tmp 83)) none,
  .mk (some 85) (.load 4 (.tmp 84)) none]
def r29_5 : List PS := [.mk (some 86) (.move (.tmp 12)) none,
  .mk (some 87) (.move (.tmp 13)) none,
  .mk (some 88) (.buildSlice 22 1 #[(0, (.tmp 87))]) none,
  .mk (some 89) (.call ⟨(.builtin .append), #[(.tmp 86), (.tmp 88)], #[22, 22]⟩) none,
  .mk (some 12) (.assign (.tmp 89)) none]
def r29_6 : List PS := [.mk (some 81) (.move (.tmp 13)) none,
  .mk (some 82) (.binOp .add 3 (.tmp 81) (.const (.int .i64 1)) 3) none,
  .mk (some 13) (.assign (.tmp 82)) none]
def r29_7 : List PS := [.mk (some 90) (.move (.tmp 12)) none,
  .mk (some 10) (.assign (.tmp 90)) none]
def r29_8 : List PS := [.mk (some 14) (.move (.tmp 0)) none,
  .mk (some 15) (.move (.tmp 4)) none,
  .mk (some 16) (.indexAddr 22 (.tmp 14) (.tmp 15)) none,
  .mk (some 17) (.load 3 (.tmp 16)) none,
  .mk (some 18) (.binOp .lss 3 (.tmp 17) (.const (.int .i64 0)) 3) none,
  .mk (some 19) (.move (.tmp 18)) none,
  .mk (some 20) (.move (.tmp 0)) (some (19, false)),
  .mk (some 21) (.move (.tmp 4)) (some (19, false)),
  .mk (some 22) (.indexAddr 22 (.tmp 20) (.tmp 21)) (some (19, false)),
  .mk (some 23) (.load 3 (.tmp 22)) (some (19, false)),
  .mk (some 24) (.binOp .gtr 3 (.tmp 23) (.const (.int .i64 1114111)) 3) (some (19, false)),
  .mk (some 25) (.pick (.tmp 19) (.const (.bool true)) (.tmp 24)) none,
  .mk (some 26) (.move (.tmp 2)) none,
  .mk (some 27) (.move (.tmp 4)) none,
  .mk (some 28) (.fieldAddr 49 (.tmp 6) 0) none,
  .mk (some 29) (.load 3 (.tmp 28)) none,
  .mk (some 30) (.binOp .sub 3 (.tmp 27) (.tmp 29) 3) none,
  .mk (some 31) (.call ⟨(.value (.func 61)), #[(.tmp 26), (.tmp 30)], #[22, 3]⟩) none,
  .mk (some 32) (.move (.tmp 3)) none,
  .mk (some 33) (.move (.tmp 4)) none,
  .mk (some 34) (.fieldAddr 49 (.tmp 6) 0) none,
  .mk (some 35) (.load 3 (.tmp 34)) none,
  .mk (some 36) (.binOp .sub 3 (.tmp 33) (.tmp 35) 3) none,
  .mk (some 37) (.call ⟨(.value (.func 61)), #[(.tmp 32), (.tmp 36)], #[22, 3]⟩) none,
  .mk (some 38) (.move (.tmp 0)) none,
  .mk (some 39) (.move (.tmp 4)) none,
  .mk (some 40) (.indexAddr 22 (.tmp 38) (.tmp 39)) none,
  .mk (some 41) (.load 3 (.tmp 40)) none,
  .mk (some 42) (.call ⟨(.value (.func 14)), #[(.tmp 41)], #[3]⟩) none,
  .mk (some 43) (.move (.tmp 0)) none,
  .mk (some 44) (.load 49 (.tmp 6)) none,
  .mk (some 45) (.move (.tmp 4)) none,
  .mk (some 46) (.call ⟨(.value (.func 62)), #[(.tmp 43), (.tmp 44), (.tmp 45)], #[22, 49, 3]⟩) none,
  .mk (some 47) (.move (.tmp 4)) none,
  .mk (some 48) (.binOp .gtr 3 (.tmp 47) (.const (.int .i64 0)) 3) none,
  .mk (some 49) (.move (.tmp 48)) none,
  .mk (some 50) (.move (.tmp 0)) (some (49, true)),
  .mk (some 51) (.move (.tmp 4)) (some (49, true)),
  .mk (some 52) (.indexAddr 22 (.tmp 50) (.tmp 51)) (some (49, true)),
  .mk (some 53) (.load 3 (.tmp 52)) (some (49, true)),
  .mk (some 54) (.call ⟨(.value (.func 63)), #[(.tmp 53)], #[3]⟩) (some (49, true)),
  .mk (some 55) (.binOp .gtr 3 (.tmp 54) (.const (.int .i64 0)) 3) (some (49, true)),
  .mk (some 56) (.pick (.tmp 49) (.tmp 55) (.const (.bool false))) none,
  .mk (some 57) (.move (.tmp 56)) none,
  .mk (some 58) (.move (.tmp 0)) (some (57, true)),
  .mk (some 59) (.move (.tmp 4)) (some (57, true)),
  .mk (some 60) (.indexAddr 22 (.tmp 58) (.tmp 59)) (some (57, true)),
  .mk (some 61) (.load 3 (.tmp 60)) (some (57, true)),
  .mk (some 62) (.call ⟨(.value (.func 63)), #[(.tmp 61)], #[3]⟩) (some (57, true)),
  .mk (some 63) (.move (.tmp 0)) (some (57, true)),
  .mk (some 64) (.move (.tmp 4)) (some (57, true)),
  .mk (some 65) (.binOp .sub 3 (.tmp 64) (.const (.int .i64 1)) 3) (some (57, true)),
  .mk (some 66) (.call ⟨(.builtin .max), #[(.tmp 65), (.const (.int .i64 0))], #[3, 3]⟩) (some (57, true)),
  .mk (some 67) (.indexAddr 22 (.tmp 63) (.tmp 66)) (some (57, true)),
  .mk (some 68) (.load 3 (.tmp 67)) (some (57, true)),
  .mk (some 69) (.call ⟨(.value (.func 63)), #[(.tmp 68)], #[3]⟩) (some (57, true)),
  .mk (some 70) (.binOp .lss 3 (.tmp 62) (.tmp 69) 3) (some (57, true)),
  .mk (some 71) (.pick (.tmp 57) (.tmp 70) (.const (.bool false))) none,
  .mk (some 72) (.move (.tmp 0)) none,
  .mk (some 73) (.move (.tmp 4)) none,
  .mk (some 74) (.call ⟨(.value (.func 64)), #[(.tmp 72), (.tmp 73)], #[22, 3]⟩) none,
  .mk (some 75) (.move (.tmp 0)) none,
  .mk (some 76) (.move (.tmp 4)) none,
  .mk (some 77) (.call ⟨(.value (.func 39)), #[(.tmp 75), (.tmp 76)], #[22, 3]⟩) none,
  .mk (some 78) (.build 103 #[(1, (.tmp 25)), (2, (.tmp 31)), (3, (.tmp 37)), (4, (.tmp 42)), (5, (.tmp 46)), (6, (.tmp 71)), (7, (.tmp 74)), (8, (.tmp 77))]) none,
  .mk (some 11) (.alloc 103) none,
  .mk none (.store 103 (.tmp 11) (.tmp 78)) none]
def ll29 : List Nat := [11, 17, 23, 29, 35, 41, 44, 53, 61, 68]
def s29_31 : List PS := [.mk (some 32) (.move (.tmp 3)) none,
  .mk (some 33) (.move (.tmp 4)) none,
  .mk (some 34) (.fieldAddr 49 (.tmp 6) 0) none,
  .mk (some 35) (.load 3 (.tmp 34)) none,
  .mk (some 36) (.binOp .sub 3 (.tmp 33) (.tmp 35) 3) none,
  .mk (some 37) (.call ⟨(.value (.func 61)), #[(.tmp 32), (.tmp 36)], #[22, 3]⟩) none,
  .mk (some 38) (.move (.tmp 0)) none,
  .mk (some 39) (.move (.tmp 4)) none,
  .mk (some 40) (.indexAddr 22 (.tmp 38) (.tmp 39)) none,
  .mk (some 41) (.load 3 (.tmp 40)) none,
  .mk (some 42) (.call ⟨(.value (.func 14)), #[(.tmp 41)], #[3]⟩) none,
  .mk (some 43) (.move (.tmp 0)) none,
  .mk (some 44) (.load 49 (.tmp 6)) none,
  .mk (some 45) (.move (.tmp 4)) none,
  .mk (some 46) (.call ⟨(.value (.func 62)), #[(.tmp 43), (.tmp 44), (.tmp 45)], #[22, 49, 3]⟩) none,
  .mk (some 47) (.move (.tmp 4)) none,
  .mk (some 48) (.binOp .gtr 3 (.tmp 47) (.const (.int .i64 0)) 3) none,
  .mk (some 49) (.move (.tmp 48)) none,
  .mk (some 50) (.move (.tmp 0)) (some (49, true)),
  .mk (some 51) (.move (.tmp 4)) (some (49, true)),
  .mk (some 52) (.indexAddr 22 (.tmp 50) (.tmp 51)) (some (49, true)),
  .mk (some 53) (.load 3 (.tmp 52)) (some (49, true)),
  .mk (some 54) (.call ⟨(.value (.func 63)), #[(.tmp 53)], #[3]⟩) (some (49, true)),
  .mk (some 55) (.binOp .gtr 3 (.tmp 54) (.const (.int .i64 0)) 3) (some (49, true)),
  .mk (some 56) (.pick (.tmp 49) (.tmp 55) (.const (.bool false))) none,
  .mk (some 57) (.move (.tmp 56)) none,
  .mk (some 58) (.move (.tmp 0)) (some (57, true)),
  .mk (some 59) (.move (.tmp 4)) (some (57, true)),
  .mk (some 60) (.indexAddr 22 (.tmp 58) (.tmp 59)) (some (57, true)),
  .mk (some 61) (.load 3 (.tmp 60)) (some (57, true)),
  .mk (some 62) (.call ⟨(.value (.func 63)), #[(.tmp 61)], #[3]⟩) (some (57, true)),
  .mk (some 63) (.move (.tmp 0)) (some (57, true)),
  .mk (some 64) (.move (.tmp 4)) (some (57, true)),
  .mk (some 65) (.binOp .sub 3 (.tmp 64) (.const (.int .i64 1)) 3) (some (57, true)),
  .mk (some 66) (.call ⟨(.builtin .max), #[(.tmp 65), (.const (.int .i64 0))], #[3, 3]⟩) (some (57, true)),
  .mk (some 67) (.indexAddr 22 (.tmp 63) (.tmp 66)) (some (57, true)),
  .mk (some 68) (.load 3 (.tmp 67)) (some (57, true)),
  .mk (some 69) (.call ⟨(.value (.func 63)), #[(.tmp 68)], #[3]⟩) (some (57, true)),
  .mk (some 70) (.binOp .lss 3 (.tmp 62) (.tmp 69) 3) (some (57, true)),
  .mk (some 71) (.pick (.tmp 57) (.tmp 70) (.const (.bool false))) none,
  .mk (some 72) (.move (.tmp 0)) none,
  .mk (some 73) (.move (.tmp 4)) none,
  .mk (some 74) (.call ⟨(.value (.func 64)), #[(.tmp 72), (.tmp 73)], #[22, 3]⟩) none,
  .mk (some 75) (.move (.tmp 0)) none,
  .mk (some 76) (.move (.tmp 4)) none,
  .mk (some 77) (.call ⟨(.value (.func 39)), #[(.tmp 75), (.tmp 76)], #[22, 3]⟩) none,
  .mk (some 78) (.build 103 #[(1, (.tmp 25)), (2, (.tmp 31)), (3, (.tmp 37)), (4, (.tmp 42)), (5, (.tmp 46)), (6, (.tmp 71)), (7, (.tmp 74)), (8, (.tmp 77))]) none,
  .mk (some 11) (.alloc 103) none,
  .mk none (.store 103 (.tmp 11) (.tmp 78)) none]
def s29_74 : List PS := [.mk (some 75) (.move (.tmp 0)) none,
  .mk (some 76) (.move (.tmp 4)) none,
  .mk (some 77) (.call ⟨(.value (.func 39)), #[(.tmp 75), (.tmp 76)], #[22, 3]⟩) none,
  .mk (some 78) (.build 103 #[(1, (.tmp 25)), (2, (.tmp 31)), (3, (.tmp 37)), (4, (.tmp 42)), (5, (.tmp 46)), (6, (.tmp 71)), (7, (.tmp 74)), (8, (.tmp 77))]) none,
  .mk (some 11) (.alloc 103) none,
  .mk none (.store 103 (.tmp 11) (.tmp 78)) none]
def c29 : PC := (.reg false r29_0)
def cc29 : PC := (.seq (.reg false r29_1) (.seq (.seq (.reg false r29_2) (.block 0 (.loop (.seq (.seq (.reg false r29_3) (.cond (.tmp 80) .skip (.exit 0))) (.seq (.block 1 (.seq (.reg false r29_4) (.cond (.tmp 85) (.reg false r29_5) .skip))) (.reg false r29_6)))))) (.seq (.reg false r29_7) .ret)))
theorem e29 {args : List PV} {h : Heap} {K : PV → Heap → Prop} (hl : args.length = 5) (s : pwp Tryz.prog ll29 c29 (thn (pstepsU Tryz.prog ll29 (pwp Tryz.prog ll29 cc29 (fin Tryz.prog [.tmp 10] h K)) r29_8) (fin Tryz.prog [.tmp 10] h K)) (slots0 (olds args)) h) : CanP Tryz.prog 29 args h K :=
  can_of_uni (n := 91) (L := ll29) (pA := c29) (pC := cc29) (lB := r29_8) mixed Tryz.func29 (by kernel_rfl) rfl (by rw [hl]; kernel_rfl) rfl (by kernel_rfl) (by kernel_rfl) (by kernel_rfl) (by kernel_rfl) (by kernel_rfl) (by kernel_rfl) s
end Go.Proofs.YtcgaphmndnmfdaaGreat
