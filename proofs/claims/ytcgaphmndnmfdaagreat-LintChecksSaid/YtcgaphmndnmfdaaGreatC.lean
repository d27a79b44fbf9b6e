/-
  The functions that the statements of this seat reach, told in short, the rest. Printed by this project's own program.
  Conditions: none.
-/
import Derived.Test.YtcgaphmndnmfdaaGreatCa
namespace Go.Proofs.YtcgaphmndnmfdaaGreat
open Go.Pm
set_option maxRecDepth 100000
set_option linter.unusedVariables false
variable {args : List PV} {h : Heap} {K : PV → Heap → Prop}
/-! ### naskh.ccc.New: function 9 -/
def r9_0 : List PS := [.mk (some 0) (.assign (.const (.pointer none))) none]
def r9_1 : List PS := [.mk (some 4) (.call ⟨(.value (.func 24)), #[], #[]⟩) none,
  .mk (some 5) (.call ⟨(.value (.func 21)), #[(.tmp 4), (.const (.int .i64 0))], #[57, 3]⟩) none,
  .mk (some 3) (.move (.tmp 5)) none,
  .mk (some 6) (.extract (.tmp 3) 0) none,
  .mk (some 7) (.extract (.tmp 3) 1) none,
  .mk (some 1) (.assign (.tmp 6)) none,
  .mk (some 2) (.assign (.tmp 7)) none]
def r9_2 : List PS := [.mk (some 8) (.move (.tmp 2)) none,
  .mk (some 9) (.binOp .neq 54 (.tmp 8) (.const (.int .i64 0)) 54) none]
def r9_3 : List PS := [.mk (some 0) (.assign (.const (.pointer none))) none]
def r9_4 : List PS := [.mk (some 10) (.move (.tmp 1)) none,
  .mk (some 11) (.build 64 #[(0, (.tmp 10))]) none,
  .mk (some 12) (.build 66 #[(0, (.tmp 11))]) none,
  .mk (some 13) (.box 66 (.tmp 12)) none,
  .mk (some 0) (.assign (.tmp 13)) none]
def c9 : PC := (.seq (.reg false r9_0) (.seq (.reg false r9_1) (.seq (.seq (.reg false r9_2) (.cond (.tmp 9) (.seq (.reg false r9_3) .ret) .skip)) (.seq (.reg false r9_4) .ret))))
theorem e9 (hl : args.length = 0) (s : pwp Tryz.prog [] c9 (fin Tryz.prog [.tmp 0] h K) (slots0 (olds args)) h) : CanP Tryz.prog 9 args h K :=
  can_of2 (n := 14) mixed Tryz.func9 rfl (by kernel_rfl) (by rw [hl]; kernel_rfl) rfl (by kernel_rfl) s
/-! ### slices.Equal[[]naskh.lint.Find,naskh.lint.Find]: function 16 -/
def r16_0 : List PS := [.mk (some 4) (.assign (.const (.bool false))) none]
def r16_1 : List PS := [.mk (some 6) (.move (.tmp 0)) none,
  .mk (some 7) (.call ⟨(.builtin .len), #[(.tmp 6)], #[24]⟩) none,
  .mk (some 8) (.move (.tmp 1)) none,
  .mk (some 9) (.call ⟨(.builtin .len), #[(.tmp 8)], #[24]⟩) none,
  .mk (some 10) (.binOp .neq 3 (.tmp 7) (.tmp 9) 3) none]
def r16_2 : List PS := [.mk (some 4) (.assign (.const (.bool false))) none]
def r16_3 : List PS := [.mk (some 11) (.move (.tmp 0)) none,
  .mk (some 12) (.call ⟨(.builtin .len), #[(.tmp 11)], #[24]⟩) none,
  .mk (some 13) (.move (.const (.int .i64 0))) none]
def r16_4 : List PS := [.mk (some 14) (.binOp .lss 3 (.tmp 13) (.tmp 12) 3) none]
def r16_5 : List PS := [.mk (some 15) (.move (.tmp 13)) none,
  .mk (some 5) (.assign (.tmp 15)) none]
def r16_6 : List PS := [.mk (some 16) (.move (.tmp 0)) none,
  .mk (some 17) (.move (.tmp 5)) none,
  .mk (some 18) (.indexAddr 24 (.tmp 16) (.tmp 17)) none,
  .mk (some 19) (.load 33 (.tmp 18)) none,
  .mk (some 20) (.move (.tmp 1)) none,
  .mk (some 21) (.move (.tmp 5)) none,
  .mk (some 22) (.indexAddr 24 (.tmp 20) (.tmp 21)) none,
  .mk (some 23) (.load 33 (.tmp 22)) none,
  .mk (some 24) (.binOp .neq 33 (.tmp 19) (.tmp 23) 33) none]
def r16_7 : List PS := [.mk (some 4) (.assign (.const (.bool false))) none]
def r16_8 : List PS := [.mk (some 25) (.binOp .add 3 (.tmp 13) (.const (.int .i64 1)) 3) none,
  .mk (some 13) (.move (.tmp 25)) none]
def r16_9 : List PS := [.mk (some 4) (.assign (.const (.bool true))) none]
def c16 : PC := (.seq (.reg false r16_0) (.seq (.seq (.reg false r16_1) (.cond (.tmp 10) (.seq (.reg false r16_2) .ret) .skip)) (.seq (.seq (.reg false r16_3) (.block 0 (.loop (.seq (.reg false r16_4) (.seq (.cond (.tmp 14) .skip (.exit 0)) (.seq (.block 1 (.seq (.reg false r16_5) (.seq (.reg true r16_6) (.cond (.tmp 24) (.seq (.reg false r16_7) .ret) .skip)))) (.reg false r16_8))))))) (.seq (.reg false r16_9) .ret))))
theorem e16 (hl : args.length = 2) (s : pwp Tryz.prog [] c16 (fin Tryz.prog [.tmp 4] h K) (slots0 (olds args)) h) : CanP Tryz.prog 16 args h K :=
  can_of2 (n := 26) mixed Tryz.func16 rfl (by kernel_rfl) (by rw [hl]; kernel_rfl) rfl (by kernel_rfl) s
/-! ### naskh.lint.Name: function 17 -/
def r17_0 : List PS := [.mk (some 2) (.assign (.const (.string ⟨#[]⟩))) none]
def r17_1 : List PS := [.mk (some 3) (.move (.tmp 0)) none]
def r17_2 : List PS := [.mk (some 5) (.binOp .eql 3 (.tmp 3) (.const (.int .i64 1)) 3) none,
  .mk (some 4) (.assign (.tmp 5)) none]
def r17_3 : List PS := [.mk (some 2) (.assign (.const (.string ⟨#[105, 108, 108]⟩))) none]
def r17_4 : List PS := [.mk (some 7) (.binOp .eql 3 (.tmp 3) (.const (.int .i64 2)) 3) none,
  .mk (some 6) (.assign (.tmp 7)) none]
def r17_5 : List PS := [.mk (some 2) (.assign (.const (.string ⟨#[111, 112, 101, 110]⟩))) none]
def r17_6 : List PS := [.mk (some 9) (.binOp .eql 3 (.tmp 3) (.const (.int .i64 3)) 3) none,
  .mk (some 8) (.assign (.tmp 9)) none]
def r17_7 : List PS := [.mk (some 2) (.assign (.const (.string ⟨#[108, 111, 111, 115, 101]⟩))) none]
def r17_8 : List PS := [.mk (some 11) (.binOp .eql 3 (.tmp 3) (.const (.int .i64 4)) 3) none,
  .mk (some 10) (.assign (.tmp 11)) none]
def r17_9 : List PS := [.mk (some 2) (.assign (.const (.string ⟨#[102, 111, 114, 109, 101, 100]⟩))) none]
def r17_10 : List PS := [.mk (some 13) (.binOp .eql 3 (.tmp 3) (.const (.int .i64 5)) 3) none,
  .mk (some 12) (.assign (.tmp 13)) none]
def r17_11 : List PS := [.mk (some 2) (.assign (.const (.string ⟨#[98, 97, 114, 101]⟩))) none]
def r17_12 : List PS := [.mk (some 15) (.binOp .eql 3 (.tmp 3) (.const (.int .i64 6)) 3) none,
  .mk (some 14) (.assign (.tmp 15)) none]
def r17_13 : List PS := [.mk (some 2) (.assign (.const (.string ⟨#[111, 114, 100, 101, 114]⟩))) none]
def r17_14 : List PS := [.mk (some 17) (.binOp .eql 3 (.tmp 3) (.const (.int .i64 7)) 3) none,
  .mk (some 16) (.assign (.tmp 17)) none]
def r17_15 : List PS := [.mk (some 2) (.assign (.const (.string ⟨#[100, 105, 103, 105, 116, 115]⟩))) none]
def r17_16 : List PS := [.mk (some 19) (.binOp .eql 3 (.tmp 3) (.const (.int .i64 8)) 3) none,
  .mk (some 18) (.assign (.tmp 19)) none]
def r17_17 : List PS := [.mk (some 2) (.assign (.const (.string ⟨#[114, 111, 119]⟩))) none]
def r17_18 : List PS := [.mk (some 2) (.assign (.const (.string ⟨#[]⟩))) none]
def c17 : PC := (.seq (.reg false r17_0) (.seq (.seq (.reg false r17_1) (.block 0 (.seq (.reg false r17_2) (.cond (.tmp 4) (.seq (.reg false r17_3) .ret) (.seq (.reg false r17_4) (.cond (.tmp 6) (.seq (.reg false r17_5) .ret) (.seq (.reg false r17_6) (.cond (.tmp 8) (.seq (.reg false r17_7) .ret) (.seq (.reg false r17_8) (.cond (.tmp 10) (.seq (.reg false r17_9) .ret) (.seq (.reg false r17_10) (.cond (.tmp 12) (.seq (.reg false r17_11) .ret) (.seq (.reg false r17_12) (.cond (.tmp 14) (.seq (.reg false r17_13) .ret) (.seq (.reg false r17_14) (.cond (.tmp 16) (.seq (.reg false r17_15) .ret) (.seq (.reg false r17_16) (.cond (.tmp 18) (.seq (.reg false r17_17) .ret) .skip)))))))))))))))))) (.seq (.reg false r17_18) .ret)))
theorem e17 (hl : args.length = 1) (s : pwp Tryz.prog [] c17 (fin Tryz.prog [.tmp 2] h K) (slots0 (olds args)) h) : CanP Tryz.prog 17 args h K :=
  can_of2 (n := 20) mixed Tryz.func17 rfl (by kernel_rfl) (by rw [hl]; kernel_rfl) rfl (by kernel_rfl) s
/-! ### naskh.naskhlaw49.awake: function 6 -/
def r6_0 : List PS := [.mk (some 0) (.assign (.const (.bool false))) none]
def r6_1 : List PS := [.mk (some 2) (.call ⟨(.value (.func 8)), #[], #[]⟩) none,
  .mk (some 3) (.call ⟨(.value (.func 9)), #[], #[]⟩) none,
  .mk (some 4) (.buildSlice 22 2 #[(0, (.const (.int .i64 1616))), (1, (.const (.int .i64 1614)))]) none,
  .mk (some 5) (.call ⟨(.value (.func 7)), #[(.tmp 2), (.tmp 3), (.tmp 4)], #[26, 28, 22]⟩) none,
  .mk (some 1) (.assign (.tmp 5)) none]
def r6_2 : List PS := [.mk (some 6) (.move (.tmp 1)) none,
  .mk (some 7) (.build 33 #[(0, (.const (.int .i64 0))), (1, (.const (.int .i64 5)))]) none,
  .mk (some 8) (.build 33 #[(0, (.const (.int .i64 1))), (1, (.const (.int .i64 6)))]) none,
  .mk (some 9) (.buildSlice 24 2 #[(0, (.tmp 7)), (1, (.tmp 8))]) none,
  .mk (some 10) (.call ⟨(.value (.func 16)), #[(.tmp 6), (.tmp 9)], #[24, 24]⟩) none,
  .mk (some 11) (.move (.tmp 10)) none,
  .mk (some 12) (.call ⟨(.value (.func 17)), #[(.const (.int .i64 8))], #[3]⟩) (some (11, true)),
  .mk (some 13) (.binOp .eql 9 (.tmp 12) (.const (.string ⟨#[114, 111, 119]⟩)) 9) (some (11, true)),
  .mk (some 14) (.pick (.tmp 11) (.tmp 13) (.const (.bool false))) none,
  .mk (some 0) (.assign (.tmp 14)) none]
def c6 : PC := (.seq (.reg false r6_0) (.seq (.reg false r6_1) (.seq (.reg false r6_2) .ret)))
theorem e6 (hl : args.length = 0) (s : pwp Tryz.prog [] c6 (fin Tryz.prog [.tmp 0] h K) (slots0 (olds args)) h) : CanP Tryz.prog 6 args h K :=
  can_of2 (n := 15) mixed Tryz.func6 rfl (by kernel_rfl) (by rw [hl]; kernel_rfl) rfl (by kernel_rfl) s
/-! ### naskh.naskhref06.Get: function 97 -/
def r97_0 : List PS := [.mk (some 6) (.assign (.const (.int .i64 0))) none]
def r97_1 : List PS := [.mk (some 7) (.assign (.const (.int .i64 0))) none]
def r97_2 : List PS := [.mk (some 8) (.move (.tmp 7)) none,
  .mk (some 9) (.move (.tmp 0)) none,
  .mk (some 10) (.call ⟨(.builtin .len), #[(.tmp 9)], #[57]⟩) none,
  .mk (some 11) (.binOp .lss 3 (.tmp 8) (.tmp 10) 3) none]
def r97_3 : List PS := [.mk (some 14) (.move (.tmp 2)) none,
  .mk (some 15) (.move (.tmp 0)) none,
  .mk (some 16) (.move (.tmp 7)) none,
  .mk (some 17) (.indexAddr 57 (.tmp 15) (.tmp 16)) none,
  .mk (some 18) (.fieldAddr 99 (.tmp 17) 0) none,
  .mk (some 19) (.load 3 (.tmp 18)) none,
  .mk (some 20) (.binOp .geq 3 (.tmp 14) (.tmp 19) 3) none,
  .mk (some 21) (.move (.tmp 20)) none,
  .mk (some 22) (.move (.tmp 2)) (some (21, true)),
  .mk (some 23) (.move (.tmp 0)) (some (21, true)),
  .mk (some 24) (.move (.tmp 7)) (some (21, true)),
  .mk (some 25) (.indexAddr 57 (.tmp 23) (.tmp 24)) (some (21, true)),
  .mk (some 26) (.fieldAddr 99 (.tmp 25) 1) (some (21, true)),
  .mk (some 27) (.load 3 (.tmp 26)) (some (21, true)),
  .mk (some 28) (.binOp .leq 3 (.tmp 22) (.tmp 27) 3) (some (21, true)),
  .mk (some 29) (.pick (.tmp 21) (.tmp 28) (.const (.bool false))) none]
def r97_4 : List PS := [.mk (some 30) (.move (.tmp 0)) none,
  .mk (some 31) (.move (.tmp 7)) none,
  .mk (some 32) (.indexAddr 57 (.tmp 30) (.tmp 31)) none,
  .mk (some 33) (.fieldAddr 99 (.tmp 32) 2) none,
  .mk (some 34) (.load 3 (.tmp 33)) none,
  .mk (some 6) (.assign (.tmp 34)) none]
def r97_5 : List PS := [.mk (some 12) (.move (.tmp 7)) none,
  .mk (some 13) (.binOp .add 3 (.tmp 12) (.const (.int .i64 1)) 3) none,
  .mk (some 7) (.assign (.tmp 13)) none]
def r97_6 : List PS := [.mk (some 35) (.move (.tmp 1)) none,
  .mk (some 6) (.assign (.tmp 35)) none]
def c97 : PC := (.seq (.reg false r97_0) (.seq (.seq (.reg false r97_1) (.block 0 (.loop (.seq (.seq (.reg false r97_2) (.cond (.tmp 11) .skip (.exit 0))) (.seq (.block 1 (.seq (.reg false r97_3) (.cond (.tmp 29) (.seq (.reg false r97_4) .ret) .skip))) (.reg false r97_5)))))) (.seq (.reg false r97_6) .ret)))
theorem e97 (hl : args.length = 3) (s : pwp Tryz.prog [] c97 (fin Tryz.prog [.tmp 6] h K) (slots0 (olds args)) h) : CanP Tryz.prog 97 args h K :=
  can_of2 (n := 36) mixed Tryz.func97 rfl (by kernel_rfl) (by rw [hl]; kernel_rfl) rfl (by kernel_rfl) s
/-! ### naskh.naskhref07.Class: function 58 -/
def r58_0 : List PS := [.mk (some 2) (.assign (.const (.int .i64 0))) none]
def r58_1 : List PS := [.mk (some 3) (.move (.tmp 0)) none,
  .mk (some 4) (.binOp .lss 3 (.tmp 3) (.const (.int .i64 0)) 3) none,
  .mk (some 5) (.move (.tmp 4)) none,
  .mk (some 6) (.move (.tmp 0)) (some (5, false)),
  .mk (some 7) (.binOp .gtr 3 (.tmp 6) (.const (.int .i64 1114111)) 3) (some (5, false)),
  .mk (some 8) (.pick (.tmp 5) (.const (.bool true)) (.tmp 7)) none]
def r58_2 : List PS := [.mk (some 2) (.assign (.const (.int .i64 13))) none]
def r58_3 : List PS := [.mk (some 9) (.call ⟨(.value (.func 22)), #[], #[]⟩) none,
  .mk (some 10) (.move (.tmp 0)) none,
  .mk (some 11) (.call ⟨(.value (.func 97)), #[(.tmp 9), (.const (.int .i64 0)), (.tmp 10)], #[57, 3, 3]⟩) none,
  .mk (some 2) (.assign (.tmp 11)) none]
def c58 : PC := (.seq (.reg false r58_0) (.seq (.seq (.reg false r58_1) (.cond (.tmp 8) (.seq (.reg false r58_2) .ret) .skip)) (.seq (.reg false r58_3) .ret)))
theorem e58 (hl : args.length = 1) (s : pwp Tryz.prog [] c58 (fin Tryz.prog [.tmp 2] h K) (slots0 (olds args)) h) : CanP Tryz.prog 58 args h K :=
  can_of2 (n := 12) mixed Tryz.func58 rfl (by kernel_rfl) (by rw [hl]; kernel_rfl) rfl (by kernel_rfl) s
/-! ### naskh.naskhref20.Split: function 25 -/
def r25_0 : List PS := [.mk (some 2) (.assign (.const (.slice none 0 0))) none]
def r25_1 : List PS := [.mk (some 3) (.assign (.const (.slice none 0 0))) none]
def r25_2 : List PS := [.mk (some 4) (.assign (.const (.int .i64 0))) none]
def r25_3 : List PS := [.mk (some 5) (.assign (.const (.int .i64 0))) none]
def r25_4 : List PS := [.mk (some 7) (.move (.tmp 5)) none,
  .mk (some 8) (.move (.tmp 0)) none,
  .mk (some 9) (.call ⟨(.builtin .len), #[(.tmp 8)], #[22]⟩) none,
  .mk (some 10) (.binOp .lss 3 (.tmp 7) (.tmp 9) 3) none]
def r25_5 : List PS := [.mk (some 13) (.move (.tmp 0)) none,
  .mk (some 14) (.move (.tmp 5)) none,
  .mk (some 15) (.indexAddr 22 (.tmp 13) (.tmp 14)) none,
  .mk (some 16) (.load 3 (.tmp 15)) none,
  .mk (some 17) (.binOp .eql 3 (.tmp 16) (.const (.int .i64 13)) 3) none,
  .mk (some 18) (.move (.tmp 17)) none,
  .mk (some 19) (.move (.tmp 5)) (some (18, true)),
  .mk (some 20) (.binOp .add 3 (.tmp 19) (.const (.int .i64 1)) 3) (some (18, true)),
  .mk (some 21) (.move (.tmp 0)) (some (18, true)),
  .mk (some 22) (.call ⟨(.builtin .len), #[(.tmp 21)], #[22]⟩) (some (18, true)),
  .mk (some 23) (.binOp .lss 3 (.tmp 20) (.tmp 22) 3) (some (18, true)),
  .mk (some 24) (.pick (.tmp 18) (.tmp 23) (.const (.bool false))) none,
  .mk (some 25) (.move (.tmp 24)) none,
  .mk (some 26) (.move (.tmp 0)) (some (25, true)),
  .mk (some 27) (.move (.tmp 5)) (some (25, true)),
  .mk (some 28) (.binOp .add 3 (.tmp 27) (.const (.int .i64 1)) 3) (some (25, true)),
  .mk (some 29) (.indexAddr 22 (.tmp 26) (.tmp 28)) (some (25, true)),
  .mk (some 30) (.load 3 (.tmp 29)) (some (25, true)),
  .mk (some 31) (.binOp .eql 3 (.tmp 30) (.const (.int .i64 10)) 3) (some (25, true)),
  .mk (some 32) (.pick (.tmp 25) (.tmp 31) (.const (.bool false))) none,
  .mk (some 6) (.assign (.tmp 32)) none]
def r25_6 : List PS := [.mk (some 33) (.move (.tmp 0)) none,
  .mk (some 34) (.move (.tmp 5)) none,
  .mk (some 35) (.indexAddr 22 (.tmp 33) (.tmp 34)) none,
  .mk (some 36) (.load 3 (.tmp 35)) none,
  .mk (some 37) (.call ⟨(.value (.func 58)), #[(.tmp 36)], #[3]⟩) none,
  .mk (some 38) (.binOp .eql 3 (.tmp 37) (.const (.int .i64 10)) 3) none,
  .mk (some 39) (.move (.tmp 38)) none,
  .mk (some 40) (.move (.tmp 6)) (some (39, true)),
  .mk (some 41) (.unOp .not 4 (.tmp 40)) (some (39, true)),
  .mk (some 42) (.pick (.tmp 39) (.tmp 41) (.const (.bool false))) none,
  .mk (some 43) (.move (.tmp 42)) none,
  .mk (some 44) (.move (.tmp 5)) (some (43, false)),
  .mk (some 45) (.binOp .add 3 (.tmp 44) (.const (.int .i64 1)) 3) (some (43, false)),
  .mk (some 46) (.move (.tmp 0)) (some (43, false)),
  .mk (some 47) (.call ⟨(.builtin .len), #[(.tmp 46)], #[22]⟩) (some (43, false)),
  .mk (some 48) (.binOp .eql 3 (.tmp 45) (.tmp 47) 3) (some (43, false)),
  .mk (some 49) (.pick (.tmp 43) (.const (.bool true)) (.tmp 48)) none]
def r25_7 : List PS := [.mk (some 50) (.move (.tmp 3)) none,
  .mk (some 51) (.move (.tmp 4)) none,
  .mk (some 52) (.move (.tmp 5)) none,
  .mk (some 53) (.binOp .add 3 (.tmp 52) (.const (.int .i64 1)) 3) none,
  .mk (some 54) (.build 49 #[(0, (.tmp 51)), (1, (.tmp 53))]) none,
  .mk (some 55) (.buildSlice 46 1 #[(0, (.tmp 54))]) none,
  .mk (some 56) (.call ⟨(.builtin .append), #[(.tmp 50), (.tmp 55)], #[46, 46]⟩) none,
  .mk (some 3) (.assign (.tmp 56)) none]
def r25_8 : List PS := [.mk (some 57) (.move (.tmp 5)) none,
  .mk (some 58) (.binOp .add 3 (.tmp 57) (.const (.int .i64 1)) 3) none,
  .mk (some 4) (.assign (.tmp 58)) none]
def r25_9 : List PS := [.mk (some 11) (.move (.tmp 5)) none,
  .mk (some 12) (.binOp .add 3 (.tmp 11) (.const (.int .i64 1)) 3) none,
  .mk (some 5) (.assign (.tmp 12)) none]
def r25_10 : List PS := [.mk (some 59) (.move (.tmp 3)) none,
  .mk (some 2) (.assign (.tmp 59)) none]
def c25 : PC := (.seq (.reg false r25_0) (.seq (.reg false r25_1) (.seq (.reg false r25_2) (.seq (.seq (.reg false r25_3) (.block 0 (.loop (.seq (.seq (.reg false r25_4) (.cond (.tmp 10) .skip (.exit 0))) (.seq (.block 1 (.seq (.reg false r25_5) (.seq (.reg false r25_6) (.cond (.tmp 49) (.seq (.reg false r25_7) (.reg false r25_8)) .skip)))) (.reg false r25_9)))))) (.seq (.reg false r25_10) .ret)))))
theorem e25 (hl : args.length = 1) (s : pwp Tryz.prog [] c25 (fin Tryz.prog [.tmp 2] h K) (slots0 (olds args)) h) : CanP Tryz.prog 25 args h K :=
  can_of2 (n := 60) mixed Tryz.func25 rfl (by kernel_rfl) (by rw [hl]; kernel_rfl) rfl (by kernel_rfl) s
/-! ### naskh.naskhref07.Classes: function 26 -/
def r26_0 : List PS := [.mk (some 2) (.assign (.const (.slice none 0 0))) none]
def r26_1 : List PS := [.mk (some 3) (.assign (.const (.slice none 0 0))) none]
def r26_2 : List PS := [.mk (some 4) (.assign (.const (.int .i64 0))) none]
def r26_3 : List PS := [.mk (some 5) (.move (.tmp 4)) none,
  .mk (some 6) (.move (.tmp 0)) none,
  .mk (some 7) (.call ⟨(.builtin .len), #[(.tmp 6)], #[22]⟩) none,
  .mk (some 8) (.binOp .lss 3 (.tmp 5) (.tmp 7) 3) none]
def r26_4 : List PS := [.mk (some 11) (.move (.tmp 3)) none,
  .mk (some 12) (.move (.tmp 0)) none,
  .mk (some 13) (.move (.tmp 4)) none,
  .mk (some 14) (.indexAddr 22 (.tmp 12) (.tmp 13)) none,
  .mk (some 15) (.load 3 (.tmp 14)) none,
  .mk (some 16) (.call ⟨(.value (.func 58)), #[(.tmp 15)], #[3]⟩) none,
  .mk (some 17) (.buildSlice 22 1 #[(0, (.tmp 16))]) none,
  .mk (some 18) (.call ⟨(.builtin .append), #[(.tmp 11), (.tmp 17)], #[22, 22]⟩) none,
  .mk (some 3) (.assign (.tmp 18)) none]
def r26_5 : List PS := [.mk (some 9) (.move (.tmp 4)) none,
  .mk (some 10) (.binOp .add 3 (.tmp 9) (.const (.int .i64 1)) 3) none,
  .mk (some 4) (.assign (.tmp 10)) none]
def r26_6 : List PS := [.mk (some 19) (.move (.tmp 3)) none,
  .mk (some 2) (.assign (.tmp 19)) none]
def c26 : PC := (.seq (.reg false r26_0) (.seq (.reg false r26_1) (.seq (.seq (.reg false r26_2) (.block 0 (.loop (.seq (.seq (.reg false r26_3) (.cond (.tmp 8) .skip (.exit 0))) (.seq (.block 1 (.reg false r26_4)) (.reg false r26_5)))))) (.seq (.reg false r26_6) .ret))))
theorem e26 (hl : args.length = 1) (s : pwp Tryz.prog [] c26 (fin Tryz.prog [.tmp 2] h K) (slots0 (olds args)) h) : CanP Tryz.prog 26 args h K :=
  can_of2 (n := 20) mixed Tryz.func26 rfl (by kernel_rfl) (by rw [hl]; kernel_rfl) rfl (by kernel_rfl) s
/-! ### naskh.naskhref47.Embeds: function 98 -/
def r98_0 : List PS := [.mk (some 2) (.assign (.const (.bool false))) none]
def r98_1 : List PS := [.mk (some 3) (.move (.tmp 0)) none,
  .mk (some 4) (.binOp .eql 3 (.tmp 3) (.const (.int .i64 14)) 3) none,
  .mk (some 5) (.move (.tmp 4)) none,
  .mk (some 6) (.move (.tmp 0)) (some (5, false)),
  .mk (some 7) (.binOp .eql 3 (.tmp 6) (.const (.int .i64 15)) 3) (some (5, false)),
  .mk (some 8) (.pick (.tmp 5) (.const (.bool true)) (.tmp 7)) none,
  .mk (some 9) (.move (.tmp 8)) none,
  .mk (some 10) (.move (.tmp 0)) (some (9, false)),
  .mk (some 11) (.binOp .eql 3 (.tmp 10) (.const (.int .i64 16)) 3) (some (9, false)),
  .mk (some 12) (.pick (.tmp 9) (.const (.bool true)) (.tmp 11)) none,
  .mk (some 13) (.move (.tmp 12)) none,
  .mk (some 14) (.move (.tmp 0)) (some (13, false)),
  .mk (some 15) (.binOp .eql 3 (.tmp 14) (.const (.int .i64 17)) 3) (some (13, false)),
  .mk (some 16) (.pick (.tmp 13) (.const (.bool true)) (.tmp 15)) none,
  .mk (some 2) (.assign (.tmp 16)) none]
def c98 : PC := (.seq (.reg false r98_0) (.seq (.reg false r98_1) .ret))
theorem e98 (hl : args.length = 1) (s : pwp Tryz.prog [] c98 (fin Tryz.prog [.tmp 2] h K) (slots0 (olds args)) h) : CanP Tryz.prog 98 args h K :=
  can_of2 (n := 17) mixed Tryz.func98 rfl (by kernel_rfl) (by rw [hl]; kernel_rfl) rfl (by kernel_rfl) s
/-! ### naskh.naskhref20.Opens: function 99 -/
def r99_0 : List PS := [.mk (some 2) (.assign (.const (.bool false))) none]
def r99_1 : List PS := [.mk (some 3) (.move (.tmp 0)) none,
  .mk (some 4) (.binOp .eql 3 (.tmp 3) (.const (.int .i64 19)) 3) none,
  .mk (some 5) (.move (.tmp 4)) none,
  .mk (some 6) (.move (.tmp 0)) (some (5, false)),
  .mk (some 7) (.binOp .eql 3 (.tmp 6) (.const (.int .i64 20)) 3) (some (5, false)),
  .mk (some 8) (.pick (.tmp 5) (.const (.bool true)) (.tmp 7)) none,
  .mk (some 9) (.move (.tmp 8)) none,
  .mk (some 10) (.move (.tmp 0)) (some (9, false)),
  .mk (some 11) (.binOp .eql 3 (.tmp 10) (.const (.int .i64 21)) 3) (some (9, false)),
  .mk (some 12) (.pick (.tmp 9) (.const (.bool true)) (.tmp 11)) none,
  .mk (some 2) (.assign (.tmp 12)) none]
def c99 : PC := (.seq (.reg false r99_0) (.seq (.reg false r99_1) .ret))
theorem e99 (hl : args.length = 1) (s : pwp Tryz.prog [] c99 (fin Tryz.prog [.tmp 2] h K) (slots0 (olds args)) h) : CanP Tryz.prog 99 args h K :=
  can_of2 (n := 13) mixed Tryz.func99 rfl (by kernel_rfl) (by rw [hl]; kernel_rfl) rfl (by kernel_rfl) s
/-! ### naskh.naskhref47.walk: function 59 -/
def r59_0 : List PS := [.mk (some 2) (.assign (.const (.slice none 0 0))) none,
  .mk (some 3) (.assign (.const (.slice none 0 0))) none,
  .mk (some 4) (.assign (.const (.slice none 0 0))) none]
def r59_1 : List PS := [.mk (some 5) (.assign (.const (.slice none 0 0))) none,
  .mk (some 6) (.assign (.const (.slice none 0 0))) none,
  .mk (some 7) (.assign (.const (.slice none 0 0))) none]
def r59_2 : List PS := [.mk (some 8) (.assign (.const (.int .i64 0))) none]
def r59_3 : List PS := [.mk (some 12) (.move (.tmp 8)) none,
  .mk (some 13) (.move (.tmp 0)) none,
  .mk (some 14) (.call ⟨(.builtin .len), #[(.tmp 13)], #[22]⟩) none,
  .mk (some 15) (.binOp .lss 3 (.tmp 12) (.tmp 14) 3) none]
def r59_4 : List PS := [.mk (some 18) (.move (.tmp 0)) none,
  .mk (some 19) (.move (.tmp 8)) none,
  .mk (some 20) (.indexAddr 22 (.tmp 18) (.tmp 19)) none,
  .mk (some 21) (.load 3 (.tmp 20)) none,
  .mk (some 9) (.assign (.tmp 21)) none]
def r59_5 : List PS := [.mk (some 22) (.move (.tmp 5)) none,
  .mk (some 23) (.call ⟨(.builtin .len), #[(.tmp 22)], #[22]⟩) none,
  .mk (some 10) (.assign (.tmp 23)) none]
def r59_6 : List PS := [.mk (some 25) (.move (.tmp 9)) none,
  .mk (some 26) (.call ⟨(.value (.func 98)), #[(.tmp 25)], #[3]⟩) none,
  .mk (some 27) (.move (.tmp 26)) none,
  .mk (some 28) (.move (.tmp 9)) (some (27, false)),
  .mk (some 29) (.call ⟨(.value (.func 99)), #[(.tmp 28)], #[3]⟩) (some (27, false)),
  .mk (some 30) (.pick (.tmp 27) (.const (.bool true)) (.tmp 29)) none,
  .mk (some 24) (.assign (.tmp 30)) none]
def r59_7 : List PS := [.mk (some 31) (.move (.tmp 5)) none,
  .mk (some 32) (.move (.tmp 8)) none,
  .mk (some 33) (.buildSlice 22 1 #[(0, (.tmp 32))]) none,
  .mk (some 34) (.call ⟨(.builtin .append), #[(.tmp 31), (.tmp 33)], #[22, 22]⟩) none,
  .mk (some 5) (.assign (.tmp 34)) none]
def r59_8 : List PS := [.mk (some 36) (.move (.tmp 9)) none,
  .mk (some 37) (.binOp .eql 3 (.tmp 36) (.const (.int .i64 18)) 3) none,
  .mk (some 38) (.move (.tmp 37)) none,
  .mk (some 39) (.move (.tmp 10)) (some (38, true)),
  .mk (some 40) (.binOp .gtr 3 (.tmp 39) (.const (.int .i64 0)) 3) (some (38, true)),
  .mk (some 41) (.pick (.tmp 38) (.tmp 40) (.const (.bool false))) none,
  .mk (some 42) (.move (.tmp 41)) none,
  .mk (some 43) (.move (.tmp 0)) (some (42, true)),
  .mk (some 44) (.move (.tmp 5)) (some (42, true)),
  .mk (some 45) (.move (.tmp 10)) (some (42, true)),
  .mk (some 46) (.binOp .sub 3 (.tmp 45) (.const (.int .i64 1)) 3) (some (42, true)),
  .mk (some 47) (.indexAddr 22 (.tmp 44) (.tmp 46)) (some (42, true)),
  .mk (some 48) (.load 3 (.tmp 47)) (some (42, true)),
  .mk (some 49) (.indexAddr 22 (.tmp 43) (.tmp 48)) (some (42, true)),
  .mk (some 50) (.load 3 (.tmp 49)) (some (42, true)),
  .mk (some 51) (.call ⟨(.value (.func 98)), #[(.tmp 50)], #[3]⟩) (some (42, true)),
  .mk (some 52) (.pick (.tmp 42) (.tmp 51) (.const (.bool false))) none,
  .mk (some 35) (.assign (.tmp 52)) none]
def r59_9 : List PS := [.mk (some 53) (.move (.tmp 5)) none,
  .mk (some 54) (.move (.tmp 10)) none,
  .mk (some 55) (.binOp .sub 3 (.tmp 54) (.const (.int .i64 1)) 3) none,
  .mk (some 56) (.slice 22 (.tmp 53) none (some (.tmp 55)) none) none,
  .mk (some 5) (.assign (.tmp 56)) none]
def r59_10 : List PS := [.mk (some 58) (.move (.tmp 9)) none,
  .mk (some 59) (.binOp .eql 3 (.tmp 58) (.const (.int .i64 18)) 3) none,
  .mk (some 57) (.assign (.tmp 59)) none]
def r59_11 : List PS := [.mk (some 60) (.move (.tmp 7)) none,
  .mk (some 61) (.move (.tmp 8)) none,
  .mk (some 62) (.buildSlice 22 1 #[(0, (.tmp 61))]) none,
  .mk (some 63) (.call ⟨(.builtin .append), #[(.tmp 60), (.tmp 62)], #[22, 22]⟩) none,
  .mk (some 7) (.assign (.tmp 63)) none]
def r59_12 : List PS := [.mk (some 65) (.move (.tmp 9)) none,
  .mk (some 66) (.binOp .eql 3 (.tmp 65) (.const (.int .i64 22)) 3) none,
  .mk (some 64) (.assign (.tmp 66)) none]
def r59_13 : List PS := [.mk (some 67) (.move (.tmp 10)) none,
  .mk (some 68) (.binOp .sub 3 (.tmp 67) (.const (.int .i64 1)) 3) none,
  .mk (some 11) (.assign (.tmp 68)) none]
def r59_14 : List PS := [.mk (some 69) (.move (.tmp 11)) none,
  .mk (some 70) (.binOp .geq 3 (.tmp 69) (.const (.int .i64 0)) 3) none,
  .mk (some 71) (.move (.tmp 70)) none,
  .mk (some 72) (.move (.tmp 0)) (some (71, true)),
  .mk (some 73) (.move (.tmp 5)) (some (71, true)),
  .mk (some 74) (.move (.tmp 11)) (some (71, true)),
  .mk (some 75) (.indexAddr 22 (.tmp 73) (.tmp 74)) (some (71, true)),
  .mk (some 76) (.load 3 (.tmp 75)) (some (71, true)),
  .mk (some 77) (.indexAddr 22 (.tmp 72) (.tmp 76)) (some (71, true)),
  .mk (some 78) (.load 3 (.tmp 77)) (some (71, true)),
  .mk (some 79) (.call ⟨(.value (.func 98)), #[(.tmp 78)], #[3]⟩) (some (71, true)),
  .mk (some 80) (.pick (.tmp 71) (.tmp 79) (.const (.bool false))) none]
def r59_15 : List PS := [.mk (some 81) (.move (.tmp 11)) none,
  .mk (some 82) (.binOp .sub 3 (.tmp 81) (.const (.int .i64 1)) 3) none,
  .mk (some 11) (.assign (.tmp 82)) none]
def r59_16 : List PS := [.mk (some 83) (.move (.tmp 11)) none,
  .mk (some 84) (.binOp .lss 3 (.tmp 83) (.const (.int .i64 0)) 3) none]
def r59_17 : List PS := [.mk (some 85) (.move (.tmp 7)) none,
  .mk (some 86) (.move (.tmp 8)) none,
  .mk (some 87) (.buildSlice 22 1 #[(0, (.tmp 86))]) none,
  .mk (some 88) (.call ⟨(.builtin .append), #[(.tmp 85), (.tmp 87)], #[22, 22]⟩) none,
  .mk (some 7) (.assign (.tmp 88)) none]
def r59_18 : List PS := [.mk (some 89) (.move (.tmp 6)) none,
  .mk (some 90) (.move (.tmp 5)) none,
  .mk (some 91) (.move (.tmp 11)) none,
  .mk (some 92) (.binOp .add 3 (.tmp 91) (.const (.int .i64 1)) 3) none,
  .mk (some 93) (.slice 22 (.tmp 90) (some (.tmp 92)) none none) none,
  .mk (some 94) (.call ⟨(.builtin .append), #[(.tmp 89), (.tmp 93)], #[22, 22]⟩) none,
  .mk (some 6) (.assign (.tmp 94)) none]
def r59_19 : List PS := [.mk (some 95) (.move (.tmp 5)) none,
  .mk (some 96) (.move (.tmp 11)) none,
  .mk (some 97) (.slice 22 (.tmp 95) none (some (.tmp 96)) none) none,
  .mk (some 5) (.assign (.tmp 97)) none]
def r59_20 : List PS := [.mk (some 16) (.move (.tmp 8)) none,
  .mk (some 17) (.binOp .add 3 (.tmp 16) (.const (.int .i64 1)) 3) none,
  .mk (some 8) (.assign (.tmp 17)) none]
def r59_21 : List PS := [.mk (some 98) (.move (.tmp 5)) none,
  .mk (some 99) (.move (.tmp 6)) none,
  .mk (some 100) (.move (.tmp 7)) none,
  .mk (some 2) (.assign (.tmp 98)) none,
  .mk (some 3) (.assign (.tmp 99)) none,
  .mk (some 4) (.assign (.tmp 100)) none]
def c59 : PC := (.seq (.reg false r59_0) (.seq (.reg false r59_1) (.seq (.seq (.reg false r59_2) (.block 0 (.loop (.seq (.seq (.reg false r59_3) (.cond (.tmp 15) .skip (.exit 0))) (.seq (.block 1 (.seq (.reg false r59_4) (.seq (.reg false r59_5) (.block 2 (.seq (.reg false r59_6) (.cond (.tmp 24) (.reg false r59_7) (.seq (.reg false r59_8) (.cond (.tmp 35) (.reg false r59_9) (.seq (.reg false r59_10) (.cond (.tmp 57) (.reg false r59_11) (.seq (.reg false r59_12) (.cond (.tmp 64) (.seq (.reg false r59_13) (.seq (.block 3 (.loop (.seq (.seq (.reg false r59_14) (.cond (.tmp 80) .skip (.exit 3))) (.block 4 (.reg false r59_15))))) (.seq (.seq (.reg false r59_16) (.cond (.tmp 84) (.seq (.reg false r59_17) (.exit 1)) .skip)) (.seq (.reg false r59_18) (.reg false r59_19))))) .skip)))))))))))) (.reg false r59_20)))))) (.seq (.reg false r59_21) .ret))))
theorem e59 (hl : args.length = 1) (s : pwp Tryz.prog [] c59 (fin Tryz.prog [.tmp 2, .tmp 3, .tmp 4] h K) (slots0 (olds args)) h) : CanP Tryz.prog 59 args h K :=
  can_of2 (n := 101) mixed Tryz.func59 rfl (by kernel_rfl) (by rw [hl]; kernel_rfl) rfl (by kernel_rfl) s
/-! ### naskh.naskhref47.sorted: function 60 -/
def r60_0 : List PS := [.mk (some 2) (.assign (.const (.slice none 0 0))) none]
def r60_1 : List PS := [.mk (some 3) (.assign (.const (.slice none 0 0))) none]
def r60_2 : List PS := [.mk (some 4) (.assign (.const (.int .i64 0))) none]
def r60_3 : List PS := [.mk (some 6) (.move (.tmp 4)) none,
  .mk (some 7) (.move (.tmp 0)) none,
  .mk (some 8) (.call ⟨(.builtin .len), #[(.tmp 7)], #[22]⟩) none,
  .mk (some 9) (.binOp .lss 3 (.tmp 6) (.tmp 8) 3) none]
def r60_4 : List PS := [.frz 3,
  .mk (some 5) (.assign (.const (.int .i64 0))) none]
def r60_5 : List PS := [.mk (some 12) (.move (.tmp 5)) none,
  .mk (some 13) (.move (.tmp 3)) none,
  .mk (some 14) (.call ⟨(.builtin .len), #[(.tmp 13)], #[22]⟩) none,
  .mk (some 15) (.binOp .lss 3 (.tmp 12) (.tmp 14) 3) none,
  .mk (some 16) (.move (.tmp 15)) none,
  .mk (some 17) (.move (.tmp 3)) (some (16, true)),
  .mk (some 18) (.move (.tmp 5)) (some (16, true)),
  .mk (some 19) (.indexAddr 22 (.tmp 17) (.tmp 18)) (some (16, true)),
  .mk (some 20) (.load 3 (.tmp 19)) (some (16, true)),
  .mk (some 21) (.move (.tmp 0)) (some (16, true)),
  .mk (some 22) (.move (.tmp 4)) (some (16, true)),
  .mk (some 23) (.indexAddr 22 (.tmp 21) (.tmp 22)) (some (16, true)),
  .mk (some 24) (.load 3 (.tmp 23)) (some (16, true)),
  .mk (some 25) (.binOp .lss 3 (.tmp 20) (.tmp 24) 3) (some (16, true)),
  .mk (some 26) (.pick (.tmp 16) (.tmp 25) (.const (.bool false))) none]
def r60_6 : List PS := [.mk (some 27) (.move (.tmp 5)) none,
  .mk (some 28) (.binOp .add 3 (.tmp 27) (.const (.int .i64 1)) 3) none,
  .frz 3,
  .mk (some 5) (.assign (.tmp 28)) none]
def r60_7 : List PS := [.mk (some 29) (.move (.tmp 3)) none,
  .mk (some 30) (.move (.tmp 5)) none,
  .mk (some 31) (.slice 22 (.tmp 29) none (some (.tmp 30)) none) none,
  .mk (some 32) (.call ⟨(.builtin .append), #[(.const (.slice none 0 0)), (.tmp 31)], #[22, 22]⟩) none,
  .mk (some 33) (.move (.tmp 0)) none,
  .mk (some 34) (.move (.tmp 4)) none,
  .mk (some 35) (.indexAddr 22 (.tmp 33) (.tmp 34)) none,
  .mk (some 36) (.load 3 (.tmp 35)) none,
  .mk (some 37) (.buildSlice 22 1 #[(0, (.tmp 36))]) none,
  .mk (some 38) (.call ⟨(.builtin .append), #[(.tmp 32), (.tmp 37)], #[22, 22]⟩) none,
  .mk (some 39) (.move (.tmp 3)) none,
  .mk (some 40) (.move (.tmp 5)) none,
  .mk (some 41) (.slice 22 (.tmp 39) (some (.tmp 40)) none none) none,
  .mk (some 42) (.call ⟨(.builtin .append), #[(.tmp 38), (.tmp 41)], #[22, 22]⟩) none,
  .mk (some 3) (.assign (.tmp 42)) none]
def r60_8 : List PS := [.mk (some 10) (.move (.tmp 4)) none,
  .mk (some 11) (.binOp .add 3 (.tmp 10) (.const (.int .i64 1)) 3) none,
  .mk (some 4) (.assign (.tmp 11)) none]
def r60_9 : List PS := [.mk (some 43) (.move (.tmp 3)) none,
  .mk (some 2) (.assign (.tmp 43)) none]
def c60 : PC := (.seq (.reg false r60_0) (.seq (.reg false r60_1) (.seq (.seq (.reg false r60_2) (.block 0 (.loop (.seq (.seq (.reg false r60_3) (.cond (.tmp 9) .skip (.exit 0))) (.seq (.block 1 (.seq (.reg false r60_4) (.seq (.block 2 (.loop (.seq (.seq (.reg true r60_5) (.cond (.tmp 26) .skip (.exit 2))) (.block 3 (.reg false r60_6))))) (.reg true r60_7)))) (.reg false r60_8)))))) (.seq (.reg false r60_9) .ret))))
theorem e60 (hl : args.length = 1) (s : pwp Tryz.prog [36] c60 (fin Tryz.prog [.tmp 2] h K) (slots0 (olds args)) h) : CanP Tryz.prog 60 args h K :=
  can_of2 (n := 44) mixed Tryz.func60 rfl (by kernel_rfl) (by rw [hl]; kernel_rfl) rfl (by kernel_rfl) s
/-! ### naskh.naskhref47.Open: function 27 -/
def r27_0 : List PS := [.mk (some 2) (.assign (.const (.slice none 0 0))) none]
def r27_1 : List PS := [.mk (some 7) (.move (.tmp 0)) none,
  .mk (some 8) (.call ⟨(.value (.func 59)), #[(.tmp 7)], #[22]⟩) none,
  .mk (some 6) (.move (.tmp 8)) none,
  .mk (some 9) (.extract (.tmp 6) 0) none,
  .mk (some 10) (.extract (.tmp 6) 1) none,
  .mk (some 11) (.extract (.tmp 6) 2) none,
  .mk (some 3) (.assign (.tmp 9)) none,
  .mk (some 4) (.assign (.tmp 10)) none,
  .mk (some 5) (.assign (.tmp 11)) none]
def r27_2 : List PS := [.mk (some 12) (.move (.tmp 3)) none,
  .mk (some 13) (.call ⟨(.builtin .append), #[(.const (.slice none 0 0)), (.tmp 12)], #[22, 22]⟩) none,
  .mk (some 14) (.move (.tmp 4)) none,
  .mk (some 15) (.call ⟨(.builtin .append), #[(.tmp 13), (.tmp 14)], #[22, 22]⟩) none,
  .frz 15,
  .mk (some 16) (.call ⟨(.value (.func 60)), #[(.tmp 15)], #[22]⟩) none,
  .mk (some 2) (.assign (.tmp 16)) none]
def c27 : PC := (.seq (.reg false r27_0) (.seq (.reg false r27_1) (.seq (.reg false r27_2) .ret)))
theorem e27 (hl : args.length = 1) (s : pwp Tryz.prog [] c27 (fin Tryz.prog [.tmp 2] h K) (slots0 (olds args)) h) : CanP Tryz.prog 27 args h K :=
  can_of2 (n := 17) mixed Tryz.func27 rfl (by kernel_rfl) (by rw [hl]; kernel_rfl) rfl (by kernel_rfl) s
/-! ### naskh.naskhref47.Loose: function 28 -/
def r28_0 : List PS := [.mk (some 2) (.assign (.const (.slice none 0 0))) none]
def r28_1 : List PS := [.mk (some 7) (.move (.tmp 0)) none,
  .mk (some 8) (.call ⟨(.value (.func 59)), #[(.tmp 7)], #[22]⟩) none,
  .mk (some 6) (.move (.tmp 8)) none,
  .mk (some 9) (.extract (.tmp 6) 0) none,
  .mk (some 10) (.extract (.tmp 6) 1) none,
  .mk (some 11) (.extract (.tmp 6) 2) none,
  .mk (some 3) (.assign (.tmp 9)) none,
  .mk (some 4) (.assign (.tmp 10)) none,
  .mk (some 5) (.assign (.tmp 11)) none]
def r28_2 : List PS := [.mk (some 12) (.move (.tmp 5)) none,
  .mk (some 2) (.assign (.tmp 12)) none]
def c28 : PC := (.seq (.reg false r28_0) (.seq (.reg false r28_1) (.seq (.reg false r28_2) .ret)))
theorem e28 (hl : args.length = 1) (s : pwp Tryz.prog [] c28 (fin Tryz.prog [.tmp 2] h K) (slots0 (olds args)) h) : CanP Tryz.prog 28 args h K :=
  can_of2 (n := 13) mixed Tryz.func28 rfl (by kernel_rfl) (by rw [hl]; kernel_rfl) rfl (by kernel_rfl) s
/-! ### naskh.naskhref09.Base: function 40 -/
def r40_0 : List PS := [.mk (some 2) (.assign (.const (.int .i64 0))) none,
  .mk (some 3) (.assign (.const (.int .i64 0))) none,
  .mk (some 4) (.assign (.const (.bool false))) none]
def r40_1 : List PS := [.mk (some 8) (.call ⟨(.value (.func 80)), #[], #[]⟩) none,
  .mk (some 5) (.assign (.tmp 8)) none]
def r40_2 : List PS := [.mk (some 6) (.assign (.const (.int .i64 0))) none]
def r40_3 : List PS := [.mk (some 9) (.move (.tmp 6)) none,
  .mk (some 10) (.move (.tmp 5)) none,
  .mk (some 11) (.call ⟨(.builtin .len), #[(.tmp 10)], #[119]⟩) none,
  .mk (some 12) (.binOp .lss 3 (.tmp 9) (.tmp 11) 3) none]
def r40_4 : List PS := [.mk (some 7) (.assign (.const (.int .i64 0))) none]
def r40_5 : List PS := [.mk (some 15) (.move (.tmp 7)) none,
  .mk (some 16) (.binOp .lss 3 (.tmp 15) (.const (.int .i64 4)) 3) none]
def r40_6 : List PS := [.mk (some 19) (.move (.tmp 0)) none,
  .mk (some 20) (.binOp .neq 3 (.tmp 19) (.const (.int .i64 0)) 3) none,
  .mk (some 21) (.move (.tmp 20)) none,
  .mk (some 22) (.move (.tmp 5)) (some (21, true)),
  .mk (some 23) (.move (.tmp 6)) (some (21, true)),
  .mk (some 24) (.move (.tmp 7)) (some (21, true)),
  .mk (some 25) (.indexAddr 119 (.tmp 22) (.tmp 23)) (some (21, true)),
  .mk (some 26) (.fieldAddr 123 (.tmp 25) 1) (some (21, true)),
  .mk (some 27) (.indexAddr 121 (.tmp 26) (.tmp 24)) (some (21, true)),
  .mk (some 28) (.load 3 (.tmp 27)) (some (21, true)),
  .mk (some 29) (.move (.tmp 0)) (some (21, true)),
  .mk (some 30) (.binOp .eql 3 (.tmp 28) (.tmp 29) 3) (some (21, true)),
  .mk (some 31) (.pick (.tmp 21) (.tmp 30) (.const (.bool false))) none]
def r40_7 : List PS := [.mk (some 32) (.move (.tmp 5)) none,
  .mk (some 33) (.move (.tmp 6)) none,
  .mk (some 34) (.indexAddr 119 (.tmp 32) (.tmp 33)) none,
  .mk (some 35) (.fieldAddr 123 (.tmp 34) 0) none,
  .mk (some 36) (.load 3 (.tmp 35)) none,
  .mk (some 37) (.move (.tmp 7)) none,
  .mk (some 38) (.binOp .add 3 (.tmp 37) (.const (.int .i64 1)) 3) none,
  .mk (some 2) (.assign (.tmp 36)) none,
  .mk (some 3) (.assign (.tmp 38)) none,
  .mk (some 4) (.assign (.const (.bool true))) none]
def r40_8 : List PS := [.mk (some 17) (.move (.tmp 7)) none,
  .mk (some 18) (.binOp .add 3 (.tmp 17) (.const (.int .i64 1)) 3) none,
  .mk (some 7) (.assign (.tmp 18)) none]
def r40_9 : List PS := [.mk (some 13) (.move (.tmp 6)) none,
  .mk (some 14) (.binOp .add 3 (.tmp 13) (.const (.int .i64 1)) 3) none,
  .mk (some 6) (.assign (.tmp 14)) none]
def r40_10 : List PS := [.mk (some 2) (.assign (.const (.int .i64 0))) none,
  .mk (some 3) (.assign (.const (.int .i64 0))) none,
  .mk (some 4) (.assign (.const (.bool false))) none]
def c40 : PC := (.seq (.reg false r40_0) (.seq (.reg false r40_1) (.seq (.seq (.reg false r40_2) (.block 0 (.loop (.seq (.seq (.reg false r40_3) (.cond (.tmp 12) .skip (.exit 0))) (.seq (.block 1 (.seq (.reg false r40_4) (.block 2 (.loop (.seq (.seq (.reg false r40_5) (.cond (.tmp 16) .skip (.exit 2))) (.seq (.block 3 (.seq (.reg false r40_6) (.cond (.tmp 31) (.seq (.reg false r40_7) .ret) .skip))) (.reg false r40_8))))))) (.reg false r40_9)))))) (.seq (.reg false r40_10) .ret))))
theorem e40 (hl : args.length = 1) (s : pwp Tryz.prog [] c40 (fin Tryz.prog [.tmp 2, .tmp 3, .tmp 4] h K) (slots0 (olds args)) h) : CanP Tryz.prog 40 args h K :=
  can_of2 (n := 39) mixed Tryz.func40 rfl (by kernel_rfl) (by rw [hl]; kernel_rfl) rfl (by kernel_rfl) s
/-! ### naskh.naskhref09.Parted: function 41 -/
def r41_0 : List PS := [.mk (some 2) (.assign (.const (.int .i64 0))) none,
  .mk (some 3) (.assign (.const (.int .i64 0))) none,
  .mk (some 4) (.assign (.const (.bool false))) none]
def r41_1 : List PS := [.mk (some 7) (.call ⟨(.value (.func 81)), #[], #[]⟩) none,
  .mk (some 5) (.assign (.tmp 7)) none]
def r41_2 : List PS := [.mk (some 6) (.assign (.const (.int .i64 0))) none]
def r41_3 : List PS := [.mk (some 8) (.move (.tmp 6)) none,
  .mk (some 9) (.move (.tmp 5)) none,
  .mk (some 10) (.call ⟨(.builtin .len), #[(.tmp 9)], #[124]⟩) none,
  .mk (some 11) (.binOp .lss 3 (.tmp 8) (.tmp 10) 3) none]
def r41_4 : List PS := [.mk (some 14) (.move (.tmp 5)) none,
  .mk (some 15) (.move (.tmp 6)) none,
  .mk (some 16) (.indexAddr 124 (.tmp 14) (.tmp 15)) none,
  .mk (some 17) (.fieldAddr 127 (.tmp 16) 1) none,
  .mk (some 18) (.load 3 (.tmp 17)) none,
  .mk (some 19) (.move (.tmp 0)) none,
  .mk (some 20) (.binOp .eql 3 (.tmp 18) (.tmp 19) 3) none]
def r41_5 : List PS := [.mk (some 21) (.move (.tmp 5)) none,
  .mk (some 22) (.move (.tmp 6)) none,
  .mk (some 23) (.indexAddr 124 (.tmp 21) (.tmp 22)) none,
  .mk (some 24) (.fieldAddr 127 (.tmp 23) 0) none,
  .mk (some 25) (.load 3 (.tmp 24)) none,
  .mk (some 2) (.assign (.tmp 25)) none,
  .mk (some 3) (.assign (.const (.int .i64 1))) none,
  .mk (some 4) (.assign (.const (.bool true))) none]
def r41_6 : List PS := [.mk (some 26) (.move (.tmp 5)) none,
  .mk (some 27) (.move (.tmp 6)) none,
  .mk (some 28) (.indexAddr 124 (.tmp 26) (.tmp 27)) none,
  .mk (some 29) (.fieldAddr 127 (.tmp 28) 2) none,
  .mk (some 30) (.load 3 (.tmp 29)) none,
  .mk (some 31) (.move (.tmp 0)) none,
  .mk (some 32) (.binOp .eql 3 (.tmp 30) (.tmp 31) 3) none]
def r41_7 : List PS := [.mk (some 33) (.move (.tmp 5)) none,
  .mk (some 34) (.move (.tmp 6)) none,
  .mk (some 35) (.indexAddr 124 (.tmp 33) (.tmp 34)) none,
  .mk (some 36) (.fieldAddr 127 (.tmp 35) 0) none,
  .mk (some 37) (.load 3 (.tmp 36)) none,
  .mk (some 2) (.assign (.tmp 37)) none,
  .mk (some 3) (.assign (.const (.int .i64 2))) none,
  .mk (some 4) (.assign (.const (.bool true))) none]
def r41_8 : List PS := [.mk (some 12) (.move (.tmp 6)) none,
  .mk (some 13) (.binOp .add 3 (.tmp 12) (.const (.int .i64 1)) 3) none,
  .mk (some 6) (.assign (.tmp 13)) none]
def r41_9 : List PS := [.mk (some 2) (.assign (.const (.int .i64 0))) none,
  .mk (some 3) (.assign (.const (.int .i64 0))) none,
  .mk (some 4) (.assign (.const (.bool false))) none]
def c41 : PC := (.seq (.reg false r41_0) (.seq (.reg false r41_1) (.seq (.seq (.reg false r41_2) (.block 0 (.loop (.seq (.seq (.reg false r41_3) (.cond (.tmp 11) .skip (.exit 0))) (.seq (.block 1 (.seq (.seq (.reg false r41_4) (.cond (.tmp 20) (.seq (.reg false r41_5) .ret) .skip)) (.seq (.reg false r41_6) (.cond (.tmp 32) (.seq (.reg false r41_7) .ret) .skip)))) (.reg false r41_8)))))) (.seq (.reg false r41_9) .ret))))
theorem e41 (hl : args.length = 1) (s : pwp Tryz.prog [] c41 (fin Tryz.prog [.tmp 2, .tmp 3, .tmp 4] h K) (slots0 (olds args)) h) : CanP Tryz.prog 41 args h K :=
  can_of2 (n := 38) mixed Tryz.func41 rfl (by kernel_rfl) (by rw [hl]; kernel_rfl) rfl (by kernel_rfl) s
/-! ### naskh.naskhref09.Mark: function 42 -/
def r42_0 : List PS := [.mk (some 2) (.assign (.const (.int .i64 0))) none,
  .mk (some 3) (.assign (.const (.bool false))) none,
  .mk (some 4) (.assign (.const (.bool false))) none]
def r42_1 : List PS := [.mk (some 7) (.call ⟨(.value (.func 82)), #[], #[]⟩) none,
  .mk (some 5) (.assign (.tmp 7)) none]
def r42_2 : List PS := [.mk (some 6) (.assign (.const (.int .i64 0))) none]
def r42_3 : List PS := [.mk (some 8) (.move (.tmp 6)) none,
  .mk (some 9) (.move (.tmp 5)) none,
  .mk (some 10) (.call ⟨(.builtin .len), #[(.tmp 9)], #[128]⟩) none,
  .mk (some 11) (.binOp .lss 3 (.tmp 8) (.tmp 10) 3) none]
def r42_4 : List PS := [.mk (some 14) (.move (.tmp 5)) none,
  .mk (some 15) (.move (.tmp 6)) none,
  .mk (some 16) (.indexAddr 128 (.tmp 14) (.tmp 15)) none,
  .mk (some 17) (.fieldAddr 131 (.tmp 16) 1) none,
  .mk (some 18) (.load 3 (.tmp 17)) none,
  .mk (some 19) (.move (.tmp 0)) none,
  .mk (some 20) (.binOp .eql 3 (.tmp 18) (.tmp 19) 3) none]
def r42_5 : List PS := [.mk (some 21) (.move (.tmp 5)) none,
  .mk (some 22) (.move (.tmp 6)) none,
  .mk (some 23) (.indexAddr 128 (.tmp 21) (.tmp 22)) none,
  .mk (some 24) (.fieldAddr 131 (.tmp 23) 0) none,
  .mk (some 25) (.load 3 (.tmp 24)) none,
  .mk (some 2) (.assign (.tmp 25)) none,
  .mk (some 3) (.assign (.const (.bool false))) none,
  .mk (some 4) (.assign (.const (.bool true))) none]
def r42_6 : List PS := [.mk (some 26) (.move (.tmp 0)) none,
  .mk (some 27) (.binOp .neq 3 (.tmp 26) (.const (.int .i64 0)) 3) none,
  .mk (some 28) (.move (.tmp 27)) none,
  .mk (some 29) (.move (.tmp 5)) (some (28, true)),
  .mk (some 30) (.move (.tmp 6)) (some (28, true)),
  .mk (some 31) (.indexAddr 128 (.tmp 29) (.tmp 30)) (some (28, true)),
  .mk (some 32) (.fieldAddr 131 (.tmp 31) 2) (some (28, true)),
  .mk (some 33) (.load 3 (.tmp 32)) (some (28, true)),
  .mk (some 34) (.move (.tmp 0)) (some (28, true)),
  .mk (some 35) (.binOp .eql 3 (.tmp 33) (.tmp 34) 3) (some (28, true)),
  .mk (some 36) (.pick (.tmp 28) (.tmp 35) (.const (.bool false))) none]
def r42_7 : List PS := [.mk (some 37) (.move (.tmp 5)) none,
  .mk (some 38) (.move (.tmp 6)) none,
  .mk (some 39) (.indexAddr 128 (.tmp 37) (.tmp 38)) none,
  .mk (some 40) (.fieldAddr 131 (.tmp 39) 0) none,
  .mk (some 41) (.load 3 (.tmp 40)) none,
  .mk (some 2) (.assign (.tmp 41)) none,
  .mk (some 3) (.assign (.const (.bool true))) none,
  .mk (some 4) (.assign (.const (.bool true))) none]
def r42_8 : List PS := [.mk (some 12) (.move (.tmp 6)) none,
  .mk (some 13) (.binOp .add 3 (.tmp 12) (.const (.int .i64 1)) 3) none,
  .mk (some 6) (.assign (.tmp 13)) none]
def r42_9 : List PS := [.mk (some 2) (.assign (.const (.int .i64 0))) none,
  .mk (some 3) (.assign (.const (.bool false))) none,
  .mk (some 4) (.assign (.const (.bool false))) none]
def c42 : PC := (.seq (.reg false r42_0) (.seq (.reg false r42_1) (.seq (.seq (.reg false r42_2) (.block 0 (.loop (.seq (.seq (.reg false r42_3) (.cond (.tmp 11) .skip (.exit 0))) (.seq (.block 1 (.seq (.seq (.reg false r42_4) (.cond (.tmp 20) (.seq (.reg false r42_5) .ret) .skip)) (.seq (.reg false r42_6) (.cond (.tmp 36) (.seq (.reg false r42_7) .ret) .skip)))) (.reg false r42_8)))))) (.seq (.reg false r42_9) .ret))))
theorem e42 (hl : args.length = 1) (s : pwp Tryz.prog [] c42 (fin Tryz.prog [.tmp 2, .tmp 3, .tmp 4] h K) (slots0 (olds args)) h) : CanP Tryz.prog 42 args h K :=
  can_of2 (n := 42) mixed Tryz.func42 rfl (by kernel_rfl) (by rw [hl]; kernel_rfl) rfl (by kernel_rfl) s
/-! ### naskh.naskhref09.Unpile: function 43 -/
def r43_0 : List PS := [.mk (some 2) (.assign (.const (.int .i64 0))) none,
  .mk (some 3) (.assign (.const (.bool false))) none]
def r43_1 : List PS := [.mk (some 6) (.call ⟨(.value (.func 83)), #[], #[]⟩) none,
  .mk (some 4) (.assign (.tmp 6)) none]
def r43_2 : List PS := [.mk (some 5) (.assign (.const (.int .i64 0))) none]
def r43_3 : List PS := [.mk (some 7) (.move (.tmp 5)) none,
  .mk (some 8) (.move (.tmp 4)) none,
  .mk (some 9) (.call ⟨(.builtin .len), #[(.tmp 8)], #[132]⟩) none,
  .mk (some 10) (.binOp .lss 3 (.tmp 7) (.tmp 9) 3) none]
def r43_4 : List PS := [.mk (some 13) (.move (.tmp 4)) none,
  .mk (some 14) (.move (.tmp 5)) none,
  .mk (some 15) (.indexAddr 132 (.tmp 13) (.tmp 14)) none,
  .mk (some 16) (.fieldAddr 135 (.tmp 15) 1) none,
  .mk (some 17) (.load 3 (.tmp 16)) none,
  .mk (some 18) (.move (.tmp 0)) none,
  .mk (some 19) (.binOp .eql 3 (.tmp 17) (.tmp 18) 3) none]
def r43_5 : List PS := [.mk (some 20) (.move (.tmp 4)) none,
  .mk (some 21) (.move (.tmp 5)) none,
  .mk (some 22) (.indexAddr 132 (.tmp 20) (.tmp 21)) none,
  .mk (some 23) (.fieldAddr 135 (.tmp 22) 0) none,
  .mk (some 24) (.load 3 (.tmp 23)) none,
  .mk (some 2) (.assign (.tmp 24)) none,
  .mk (some 3) (.assign (.const (.bool true))) none]
def r43_6 : List PS := [.mk (some 11) (.move (.tmp 5)) none,
  .mk (some 12) (.binOp .add 3 (.tmp 11) (.const (.int .i64 1)) 3) none,
  .mk (some 5) (.assign (.tmp 12)) none]
def r43_7 : List PS := [.mk (some 2) (.assign (.const (.int .i64 0))) none,
  .mk (some 3) (.assign (.const (.bool false))) none]
def c43 : PC := (.seq (.reg false r43_0) (.seq (.reg false r43_1) (.seq (.seq (.reg false r43_2) (.block 0 (.loop (.seq (.seq (.reg false r43_3) (.cond (.tmp 10) .skip (.exit 0))) (.seq (.block 1 (.seq (.reg false r43_4) (.cond (.tmp 19) (.seq (.reg false r43_5) .ret) .skip))) (.reg false r43_6)))))) (.seq (.reg false r43_7) .ret))))
theorem e43 (hl : args.length = 1) (s : pwp Tryz.prog [] c43 (fin Tryz.prog [.tmp 2, .tmp 3] h K) (slots0 (olds args)) h) : CanP Tryz.prog 43 args h K :=
  can_of2 (n := 25) mixed Tryz.func43 rfl (by kernel_rfl) (by rw [hl]; kernel_rfl) rfl (by kernel_rfl) s
/-! ### naskh.naskhref09.Presented: function 14 -/
def r14_0 : List PS := [.mk (some 2) (.assign (.const (.bool false))) none]
def r14_1 : List PS := [.mk (some 15) (.move (.tmp 0)) none,
  .mk (some 16) (.call ⟨(.value (.func 40)), #[(.tmp 15)], #[3]⟩) none,
  .mk (some 14) (.move (.tmp 16)) none,
  .mk (some 17) (.extract (.tmp 14) 0) none,
  .mk (some 18) (.extract (.tmp 14) 1) none,
  .mk (some 19) (.extract (.tmp 14) 2) none,
  .mk (some 3) (.assign (.tmp 17)) none,
  .mk (some 4) (.assign (.tmp 18)) none,
  .mk (some 5) (.assign (.tmp 19)) none]
def r14_2 : List PS := [.mk (some 21) (.move (.tmp 0)) none,
  .mk (some 22) (.call ⟨(.value (.func 41)), #[(.tmp 21)], #[3]⟩) none,
  .mk (some 20) (.move (.tmp 22)) none,
  .mk (some 23) (.extract (.tmp 20) 0) none,
  .mk (some 24) (.extract (.tmp 20) 1) none,
  .mk (some 25) (.extract (.tmp 20) 2) none,
  .mk (some 6) (.assign (.tmp 23)) none,
  .mk (some 7) (.assign (.tmp 24)) none,
  .mk (some 8) (.assign (.tmp 25)) none]
def r14_3 : List PS := [.mk (some 27) (.move (.tmp 0)) none,
  .mk (some 28) (.call ⟨(.value (.func 42)), #[(.tmp 27)], #[3]⟩) none,
  .mk (some 26) (.move (.tmp 28)) none,
  .mk (some 29) (.extract (.tmp 26) 0) none,
  .mk (some 30) (.extract (.tmp 26) 1) none,
  .mk (some 31) (.extract (.tmp 26) 2) none,
  .mk (some 9) (.assign (.tmp 29)) none,
  .mk (some 10) (.assign (.tmp 30)) none,
  .mk (some 11) (.assign (.tmp 31)) none]
def r14_4 : List PS := [.mk (some 33) (.move (.tmp 0)) none,
  .mk (some 34) (.call ⟨(.value (.func 43)), #[(.tmp 33)], #[3]⟩) none,
  .mk (some 32) (.move (.tmp 34)) none,
  .mk (some 35) (.extract (.tmp 32) 0) none,
  .mk (some 36) (.extract (.tmp 32) 1) none,
  .mk (some 12) (.assign (.tmp 35)) none,
  .mk (some 13) (.assign (.tmp 36)) none]
def r14_5 : List PS := [.mk (some 37) (.move (.tmp 5)) none,
  .mk (some 38) (.move (.tmp 37)) none,
  .mk (some 39) (.move (.tmp 8)) (some (38, false)),
  .mk (some 40) (.pick (.tmp 38) (.const (.bool true)) (.tmp 39)) none,
  .mk (some 41) (.move (.tmp 40)) none,
  .mk (some 42) (.move (.tmp 11)) (some (41, false)),
  .mk (some 43) (.pick (.tmp 41) (.const (.bool true)) (.tmp 42)) none,
  .mk (some 44) (.move (.tmp 43)) none,
  .mk (some 45) (.move (.tmp 13)) (some (44, false)),
  .mk (some 46) (.pick (.tmp 44) (.const (.bool true)) (.tmp 45)) none,
  .mk (some 47) (.move (.tmp 46)) none,
  .mk (some 48) (.move (.tmp 0)) (some (47, false)),
  .mk (some 49) (.binOp .eql 3 (.tmp 48) (.const (.int .i64 65139)) 3) (some (47, false)),
  .mk (some 50) (.pick (.tmp 47) (.const (.bool true)) (.tmp 49)) none,
  .mk (some 2) (.assign (.tmp 50)) none]
def c14 : PC := (.seq (.reg false r14_0) (.seq (.reg false r14_1) (.seq (.reg false r14_2) (.seq (.reg false r14_3) (.seq (.reg false r14_4) (.seq (.reg false r14_5) .ret))))))
theorem e14 (hl : args.length = 1) (s : pwp Tryz.prog [] c14 (fin Tryz.prog [.tmp 2] h K) (slots0 (olds args)) h) : CanP Tryz.prog 14 args h K :=
  can_of2 (n := 51) mixed Tryz.func14 rfl (by kernel_rfl) (by rw [hl]; kernel_rfl) rfl (by kernel_rfl) s
/-! ### naskh.naskhref49.row: function 39 -/
def r39_0 : List PS := [.mk (some 4) (.assign (.const (.bool false))) none]
def r39_1 : List PS := [.mk (some 5) (.move (.tmp 1)) none,
  .mk (some 6) (.binOp .geq 3 (.tmp 5) (.const (.int .i64 2)) 3) none,
  .mk (some 7) (.move (.tmp 6)) none,
  .mk (some 8) (.move (.tmp 0)) (some (7, true)),
  .mk (some 9) (.move (.tmp 1)) (some (7, true)),
  .mk (some 10) (.indexAddr 22 (.tmp 8) (.tmp 9)) (some (7, true)),
  .mk (some 11) (.load 3 (.tmp 10)) (some (7, true)),
  .mk (some 12) (.binOp .eql 3 (.tmp 11) (.const (.int .i64 1600)) 3) (some (7, true)),
  .mk (some 13) (.pick (.tmp 7) (.tmp 12) (.const (.bool false))) none,
  .mk (some 14) (.move (.tmp 13)) none,
  .mk (some 15) (.move (.tmp 0)) (some (14, true)),
  .mk (some 16) (.move (.tmp 1)) (some (14, true)),
  .mk (some 17) (.binOp .sub 3 (.tmp 16) (.const (.int .i64 1)) 3) (some (14, true)),
  .mk (some 18) (.indexAddr 22 (.tmp 15) (.tmp 17)) (some (14, true)),
  .mk (some 19) (.load 3 (.tmp 18)) (some (14, true)),
  .mk (some 20) (.binOp .eql 3 (.tmp 19) (.const (.int .i64 1600)) 3) (some (14, true)),
  .mk (some 21) (.pick (.tmp 14) (.tmp 20) (.const (.bool false))) none,
  .mk (some 22) (.move (.tmp 21)) none,
  .mk (some 23) (.move (.tmp 0)) (some (22, true)),
  .mk (some 24) (.move (.tmp 1)) (some (22, true)),
  .mk (some 25) (.binOp .sub 3 (.tmp 24) (.const (.int .i64 2)) 3) (some (22, true)),
  .mk (some 26) (.indexAddr 22 (.tmp 23) (.tmp 25)) (some (22, true)),
  .mk (some 27) (.load 3 (.tmp 26)) (some (22, true)),
  .mk (some 28) (.binOp .eql 3 (.tmp 27) (.const (.int .i64 1600)) 3) (some (22, true)),
  .mk (some 29) (.pick (.tmp 22) (.tmp 28) (.const (.bool false))) none,
  .mk (some 4) (.assign (.tmp 29)) none]
def c39 : PC := (.seq (.reg false r39_0) (.seq (.reg false r39_1) .ret))
theorem e39 (hl : args.length = 2) (s : pwp Tryz.prog [] c39 (fin Tryz.prog [.tmp 4] h K) (slots0 (olds args)) h) : CanP Tryz.prog 39 args h K :=
  can_of2 (n := 30) mixed Tryz.func39 rfl (by kernel_rfl) (by rw [hl]; kernel_rfl) rfl (by kernel_rfl) s
/-! ### naskh.naskhref49.has: function 61 -/
def r61_0 : List PS := [.mk (some 4) (.assign (.const (.bool false))) none]
def r61_1 : List PS := [.mk (some 5) (.assign (.const (.int .i64 0))) none]
def r61_2 : List PS := [.mk (some 6) (.move (.tmp 5)) none,
  .mk (some 7) (.move (.tmp 0)) none,
  .mk (some 8) (.call ⟨(.builtin .len), #[(.tmp 7)], #[22]⟩) none,
  .mk (some 9) (.binOp .lss 3 (.tmp 6) (.tmp 8) 3) none]
def r61_3 : List PS := [.mk (some 12) (.move (.tmp 0)) none,
  .mk (some 13) (.move (.tmp 5)) none,
  .mk (some 14) (.indexAddr 22 (.tmp 12) (.tmp 13)) none,
  .mk (some 15) (.load 3 (.tmp 14)) none,
  .mk (some 16) (.move (.tmp 1)) none,
  .mk (some 17) (.binOp .eql 3 (.tmp 15) (.tmp 16) 3) none]
def r61_4 : List PS := [.mk (some 4) (.assign (.const (.bool true))) none]
def r61_5 : List PS := [.mk (some 10) (.move (.tmp 5)) none,
  .mk (some 11) (.binOp .add 3 (.tmp 10) (.const (.int .i64 1)) 3) none,
  .mk (some 5) (.assign (.tmp 11)) none]
def r61_6 : List PS := [.mk (some 4) (.assign (.const (.bool false))) none]
def c61 : PC := (.seq (.reg false r61_0) (.seq (.seq (.reg false r61_1) (.block 0 (.loop (.seq (.seq (.reg false r61_2) (.cond (.tmp 9) .skip (.exit 0))) (.seq (.block 1 (.seq (.reg false r61_3) (.cond (.tmp 17) (.seq (.reg false r61_4) .ret) .skip))) (.reg false r61_5)))))) (.seq (.reg false r61_6) .ret)))
theorem e61 (hl : args.length = 2) (s : pwp Tryz.prog [] c61 (fin Tryz.prog [.tmp 4] h K) (slots0 (olds args)) h) : CanP Tryz.prog 61 args h K :=
  can_of2 (n := 18) mixed Tryz.func61 rfl (by kernel_rfl) (by rw [hl]; kernel_rfl) rfl (by kernel_rfl) s
/-! ### naskh.naskhref07.Mark: function 100 -/
def r100_0 : List PS := [.mk (some 2) (.assign (.const (.bool false))) none]
def r100_1 : List PS := [.mk (some 3) (.move (.tmp 0)) none,
  .mk (some 4) (.call ⟨(.value (.func 58)), #[(.tmp 3)], #[3]⟩) none,
  .mk (some 5) (.binOp .eql 3 (.tmp 4) (.const (.int .i64 8)) 3) none,
  .mk (some 2) (.assign (.tmp 5)) none]
def c100 : PC := (.seq (.reg false r100_0) (.seq (.reg false r100_1) .ret))
theorem e100 (hl : args.length = 1) (s : pwp Tryz.prog [] c100 (fin Tryz.prog [.tmp 2] h K) (slots0 (olds args)) h) : CanP Tryz.prog 100 args h K :=
  can_of2 (n := 6) mixed Tryz.func100 rfl (by kernel_rfl) (by rw [hl]; kernel_rfl) rfl (by kernel_rfl) s
/-! ### naskh.naskhref49.bare: function 62 -/
def r62_0 : List PS := [.mk (some 4) (.box 49 (.tmp 1)) none,
  .mk (some 6) (.assign (.const (.bool false))) none]
def r62_1 : List PS := [.mk (some 8) (.move (.tmp 0)) none,
  .mk (some 9) (.move (.tmp 2)) none,
  .mk (some 10) (.indexAddr 22 (.tmp 8) (.tmp 9)) none,
  .mk (some 11) (.load 3 (.tmp 10)) none,
  .mk (some 12) (.call ⟨(.value (.func 100)), #[(.tmp 11)], #[3]⟩) none,
  .mk (some 13) (.unOp .not 4 (.tmp 12)) none]
def r62_2 : List PS := [.mk (some 6) (.assign (.const (.bool false))) none]
def r62_3 : List PS := [.mk (some 14) (.move (.tmp 2)) none,
  .mk (some 15) (.fieldAddr 49 (.tmp 4) 0) none,
  .mk (some 16) (.load 3 (.tmp 15)) none,
  .mk (some 17) (.binOp .eql 3 (.tmp 14) (.tmp 16) 3) none]
def r62_4 : List PS := [.mk (some 6) (.assign (.const (.bool true))) none]
def r62_5 : List PS := [.mk (some 18) (.move (.tmp 0)) none,
  .mk (some 19) (.move (.tmp 2)) none,
  .mk (some 20) (.binOp .sub 3 (.tmp 19) (.const (.int .i64 1)) 3) none,
  .mk (some 21) (.indexAddr 22 (.tmp 18) (.tmp 20)) none,
  .mk (some 22) (.load 3 (.tmp 21)) none,
  .mk (some 23) (.call ⟨(.value (.func 58)), #[(.tmp 22)], #[3]⟩) none,
  .mk (some 7) (.assign (.tmp 23)) none]
def r62_6 : List PS := [.mk (some 24) (.move (.tmp 7)) none,
  .mk (some 25) (.binOp .eql 3 (.tmp 24) (.const (.int .i64 10)) 3) none,
  .mk (some 26) (.move (.tmp 25)) none,
  .mk (some 27) (.move (.tmp 7)) (some (26, false)),
  .mk (some 28) (.binOp .eql 3 (.tmp 27) (.const (.int .i64 11)) 3) (some (26, false)),
  .mk (some 29) (.pick (.tmp 26) (.const (.bool true)) (.tmp 28)) none,
  .mk (some 30) (.move (.tmp 29)) none,
  .mk (some 31) (.move (.tmp 7)) (some (30, false)),
  .mk (some 32) (.binOp .eql 3 (.tmp 31) (.const (.int .i64 12)) 3) (some (30, false)),
  .mk (some 33) (.pick (.tmp 30) (.const (.bool true)) (.tmp 32)) none,
  .mk (some 6) (.assign (.tmp 33)) none]
def c62 : PC := (.seq (.reg false r62_0) (.seq (.seq (.reg false r62_1) (.cond (.tmp 13) (.seq (.reg false r62_2) .ret) .skip)) (.seq (.seq (.reg false r62_3) (.cond (.tmp 17) (.seq (.reg false r62_4) .ret) .skip)) (.seq (.reg false r62_5) (.seq (.reg false r62_6) .ret)))))
theorem e62 (hl : args.length = 3) (s : pwp Tryz.prog [] c62 (fin Tryz.prog [.tmp 6] h K) (slots0 (olds args)) h) : CanP Tryz.prog 62 args h K :=
  can_of2 (n := 34) mixed Tryz.func62 rfl (by kernel_rfl) (by rw [hl]; kernel_rfl) rfl (by kernel_rfl) s
/-! ### naskh.naskhref37.Of: function 63 -/
def r63_0 : List PS := [.mk (some 2) (.assign (.const (.int .i64 0))) none]
def r63_1 : List PS := [.mk (some 3) (.call ⟨(.value (.func 24)), #[], #[]⟩) none,
  .mk (some 4) (.move (.tmp 0)) none,
  .mk (some 5) (.call ⟨(.value (.func 97)), #[(.tmp 3), (.const (.int .i64 0)), (.tmp 4)], #[57, 3, 3]⟩) none,
  .mk (some 2) (.assign (.tmp 5)) none]
def c63 : PC := (.seq (.reg false r63_0) (.seq (.reg false r63_1) .ret))
theorem e63 (hl : args.length = 1) (s : pwp Tryz.prog [] c63 (fin Tryz.prog [.tmp 2] h K) (slots0 (olds args)) h) : CanP Tryz.prog 63 args h K :=
  can_of2 (n := 6) mixed Tryz.func63 rfl (by kernel_rfl) (by rw [hl]; kernel_rfl) rfl (by kernel_rfl) s
/-! ### naskh.naskhref07.Digit: function 101 -/
def r101_0 : List PS := [.mk (some 2) (.assign (.const (.int .i64 0))) none,
  .mk (some 3) (.assign (.const (.int .i64 0))) none]
def r101_1 : List PS := [.mk (some 5) (.move (.tmp 0)) none,
  .mk (some 6) (.binOp .geq 3 (.tmp 5) (.const (.int .i64 48)) 3) none,
  .mk (some 7) (.move (.tmp 6)) none,
  .mk (some 8) (.move (.tmp 0)) (some (7, true)),
  .mk (some 9) (.binOp .leq 3 (.tmp 8) (.const (.int .i64 57)) 3) (some (7, true)),
  .mk (some 10) (.pick (.tmp 7) (.tmp 9) (.const (.bool false))) none,
  .mk (some 4) (.assign (.tmp 10)) none]
def r101_2 : List PS := [.mk (some 11) (.move (.tmp 0)) none,
  .mk (some 12) (.binOp .sub 3 (.tmp 11) (.const (.int .i64 48)) 3) none,
  .mk (some 2) (.assign (.tmp 12)) none,
  .mk (some 3) (.assign (.const (.int .i64 1))) none]
def r101_3 : List PS := [.mk (some 14) (.move (.tmp 0)) none,
  .mk (some 15) (.binOp .geq 3 (.tmp 14) (.const (.int .i64 1632)) 3) none,
  .mk (some 16) (.move (.tmp 15)) none,
  .mk (some 17) (.move (.tmp 0)) (some (16, true)),
  .mk (some 18) (.binOp .leq 3 (.tmp 17) (.const (.int .i64 1641)) 3) (some (16, true)),
  .mk (some 19) (.pick (.tmp 16) (.tmp 18) (.const (.bool false))) none,
  .mk (some 13) (.assign (.tmp 19)) none]
def r101_4 : List PS := [.mk (some 20) (.move (.tmp 0)) none,
  .mk (some 21) (.binOp .sub 3 (.tmp 20) (.const (.int .i64 1632)) 3) none,
  .mk (some 2) (.assign (.tmp 21)) none,
  .mk (some 3) (.assign (.const (.int .i64 2))) none]
def r101_5 : List PS := [.mk (some 23) (.move (.tmp 0)) none,
  .mk (some 24) (.binOp .geq 3 (.tmp 23) (.const (.int .i64 1776)) 3) none,
  .mk (some 25) (.move (.tmp 24)) none,
  .mk (some 26) (.move (.tmp 0)) (some (25, true)),
  .mk (some 27) (.binOp .leq 3 (.tmp 26) (.const (.int .i64 1785)) 3) (some (25, true)),
  .mk (some 28) (.pick (.tmp 25) (.tmp 27) (.const (.bool false))) none,
  .mk (some 22) (.assign (.tmp 28)) none]
def r101_6 : List PS := [.mk (some 29) (.move (.tmp 0)) none,
  .mk (some 30) (.binOp .sub 3 (.tmp 29) (.const (.int .i64 1776)) 3) none,
  .mk (some 2) (.assign (.tmp 30)) none,
  .mk (some 3) (.assign (.const (.int .i64 3))) none]
def r101_7 : List PS := [.mk (some 2) (.assign (.const (.int .i64 0))) none,
  .mk (some 3) (.assign (.const (.int .i64 0))) none]
def c101 : PC := (.seq (.reg false r101_0) (.seq (.block 0 (.seq (.reg false r101_1) (.cond (.tmp 4) (.seq (.reg false r101_2) .ret) (.seq (.reg false r101_3) (.cond (.tmp 13) (.seq (.reg false r101_4) .ret) (.seq (.reg false r101_5) (.cond (.tmp 22) (.seq (.reg false r101_6) .ret) .skip))))))) (.seq (.reg false r101_7) .ret)))
theorem e101 (hl : args.length = 1) (s : pwp Tryz.prog [] c101 (fin Tryz.prog [.tmp 2, .tmp 3] h K) (slots0 (olds args)) h) : CanP Tryz.prog 101 args h K :=
  can_of2 (n := 31) mixed Tryz.func101 rfl (by kernel_rfl) (by rw [hl]; kernel_rfl) rfl (by kernel_rfl) s
/-! ### naskh.naskhref49.other: function 64 -/
def r64_0 : List PS := [.mk (some 4) (.assign (.const (.bool false))) none]
def r64_1 : List PS := [.mk (some 9) (.move (.tmp 1)) none,
  .mk (some 10) (.binOp .eql 3 (.tmp 9) (.const (.int .i64 0)) 3) none]
def r64_2 : List PS := [.mk (some 4) (.assign (.const (.bool false))) none]
def r64_3 : List PS := [.mk (some 12) (.move (.tmp 0)) none,
  .mk (some 13) (.move (.tmp 1)) none,
  .mk (some 14) (.binOp .sub 3 (.tmp 13) (.const (.int .i64 1)) 3) none,
  .mk (some 15) (.indexAddr 22 (.tmp 12) (.tmp 14)) none,
  .mk (some 16) (.load 3 (.tmp 15)) none,
  .mk (some 17) (.call ⟨(.value (.func 101)), #[(.tmp 16)], #[3]⟩) none,
  .mk (some 11) (.move (.tmp 17)) none,
  .mk (some 18) (.extract (.tmp 11) 0) none,
  .mk (some 19) (.extract (.tmp 11) 1) none,
  .mk (some 5) (.assign (.tmp 18)) none,
  .mk (some 6) (.assign (.tmp 19)) none]
def r64_4 : List PS := [.mk (some 21) (.move (.tmp 0)) none,
  .mk (some 22) (.move (.tmp 1)) none,
  .mk (some 23) (.indexAddr 22 (.tmp 21) (.tmp 22)) none,
  .mk (some 24) (.load 3 (.tmp 23)) none,
  .mk (some 25) (.call ⟨(.value (.func 101)), #[(.tmp 24)], #[3]⟩) none,
  .mk (some 20) (.move (.tmp 25)) none,
  .mk (some 26) (.extract (.tmp 20) 0) none,
  .mk (some 27) (.extract (.tmp 20) 1) none,
  .mk (some 7) (.assign (.tmp 26)) none,
  .mk (some 8) (.assign (.tmp 27)) none]
def r64_5 : List PS := [.mk (some 28) (.move (.tmp 6)) none,
  .mk (some 29) (.binOp .gtr 3 (.tmp 28) (.const (.int .i64 0)) 3) none,
  .mk (some 30) (.move (.tmp 29)) none,
  .mk (some 31) (.move (.tmp 8)) (some (30, true)),
  .mk (some 32) (.binOp .gtr 3 (.tmp 31) (.const (.int .i64 0)) 3) (some (30, true)),
  .mk (some 33) (.pick (.tmp 30) (.tmp 32) (.const (.bool false))) none,
  .mk (some 34) (.move (.tmp 33)) none,
  .mk (some 35) (.move (.tmp 6)) (some (34, true)),
  .mk (some 36) (.move (.tmp 8)) (some (34, true)),
  .mk (some 37) (.binOp .neq 3 (.tmp 35) (.tmp 36) 3) (some (34, true)),
  .mk (some 38) (.pick (.tmp 34) (.tmp 37) (.const (.bool false))) none,
  .mk (some 4) (.assign (.tmp 38)) none]
def c64 : PC := (.seq (.reg false r64_0) (.seq (.seq (.reg false r64_1) (.cond (.tmp 10) (.seq (.reg false r64_2) .ret) .skip)) (.seq (.reg false r64_3) (.seq (.reg false r64_4) (.seq (.reg false r64_5) .ret)))))
theorem e64 (hl : args.length = 2) (s : pwp Tryz.prog [] c64 (fin Tryz.prog [.tmp 4] h K) (slots0 (olds args)) h) : CanP Tryz.prog 64 args h K :=
  can_of2 (n := 39) mixed Tryz.func64 rfl (by kernel_rfl) (by rw [hl]; kernel_rfl) rfl (by kernel_rfl) s
/-! ### naskh.naskhref49.Check: function 10 -/
def r10_0 : List PS := [.mk (some 2) (.assign (.const (.slice none 0 0))) none]
def r10_1 : List PS := [.mk (some 3) (.assign (.const (.slice none 0 0))) none]
def r10_2 : List PS := [.mk (some 12) (.move (.tmp 0)) none,
  .mk (some 13) (.call ⟨(.value (.func 25)), #[(.tmp 12)], #[22]⟩) none,
  .mk (some 4) (.assign (.tmp 13)) none]
def r10_3 : List PS := [.mk (some 5) (.assign (.const (.int .i64 0))) none]
def r10_4 : List PS := [.mk (some 14) (.move (.tmp 5)) none,
  .mk (some 15) (.move (.tmp 4)) none,
  .mk (some 16) (.call ⟨(.builtin .len), #[(.tmp 15)], #[46]⟩) none,
  .mk (some 17) (.binOp .lss 3 (.tmp 14) (.tmp 16) 3) none]
def r10_5 : List PS := [.mk (some 20) (.move (.tmp 0)) none,
  .mk (some 21) (.move (.tmp 4)) none,
  .mk (some 22) (.move (.tmp 5)) none,
  .mk (some 23) (.indexAddr 46 (.tmp 21) (.tmp 22)) none,
  .mk (some 24) (.fieldAddr 49 (.tmp 23) 0) none,
  .mk (some 25) (.load 3 (.tmp 24)) none,
  .mk (some 26) (.move (.tmp 4)) none,
  .mk (some 27) (.move (.tmp 5)) none,
  .mk (some 28) (.indexAddr 46 (.tmp 26) (.tmp 27)) none,
  .mk (some 29) (.fieldAddr 49 (.tmp 28) 1) none,
  .mk (some 30) (.load 3 (.tmp 29)) none,
  .mk (some 31) (.slice 22 (.tmp 20) (some (.tmp 25)) (some (.tmp 30)) none) none,
  .mk (some 32) (.call ⟨(.value (.func 26)), #[(.tmp 31)], #[22]⟩) none,
  .mk (some 6) (.assign (.tmp 32)) none]
def r10_6 : List PS := [.mk (some 33) (.move (.tmp 6)) none,
  .mk (some 34) (.call ⟨(.value (.func 27)), #[(.tmp 33)], #[22]⟩) none,
  .mk (some 35) (.move (.tmp 6)) none,
  .mk (some 36) (.call ⟨(.value (.func 28)), #[(.tmp 35)], #[22]⟩) none,
  .mk (some 7) (.assign (.tmp 34)) none,
  .mk (some 8) (.assign (.tmp 36)) none]
def r10_7 : List PS := [.mk (some 37) (.move (.tmp 4)) none,
  .mk (some 38) (.move (.tmp 5)) none,
  .mk (some 39) (.indexAddr 46 (.tmp 37) (.tmp 38)) none,
  .mk (some 40) (.fieldAddr 49 (.tmp 39) 0) none,
  .mk (some 41) (.load 3 (.tmp 40)) none,
  .mk (some 9) (.assign (.tmp 41)) none]
def r10_8 : List PS := [.mk (some 42) (.move (.tmp 9)) none,
  .mk (some 43) (.move (.tmp 4)) none,
  .mk (some 44) (.move (.tmp 5)) none,
  .mk (some 45) (.indexAddr 46 (.tmp 43) (.tmp 44)) none,
  .mk (some 46) (.fieldAddr 49 (.tmp 45) 1) none,
  .mk (some 47) (.load 3 (.tmp 46)) none,
  .mk (some 48) (.binOp .lss 3 (.tmp 42) (.tmp 47) 3) none]
def r10_9 : List PS := [.mk (some 51) (.move (.tmp 0)) none,
  .mk (some 52) (.move (.tmp 4)) none,
  .mk (some 53) (.move (.tmp 5)) none,
  .mk (some 54) (.indexAddr 46 (.tmp 52) (.tmp 53)) none,
  .mk (some 55) (.load 49 (.tmp 54)) none,
  .mk (some 56) (.move (.tmp 7)) none,
  .mk (some 57) (.move (.tmp 8)) none,
  .mk (some 58) (.move (.tmp 9)) none,
  .mk (some 59) (.call ⟨(.value (.func 29)), #[(.tmp 51), (.tmp 55), (.tmp 56), (.tmp 57), (.tmp 58)], #[22, 49, 22, 22, 3]⟩) none,
  .mk (some 10) (.assign (.tmp 59)) none]
def r10_10 : List PS := [.mk (some 11) (.assign (.const (.int .i64 0))) none]
def r10_11 : List PS := [.mk (some 60) (.move (.tmp 11)) none,
  .mk (some 61) (.move (.tmp 10)) none,
  .mk (some 62) (.call ⟨(.builtin .len), #[(.tmp 61)], #[22]⟩) none,
  .mk (some 63) (.binOp .lss 3 (.tmp 60) (.tmp 62) 3) none]
def r10_12 : List PS := [.mk (some 66) (.move (.tmp 3)) none,
  .mk (some 67) (.move (.tmp 9)) none,
  .mk (some 68) (.move (.tmp 10)) none,
  .mk (some 69) (.move (.tmp 11)) none,
  .mk (some 70) (.indexAddr 22 (.tmp 68) (.tmp 69)) none,
  .mk (some 71) (.load 3 (.tmp 70)) none,
  .mk (some 72) (.build 34 #[(0, (.tmp 67)), (1, (.tmp 71))]) none,
  .mk (some 73) (.buildSlice 30 1 #[(0, (.tmp 72))]) none,
  .mk (some 74) (.call ⟨(.builtin .append), #[(.tmp 66), (.tmp 73)], #[30, 30]⟩) none,
  .mk (some 3) (.assign (.tmp 74)) none]
def r10_13 : List PS := [.mk (some 64) (.move (.tmp 11)) none,
  .mk (some 65) (.binOp .add 3 (.tmp 64) (.const (.int .i64 1)) 3) none,
  .mk (some 11) (.assign (.tmp 65)) none]
def r10_14 : List PS := [.mk (some 49) (.move (.tmp 9)) none,
  .mk (some 50) (.binOp .add 3 (.tmp 49) (.const (.int .i64 1)) 3) none,
  .mk (some 9) (.assign (.tmp 50)) none]
def r10_15 : List PS := [.mk (some 18) (.move (.tmp 5)) none,
  .mk (some 19) (.binOp .add 3 (.tmp 18) (.const (.int .i64 1)) 3) none,
  .mk (some 5) (.assign (.tmp 19)) none]
def r10_16 : List PS := [.mk (some 75) (.move (.tmp 3)) none,
  .mk (some 2) (.assign (.tmp 75)) none]
def c10 : PC := (.seq (.reg false r10_0) (.seq (.reg false r10_1) (.seq (.reg false r10_2) (.seq (.seq (.reg false r10_3) (.block 0 (.loop (.seq (.seq (.reg false r10_4) (.cond (.tmp 17) .skip (.exit 0))) (.seq (.block 1 (.seq (.reg true r10_5) (.seq (.reg false r10_6) (.seq (.reg false r10_7) (.block 2 (.loop (.seq (.seq (.reg false r10_8) (.cond (.tmp 48) .skip (.exit 2))) (.seq (.block 3 (.seq (.reg false r10_9) (.seq (.reg false r10_10) (.block 4 (.loop (.seq (.seq (.reg false r10_11) (.cond (.tmp 63) .skip (.exit 4))) (.seq (.block 5 (.reg false r10_12)) (.reg false r10_13)))))))) (.reg false r10_14))))))))) (.reg false r10_15)))))) (.seq (.reg false r10_16) .ret)))))
theorem e10 (hl : args.length = 1) (s : pwp Tryz.prog [] c10 (fin Tryz.prog [.tmp 2] h K) (slots0 (olds args)) h) : CanP Tryz.prog 10 args h K :=
  can_of2 (n := 76) mixed Tryz.func10 rfl (by kernel_rfl) (by rw [hl]; kernel_rfl) rfl (by kernel_rfl) s
/-! ### naskh.naskhlaw49.LintChecks: function 3 -/
def r3_0 : List PS := [.mk (some 2) (.assign (.const (.bool false))) none]
def r3_1 : List PS := [.mk (some 6) (.move (.tmp 0)) none,
  .mk (some 7) (.call ⟨(.builtin .len), #[(.tmp 6)], #[22]⟩) none,
  .mk (some 8) (.binOp .gtr 3 (.tmp 7) (.const (.int .i64 60)) 3) none]
def r3_2 : List PS := [.mk (some 9) (.call ⟨(.value (.func 6)), #[], #[]⟩) none,
  .mk (some 2) (.assign (.tmp 9)) none]
def r3_3 : List PS := [.mk (some 10) (.call ⟨(.value (.func 8)), #[], #[]⟩) none,
  .mk (some 11) (.call ⟨(.value (.func 9)), #[], #[]⟩) none,
  .mk (some 12) (.move (.tmp 0)) none,
  .mk (some 13) (.call ⟨(.value (.func 7)), #[(.tmp 10), (.tmp 11), (.tmp 12)], #[26, 28, 22]⟩) none,
  .mk (some 14) (.move (.tmp 0)) none,
  .mk (some 15) (.call ⟨(.value (.func 10)), #[(.tmp 14)], #[22]⟩) none,
  .mk (some 3) (.assign (.tmp 13)) none,
  .mk (some 4) (.assign (.tmp 15)) none]
def r3_4 : List PS := [.mk (some 16) (.move (.tmp 3)) none,
  .mk (some 17) (.call ⟨(.builtin .len), #[(.tmp 16)], #[24]⟩) none,
  .mk (some 18) (.move (.tmp 4)) none,
  .mk (some 19) (.call ⟨(.builtin .len), #[(.tmp 18)], #[30]⟩) none,
  .mk (some 20) (.binOp .neq 3 (.tmp 17) (.tmp 19) 3) none]
def r3_5 : List PS := [.mk (some 2) (.assign (.const (.bool false))) none]
def r3_6 : List PS := [.mk (some 21) (.move (.tmp 3)) none,
  .mk (some 22) (.call ⟨(.builtin .len), #[(.tmp 21)], #[24]⟩) none,
  .mk (some 23) (.move (.const (.int .i64 0))) none]
def r3_7 : List PS := [.mk (some 24) (.binOp .lss 3 (.tmp 23) (.tmp 22) 3) none]
def r3_8 : List PS := [.mk (some 25) (.move (.tmp 23)) none,
  .mk (some 5) (.assign (.tmp 25)) none]
def r3_9 : List PS := [.mk (some 26) (.move (.tmp 3)) none,
  .mk (some 27) (.move (.tmp 5)) none,
  .mk (some 28) (.indexAddr 24 (.tmp 26) (.tmp 27)) none,
  .mk (some 29) (.fieldAddr 33 (.tmp 28) 0) none,
  .mk (some 30) (.load 3 (.tmp 29)) none,
  .mk (some 31) (.move (.tmp 4)) none,
  .mk (some 32) (.move (.tmp 5)) none,
  .mk (some 33) (.indexAddr 30 (.tmp 31) (.tmp 32)) none,
  .mk (some 34) (.fieldAddr 34 (.tmp 33) 0) none,
  .mk (some 35) (.load 3 (.tmp 34)) none,
  .mk (some 36) (.binOp .neq 3 (.tmp 30) (.tmp 35) 3) none,
  .mk (some 37) (.move (.tmp 36)) none,
  .mk (some 38) (.move (.tmp 3)) (some (37, false)),
  .mk (some 39) (.move (.tmp 5)) (some (37, false)),
  .mk (some 40) (.indexAddr 24 (.tmp 38) (.tmp 39)) (some (37, false)),
  .mk (some 41) (.fieldAddr 33 (.tmp 40) 1) (some (37, false)),
  .mk (some 42) (.load 3 (.tmp 41)) (some (37, false)),
  .mk (some 43) (.move (.tmp 4)) (some (37, false)),
  .mk (some 44) (.move (.tmp 5)) (some (37, false)),
  .mk (some 45) (.indexAddr 30 (.tmp 43) (.tmp 44)) (some (37, false)),
  .mk (some 46) (.fieldAddr 34 (.tmp 45) 1) (some (37, false)),
  .mk (some 47) (.load 3 (.tmp 46)) (some (37, false)),
  .mk (some 48) (.binOp .neq 3 (.tmp 42) (.tmp 47) 3) (some (37, false)),
  .mk (some 49) (.pick (.tmp 37) (.const (.bool true)) (.tmp 48)) none]
def r3_10 : List PS := [.mk (some 2) (.assign (.const (.bool false))) none]
def r3_11 : List PS := [.mk (some 50) (.binOp .add 3 (.tmp 23) (.const (.int .i64 1)) 3) none,
  .mk (some 23) (.move (.tmp 50)) none]
def r3_12 : List PS := [.mk (some 51) (.call ⟨(.value (.func 6)), #[], #[]⟩) none,
  .mk (some 2) (.assign (.tmp 51)) none]
def c3 : PC := (.seq (.reg false r3_0) (.seq (.seq (.reg false r3_1) (.cond (.tmp 8) (.seq (.reg false r3_2) .ret) .skip)) (.seq (.reg false r3_3) (.seq (.seq (.reg false r3_4) (.cond (.tmp 20) (.seq (.reg false r3_5) .ret) .skip)) (.seq (.seq (.reg false r3_6) (.block 0 (.loop (.seq (.reg false r3_7) (.seq (.cond (.tmp 24) .skip (.exit 0)) (.seq (.block 1 (.seq (.reg false r3_8) (.seq (.reg true r3_9) (.cond (.tmp 49) (.seq (.reg false r3_10) .ret) .skip)))) (.reg false r3_11))))))) (.seq (.reg false r3_12) .ret))))))
theorem e3 (hl : args.length = 1) (s : pwp Tryz.prog [] c3 (fin Tryz.prog [.tmp 2] h K) (slots0 (olds args)) h) : CanP Tryz.prog 3 args h K :=
  can_of2 (n := 52) mixed Tryz.func3 rfl (by kernel_rfl) (by rw [hl]; kernel_rfl) rfl (by kernel_rfl) s
end Go.Proofs.YtcgaphmndnmfdaaGreat
