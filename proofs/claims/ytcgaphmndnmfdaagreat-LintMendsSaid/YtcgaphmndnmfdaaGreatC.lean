/-
  The functions that the statements of this seat reach, told in short, the rest. Printed by this project's own program.
  Conditions: none.
-/
import Derived.Test.YtcgaphmndnmfdaaGreatCa
namespace Go.Proofs.YtcgaphmndnmfdaaGreat
open Go.Pm
set_option maxRecDepth 100000
set_option linter.unusedVariables false
variable {args : List PV} {h : Heap} {K : PV → Heap → Prop}
/-! ### naskh.ccc.New: function 9 -/
def r9_0 : List PS := [.mk (some 0) (.assign (.const (.pointer none))) none]
def r9_1 : List PS := [.mk (some 4) (.call ⟨(.value (.func 24)), #[], #[]⟩) none,
  .mk (some 5) (.call ⟨(.value (.func 21)), #[(.tmp 4), (.const (.int .i64 0))], #[57, 3]⟩) none,
  .mk (some 3) (.move (.tmp 5)) none,
  .mk (some 6) (.extract (.tmp 3) 0) none,
  .mk (some 7) (.extract (.tmp 3) 1) none,
  .mk (some 1) (.assign (.tmp 6)) none,
  .mk (some 2) (.assign (.tmp 7)) none]
def r9_2 : List PS := [.mk (some 8) (.move (.tmp 2)) none,
  .mk (some 9) (.binOp .neq 54 (.tmp 8) (.const (.int .i64 0)) 54) none]
def r9_3 : List PS := [.mk (some 0) (.assign (.const (.pointer none))) none]
def r9_4 : List PS := [.mk (some 10) (.move (.tmp 1)) none,
  .mk (some 11) (.build 64 #[(0, (.tmp 10))]) none,
  .mk (some 12) (.build 66 #[(0, (.tmp 11))]) none,
  .mk (some 13) (.box 66 (.tmp 12)) none,
  .mk (some 0) (.assign (.tmp 13)) none]
def c9 : PC := (.seq (.reg false r9_0) (.seq (.reg false r9_1) (.seq (.seq (.reg false r9_2) (.cond (.tmp 9) (.seq (.reg false r9_3) .ret) .skip)) (.seq (.reg false r9_4) .ret))))
theorem e9 (hl : args.length = 0) (s : pwp Tryz.prog [] c9 (fin Tryz.prog [.tmp 0] h K) (slots0 (olds args)) h) : CanP Tryz.prog 9 args h K :=
  can_of2 (n := 14) mixed Tryz.func9 rfl (by kernel_rfl) (by rw [hl]; kernel_rfl) rfl (by kernel_rfl) s
/-! ### slices.Equal[[]naskh.lint.Find,naskh.lint.Find]: function 16 -/
def r16_0 : List PS := [.mk (some 4) (.assign (.const (.bool false))) none]
def r16_1 : List PS := [.mk (some 6) (.move (.tmp 0)) none,
  .mk (some 7) (.call ⟨(.builtin .len), #[(.tmp 6)], #[24]⟩) none,
  .mk (some 8) (.move (.tmp 1)) none,
  .mk (some 9) (.call ⟨(.builtin .len), #[(.tmp 8)], #[24]⟩) none,
  .mk (some 10) (.binOp .neq 3 (.tmp 7) (.tmp 9) 3) none]
def r16_2 : List PS := [.mk (some 4) (.assign (.const (.bool false))) none]
def r16_3 : List PS := [.mk (some 11) (.move (.tmp 0)) none,
  .mk (some 12) (.call ⟨(.builtin .len), #[(.tmp 11)], #[24]⟩) none,
  .mk (some 13) (.move (.const (.int .i64 0))) none]
def r16_4 : List PS := [.mk (some 14) (.binOp .lss 3 (.tmp 13) (.tmp 12) 3) none]
def r16_5 : List PS := [.mk (some 15) (.move (.tmp 13)) none,
  .mk (some 5) (.assign (.tmp 15)) none]
def r16_6 : List PS := [.mk (some 16) (.move (.tmp 0)) none,
  .mk (some 17) (.move (.tmp 5)) none,
  .mk (some 18) (.indexAddr 24 (.tmp 16) (.tmp 17)) none,
  .mk (some 19) (.load 33 (.tmp 18)) none,
  .mk (some 20) (.move (.tmp 1)) none,
  .mk (some 21) (.move (.tmp 5)) none,
  .mk (some 22) (.indexAddr 24 (.tmp 20) (.tmp 21)) none,
  .mk (some 23) (.load 33 (.tmp 22)) none,
  .mk (some 24) (.binOp .neq 33 (.tmp 19) (.tmp 23) 33) none]
def r16_7 : List PS := [.mk (some 4) (.assign (.const (.bool false))) none]
def r16_8 : List PS := [.mk (some 25) (.binOp .add 3 (.tmp 13) (.const (.int .i64 1)) 3) none,
  .mk (some 13) (.move (.tmp 25)) none]
def r16_9 : List PS := [.mk (some 4) (.assign (.const (.bool true))) none]
def c16 : PC := (.seq (.reg false r16_0) (.seq (.seq (.reg false r16_1) (.cond (.tmp 10) (.seq (.reg false r16_2) .ret) .skip)) (.seq (.seq (.reg false r16_3) (.block 0 (.loop (.seq (.reg false r16_4) (.seq (.cond (.tmp 14) .skip (.exit 0)) (.seq (.block 1 (.seq (.reg false r16_5) (.seq (.reg true r16_6) (.cond (.tmp 24) (.seq (.reg false r16_7) .ret) .skip)))) (.reg false r16_8))))))) (.seq (.reg false r16_9) .ret))))
theorem e16 (hl : args.length = 2) (s : pwp Tryz.prog [] c16 (fin Tryz.prog [.tmp 4] h K) (slots0 (olds args)) h) : CanP Tryz.prog 16 args h K :=
  can_of2 (n := 26) mixed Tryz.func16 rfl (by kernel_rfl) (by rw [hl]; kernel_rfl) rfl (by kernel_rfl) s
/-! ### naskh.lint.Name: function 17 -/
def r17_0 : List PS := [.mk (some 2) (.assign (.const (.string ⟨#[]⟩))) none]
def r17_1 : List PS := [.mk (some 3) (.move (.tmp 0)) none]
def r17_2 : List PS := [.mk (some 5) (.binOp .eql 3 (.tmp 3) (.const (.int .i64 1)) 3) none,
  .mk (some 4) (.assign (.tmp 5)) none]
def r17_3 : List PS := [.mk (some 2) (.assign (.const (.string ⟨#[105, 108, 108]⟩))) none]
def r17_4 : List PS := [.mk (some 7) (.binOp .eql 3 (.tmp 3) (.const (.int .i64 2)) 3) none,
  .mk (some 6) (.assign (.tmp 7)) none]
def r17_5 : List PS := [.mk (some 2) (.assign (.const (.string ⟨#[111, 112, 101, 110]⟩))) none]
def r17_6 : List PS := [.mk (some 9) (.binOp .eql 3 (.tmp 3) (.const (.int .i64 3)) 3) none,
  .mk (some 8) (.assign (.tmp 9)) none]
def r17_7 : List PS := [.mk (some 2) (.assign (.const (.string ⟨#[108, 111, 111, 115, 101]⟩))) none]
def r17_8 : List PS := [.mk (some 11) (.binOp .eql 3 (.tmp 3) (.const (.int .i64 4)) 3) none,
  .mk (some 10) (.assign (.tmp 11)) none]
def r17_9 : List PS := [.mk (some 2) (.assign (.const (.string ⟨#[102, 111, 114, 109, 101, 100]⟩))) none]
def r17_10 : List PS := [.mk (some 13) (.binOp .eql 3 (.tmp 3) (.const (.int .i64 5)) 3) none,
  .mk (some 12) (.assign (.tmp 13)) none]
def r17_11 : List PS := [.mk (some 2) (.assign (.const (.string ⟨#[98, 97, 114, 101]⟩))) none]
def r17_12 : List PS := [.mk (some 15) (.binOp .eql 3 (.tmp 3) (.const (.int .i64 6)) 3) none,
  .mk (some 14) (.assign (.tmp 15)) none]
def r17_13 : List PS := [.mk (some 2) (.assign (.const (.string ⟨#[111, 114, 100, 101, 114]⟩))) none]
def r17_14 : List PS := [.mk (some 17) (.binOp .eql 3 (.tmp 3) (.const (.int .i64 7)) 3) none,
  .mk (some 16) (.assign (.tmp 17)) none]
def r17_15 : List PS := [.mk (some 2) (.assign (.const (.string ⟨#[100, 105, 103, 105, 116, 115]⟩))) none]
def r17_16 : List PS := [.mk (some 19) (.binOp .eql 3 (.tmp 3) (.const (.int .i64 8)) 3) none,
  .mk (some 18) (.assign (.tmp 19)) none]
def r17_17 : List PS := [.mk (some 2) (.assign (.const (.string ⟨#[114, 111, 119]⟩))) none]
def r17_18 : List PS := [.mk (some 2) (.assign (.const (.string ⟨#[]⟩))) none]
def c17 : PC := (.seq (.reg false r17_0) (.seq (.seq (.reg false r17_1) (.block 0 (.seq (.reg false r17_2) (.cond (.tmp 4) (.seq (.reg false r17_3) .ret) (.seq (.reg false r17_4) (.cond (.tmp 6) (.seq (.reg false r17_5) .ret) (.seq (.reg false r17_6) (.cond (.tmp 8) (.seq (.reg false r17_7) .ret) (.seq (.reg false r17_8) (.cond (.tmp 10) (.seq (.reg false r17_9) .ret) (.seq (.reg false r17_10) (.cond (.tmp 12) (.seq (.reg false r17_11) .ret) (.seq (.reg false r17_12) (.cond (.tmp 14) (.seq (.reg false r17_13) .ret) (.seq (.reg false r17_14) (.cond (.tmp 16) (.seq (.reg false r17_15) .ret) (.seq (.reg false r17_16) (.cond (.tmp 18) (.seq (.reg false r17_17) .ret) .skip)))))))))))))))))) (.seq (.reg false r17_18) .ret)))
theorem e17 (hl : args.length = 1) (s : pwp Tryz.prog [] c17 (fin Tryz.prog [.tmp 2] h K) (slots0 (olds args)) h) : CanP Tryz.prog 17 args h K :=
  can_of2 (n := 20) mixed Tryz.func17 rfl (by kernel_rfl) (by rw [hl]; kernel_rfl) rfl (by kernel_rfl) s
/-! ### naskh.naskhlaw49.awake: function 6 -/
def r6_0 : List PS := [.mk (some 0) (.assign (.const (.bool false))) none]
def r6_1 : List PS := [.mk (some 2) (.call ⟨(.value (.func 8)), #[], #[]⟩) none,
  .mk (some 3) (.call ⟨(.value (.func 9)), #[], #[]⟩) none,
  .mk (some 4) (.buildSlice 22 2 #[(0, (.const (.int .i64 1616))), (1, (.const (.int .i64 1614)))]) none,
  .mk (some 5) (.call ⟨(.value (.func 7)), #[(.tmp 2), (.tmp 3), (.tmp 4)], #[26, 28, 22]⟩) none,
  .mk (some 1) (.assign (.tmp 5)) none]
def r6_2 : List PS := [.mk (some 6) (.move (.tmp 1)) none,
  .mk (some 7) (.build 33 #[(0, (.const (.int .i64 0))), (1, (.const (.int .i64 5)))]) none,
  .mk (some 8) (.build 33 #[(0, (.const (.int .i64 1))), (1, (.const (.int .i64 6)))]) none,
  .mk (some 9) (.buildSlice 24 2 #[(0, (.tmp 7)), (1, (.tmp 8))]) none,
  .mk (some 10) (.call ⟨(.value (.func 16)), #[(.tmp 6), (.tmp 9)], #[24, 24]⟩) none,
  .mk (some 11) (.move (.tmp 10)) none,
  .mk (some 12) (.call ⟨(.value (.func 17)), #[(.const (.int .i64 8))], #[3]⟩) (some (11, true)),
  .mk (some 13) (.binOp .eql 9 (.tmp 12) (.const (.string ⟨#[114, 111, 119]⟩)) 9) (some (11, true)),
  .mk (some 14) (.pick (.tmp 11) (.tmp 13) (.const (.bool false))) none,
  .mk (some 0) (.assign (.tmp 14)) none]
def c6 : PC := (.seq (.reg false r6_0) (.seq (.reg false r6_1) (.seq (.reg false r6_2) .ret)))
theorem e6 (hl : args.length = 0) (s : pwp Tryz.prog [] c6 (fin Tryz.prog [.tmp 0] h K) (slots0 (olds args)) h) : CanP Tryz.prog 6 args h K :=
  can_of2 (n := 15) mixed Tryz.func6 rfl (by kernel_rfl) (by rw [hl]; kernel_rfl) rfl (by kernel_rfl) s
/-! ### slices.Equal[[]int,int]: function 11 -/
def r11_0 : List PS := [.mk (some 4) (.assign (.const (.bool false))) none]
def r11_1 : List PS := [.mk (some 6) (.move (.tmp 0)) none,
  .mk (some 7) (.call ⟨(.builtin .len), #[(.tmp 6)], #[22]⟩) none,
  .mk (some 8) (.move (.tmp 1)) none,
  .mk (some 9) (.call ⟨(.builtin .len), #[(.tmp 8)], #[22]⟩) none,
  .mk (some 10) (.binOp .neq 3 (.tmp 7) (.tmp 9) 3) none]
def r11_2 : List PS := [.mk (some 4) (.assign (.const (.bool false))) none]
def r11_3 : List PS := [.mk (some 11) (.move (.tmp 0)) none,
  .mk (some 12) (.call ⟨(.builtin .len), #[(.tmp 11)], #[22]⟩) none,
  .mk (some 13) (.move (.const (.int .i64 0))) none]
def r11_4 : List PS := [.mk (some 14) (.binOp .lss 3 (.tmp 13) (.tmp 12) 3) none]
def r11_5 : List PS := [.mk (some 15) (.move (.tmp 13)) none,
  .mk (some 5) (.assign (.tmp 15)) none]
def r11_6 : List PS := [.mk (some 16) (.move (.tmp 0)) none,
  .mk (some 17) (.move (.tmp 5)) none,
  .mk (some 18) (.indexAddr 22 (.tmp 16) (.tmp 17)) none,
  .mk (some 19) (.load 3 (.tmp 18)) none,
  .mk (some 20) (.move (.tmp 1)) none,
  .mk (some 21) (.move (.tmp 5)) none,
  .mk (some 22) (.indexAddr 22 (.tmp 20) (.tmp 21)) none,
  .mk (some 23) (.load 3 (.tmp 22)) none,
  .mk (some 24) (.binOp .neq 3 (.tmp 19) (.tmp 23) 3) none]
def r11_7 : List PS := [.mk (some 4) (.assign (.const (.bool false))) none]
def r11_8 : List PS := [.mk (some 25) (.binOp .add 3 (.tmp 13) (.const (.int .i64 1)) 3) none,
  .mk (some 13) (.move (.tmp 25)) none]
def r11_9 : List PS := [.mk (some 4) (.assign (.const (.bool true))) none]
def c11 : PC := (.seq (.reg false r11_0) (.seq (.seq (.reg false r11_1) (.cond (.tmp 10) (.seq (.reg false r11_2) .ret) .skip)) (.seq (.seq (.reg false r11_3) (.block 0 (.loop (.seq (.reg false r11_4) (.seq (.cond (.tmp 14) .skip (.exit 0)) (.seq (.block 1 (.seq (.reg false r11_5) (.seq (.reg true r11_6) (.cond (.tmp 24) (.seq (.reg false r11_7) .ret) .skip)))) (.reg false r11_8))))))) (.seq (.reg false r11_9) .ret))))
theorem e11 (hl : args.length = 2) (s : pwp Tryz.prog [] c11 (fin Tryz.prog [.tmp 4] h K) (slots0 (olds args)) h) : CanP Tryz.prog 11 args h K :=
  can_of2 (n := 26) mixed Tryz.func11 rfl (by kernel_rfl) (by rw [hl]; kernel_rfl) rfl (by kernel_rfl) s
/-! ### naskh.cells.New: function 65 -/
def r65_0 : List PS := [.mk (some 2) (.assign (.const (.pointer none))) none,
  .mk (some 3) (.assign (.const (.int .i64 0))) none]
def r65_1 : List PS := [.mk (some 4) (.move (.tmp 0)) none,
  .mk (some 5) (.binOp .lss 3 (.tmp 4) (.const (.int .i64 0)) 3) none,
  .mk (some 6) (.move (.tmp 5)) none,
  .mk (some 7) (.move (.tmp 0)) (some (6, false)),
  .mk (some 8) (.binOp .gtr 3 (.tmp 7) (.const (.int .i64 16777216)) 3) (some (6, false)),
  .mk (some 9) (.pick (.tmp 6) (.const (.bool true)) (.tmp 8)) none]
def r65_2 : List PS := [.mk (some 2) (.assign (.const (.pointer none))) none,
  .mk (some 3) (.assign (.const (.int .i64 1))) none]
def r65_3 : List PS := [.mk (some 10) (.move (.tmp 0)) none,
  .mk (some 11) (.makeSlice 110 (.tmp 10) (.tmp 10)) none,
  .mk (some 12) (.build 112 #[(0, (.tmp 11))]) none,
  .mk (some 13) (.box 112 (.tmp 12)) none,
  .mk (some 2) (.assign (.tmp 13)) none,
  .mk (some 3) (.assign (.const (.int .i64 0))) none]
def c65 : PC := (.seq (.reg false r65_0) (.seq (.seq (.reg false r65_1) (.cond (.tmp 9) (.seq (.reg false r65_2) .ret) .skip)) (.seq (.reg false r65_3) .ret)))
theorem e65 (hl : args.length = 1) (s : pwp Tryz.prog [] c65 (fin Tryz.prog [.tmp 2, .tmp 3] h K) (slots0 (olds args)) h) : CanP Tryz.prog 65 args h K :=
  can_of2 (n := 14) mixed Tryz.func65 rfl (by kernel_rfl) (by rw [hl]; kernel_rfl) rfl (by kernel_rfl) s
/-! ### (naskh.cells.row).has: function 102 -/
def r102_0 : List PS := [.mk (some 4) (.assign (.const (.bool false))) none]
def r102_1 : List PS := [.mk (some 5) (.move (.tmp 1)) none,
  .mk (some 6) (.binOp .geq 3 (.tmp 5) (.const (.int .i64 0)) 3) none,
  .mk (some 7) (.move (.tmp 6)) none,
  .mk (some 8) (.move (.tmp 1)) (some (7, true)),
  .mk (some 9) (.move (.tmp 0)) (some (7, true)),
  .mk (some 10) (.call ⟨(.builtin .len), #[(.tmp 9)], #[110]⟩) (some (7, true)),
  .mk (some 11) (.binOp .lss 3 (.tmp 8) (.tmp 10) 3) (some (7, true)),
  .mk (some 12) (.pick (.tmp 7) (.tmp 11) (.const (.bool false))) none,
  .mk (some 4) (.assign (.tmp 12)) none]
def c102 : PC := (.seq (.reg false r102_0) (.seq (.reg false r102_1) .ret))
theorem e102 (hl : args.length = 2) (s : pwp Tryz.prog [] c102 (fin Tryz.prog [.tmp 4] h K) (slots0 (olds args)) h) : CanP Tryz.prog 102 args h K :=
  can_of2 (n := 13) mixed Tryz.func102 rfl (by kernel_rfl) (by rw [hl]; kernel_rfl) rfl (by kernel_rfl) s
/-! ### slices.Clone[[]int,int]: function 103 -/
def r103_0 : List PS := [.mk (some 2) (.assign (.const (.slice none 0 0))) none]
def r103_1 : List PS := [.mk (some 3) (.move (.tmp 0)) none,
  .mk (some 4) (.binOp .eql 22 (.tmp 3) (.const (.slice none 0 0)) 22) none]
def r103_2 : List PS := [.mk (some 2) (.assign (.const (.slice none 0 0))) none]
def r103_3 : List PS := [.mk (some 5) (.buildSlice 22 0 #[]) none,
  .mk (some 6) (.move (.tmp 0)) none,
  .mk (some 7) (.call ⟨(.builtin .append), #[(.tmp 5), (.tmp 6)], #[22, 22]⟩) none,
  .mk (some 2) (.assign (.tmp 7)) none]
def c103 : PC := (.seq (.reg false r103_0) (.seq (.seq (.reg false r103_1) (.cond (.tmp 4) (.seq (.reg false r103_2) .ret) .skip)) (.seq (.reg false r103_3) .ret)))
theorem e103 (hl : args.length = 1) (s : pwp Tryz.prog [5] c103 (fin Tryz.prog [.tmp 2] h K) (slots0 (olds args)) h) : CanP Tryz.prog 103 args h K :=
  can_of2 (n := 8) mixed Tryz.func103 rfl (by kernel_rfl) (by rw [hl]; kernel_rfl) rfl (by kernel_rfl) s
/-! ### (*naskh.cells.Cells).Set: function 66 -/
def r66_0 : List PS := [.mk (some 6) (.assign (.const (.int .i64 0))) none]
def r66_1 : List PS := [.mk (some 7) (.move (.tmp 0)) none,
  .mk (some 8) (.binOp .eql 69 (.tmp 7) (.const (.pointer none)) 69) none,
  .mk (some 9) (.move (.tmp 8)) none,
  .mk (some 10) (.move (.tmp 0)) (some (9, false)),
  .mk (some 11) (.nilCheck (.tmp 10)) (some (9, false)),
  .mk (some 12) (.fieldAddr 112 (.tmp 11) 0) (some (9, false)),
  .mk (some 13) (.load 110 (.tmp 12)) (some (9, false)),
  .mk (some 14) (.move (.tmp 1)) (some (9, false)),
  .mk (some 15) (.call ⟨(.value (.func 102)), #[(.tmp 13), (.tmp 14)], #[110, 3]⟩) (some (9, false)),
  .mk (some 16) (.unOp .not 4 (.tmp 15)) (some (9, false)),
  .mk (some 17) (.pick (.tmp 9) (.const (.bool true)) (.tmp 16)) none]
def r66_2 : List PS := [.mk (some 6) (.assign (.const (.int .i64 1))) none]
def r66_3 : List PS := [.mk (some 18) (.move (.tmp 0)) none,
  .mk (some 19) (.nilCheck (.tmp 18)) none,
  .mk (some 20) (.fieldAddr 112 (.tmp 19) 0) none,
  .mk (some 21) (.load 110 (.tmp 20)) none,
  .mk (some 22) (.move (.tmp 1)) none,
  .mk (some 23) (.move (.tmp 2)) none,
  .mk (some 24) (.call ⟨(.value (.func 103)), #[(.tmp 23)], #[22]⟩) none,
  .mk (some 25) (.indexAddr 110 (.tmp 21) (.tmp 22)) none,
  .mk none (.store 22 (.tmp 25) (.tmp 24)) none]
def r66_4 : List PS := [.mk (some 6) (.assign (.const (.int .i64 0))) none]
def c66 : PC := (.seq (.reg false r66_0) (.seq (.seq (.reg false r66_1) (.cond (.tmp 17) (.seq (.reg false r66_2) .ret) .skip)) (.seq (.reg true r66_3) (.seq (.reg false r66_4) .ret))))
theorem e66 (hl : args.length = 3) (s : pwp Tryz.prog [] c66 (fin Tryz.prog [.tmp 6] h K) (slots0 (olds args)) h) : CanP Tryz.prog 66 args h K :=
  can_of2 (n := 26) mixed Tryz.func66 rfl (by kernel_rfl) (by rw [hl]; kernel_rfl) rfl (by kernel_rfl) s
/-! ### naskh.unshape.parts: function 67 -/
def r67_0 : List PS := [.mk (some 2) (.assign (.const (.slice none 0 0))) none]
def r67_1 : List PS := [.mk (some 15) (.move (.tmp 0)) none,
  .mk (some 16) (.call ⟨(.value (.func 104)), #[(.tmp 15)], #[3]⟩) none,
  .mk (some 14) (.move (.tmp 16)) none,
  .mk (some 17) (.extract (.tmp 14) 0) none,
  .mk (some 18) (.extract (.tmp 14) 1) none,
  .mk (some 19) (.extract (.tmp 14) 2) none,
  .mk (some 3) (.assign (.tmp 17)) none,
  .mk (some 4) (.assign (.tmp 18)) none,
  .mk (some 5) (.assign (.tmp 19)) none]
def r67_2 : List PS := [.mk (some 20) (.move (.tmp 5)) none]
def r67_3 : List PS := [.mk (some 21) (.move (.tmp 3)) none,
  .mk (some 22) (.buildSlice 22 1 #[(0, (.tmp 21))]) none,
  .mk (some 2) (.assign (.tmp 22)) none]
def r67_4 : List PS := [.mk (some 24) (.move (.tmp 0)) none,
  .mk (some 25) (.call ⟨(.value (.func 105)), #[(.tmp 24)], #[3]⟩) none,
  .mk (some 23) (.move (.tmp 25)) none,
  .mk (some 26) (.extract (.tmp 23) 0) none,
  .mk (some 27) (.extract (.tmp 23) 1) none,
  .mk (some 28) (.extract (.tmp 23) 2) none,
  .mk (some 6) (.assign (.tmp 26)) none,
  .mk (some 7) (.assign (.tmp 27)) none,
  .mk (some 8) (.assign (.tmp 28)) none]
def r67_5 : List PS := [.mk (some 29) (.move (.tmp 8)) none]
def r67_6 : List PS := [.mk (some 30) (.move (.tmp 6)) none,
  .mk (some 31) (.buildSlice 22 2 #[(0, (.const (.int .i64 1604))), (1, (.tmp 30))]) none,
  .mk (some 2) (.assign (.tmp 31)) none]
def r67_7 : List PS := [.mk (some 33) (.move (.tmp 0)) none,
  .mk (some 34) (.call ⟨(.value (.func 106)), #[(.tmp 33)], #[3]⟩) none,
  .mk (some 32) (.move (.tmp 34)) none,
  .mk (some 35) (.extract (.tmp 32) 0) none,
  .mk (some 36) (.extract (.tmp 32) 1) none,
  .mk (some 37) (.extract (.tmp 32) 2) none,
  .mk (some 9) (.assign (.tmp 35)) none,
  .mk (some 10) (.assign (.tmp 36)) none,
  .mk (some 11) (.assign (.tmp 37)) none]
def r67_8 : List PS := [.mk (some 38) (.move (.tmp 11)) none]
def r67_9 : List PS := [.mk (some 39) (.move (.tmp 9)) none,
  .mk (some 40) (.buildSlice 22 1 #[(0, (.tmp 39))]) none,
  .mk (some 2) (.assign (.tmp 40)) none]
def r67_10 : List PS := [.mk (some 42) (.move (.tmp 0)) none,
  .mk (some 43) (.call ⟨(.value (.func 107)), #[(.tmp 42)], #[3]⟩) none,
  .mk (some 41) (.move (.tmp 43)) none,
  .mk (some 44) (.extract (.tmp 41) 0) none,
  .mk (some 45) (.extract (.tmp 41) 1) none,
  .mk (some 12) (.assign (.tmp 44)) none,
  .mk (some 13) (.assign (.tmp 45)) none]
def r67_11 : List PS := [.mk (some 46) (.move (.tmp 13)) none]
def r67_12 : List PS := [.mk (some 47) (.move (.tmp 12)) none,
  .mk (some 48) (.buildSlice 22 2 #[(0, (.const (.int .i64 1617))), (1, (.tmp 47))]) none,
  .mk (some 2) (.assign (.tmp 48)) none]
def r67_13 : List PS := [.mk (some 49) (.move (.tmp 0)) none,
  .mk (some 50) (.buildSlice 22 1 #[(0, (.tmp 49))]) none,
  .mk (some 2) (.assign (.tmp 50)) none]
def c67 : PC := (.seq (.reg false r67_0) (.seq (.seq (.reg false r67_1) (.seq (.reg false r67_2) (.cond (.tmp 20) (.seq (.reg false r67_3) .ret) .skip))) (.seq (.seq (.reg false r67_4) (.seq (.reg false r67_5) (.cond (.tmp 29) (.seq (.reg false r67_6) .ret) .skip))) (.seq (.seq (.reg false r67_7) (.seq (.reg false r67_8) (.cond (.tmp 38) (.seq (.reg false r67_9) .ret) .skip))) (.seq (.seq (.reg false r67_10) (.seq (.reg false r67_11) (.cond (.tmp 46) (.seq (.reg false r67_12) .ret) .skip))) (.seq (.reg false r67_13) .ret))))))
theorem e67 (hl : args.length = 1) (s : pwp Tryz.prog [] c67 (fin Tryz.prog [.tmp 2] h K) (slots0 (olds args)) h) : CanP Tryz.prog 67 args h K :=
  can_of2 (n := 51) mixed Tryz.func67 rfl (by kernel_rfl) (by rw [hl]; kernel_rfl) rfl (by kernel_rfl) s
/-! ### naskh.unshape.Back: function 30 -/
def r30_0 : List PS := [.mk (some 2) (.assign (.const (.pointer none))) none,
  .mk (some 3) (.assign (.const (.int .i64 0))) none]
def r30_1 : List PS := [.mk (some 9) (.move (.tmp 0)) none,
  .mk (some 10) (.call ⟨(.builtin .len), #[(.tmp 9)], #[22]⟩) none,
  .mk (some 11) (.call ⟨(.value (.func 65)), #[(.tmp 10)], #[3]⟩) none,
  .mk (some 8) (.move (.tmp 11)) none,
  .mk (some 12) (.extract (.tmp 8) 0) none,
  .mk (some 13) (.extract (.tmp 8) 1) none,
  .mk (some 4) (.assign (.tmp 12)) none,
  .mk (some 5) (.assign (.tmp 13)) none]
def r30_2 : List PS := [.mk (some 14) (.move (.tmp 5)) none,
  .mk (some 15) (.binOp .neq 54 (.tmp 14) (.const (.int .i64 0)) 54) none]
def r30_3 : List PS := [.mk (some 2) (.assign (.const (.pointer none))) none,
  .mk (some 3) (.assign (.const (.int .i64 6))) none]
def r30_4 : List PS := [.mk (some 16) (.move (.tmp 0)) none,
  .mk (some 17) (.call ⟨(.builtin .len), #[(.tmp 16)], #[22]⟩) none,
  .mk (some 18) (.move (.const (.int .i64 0))) none]
def r30_5 : List PS := [.mk (some 19) (.binOp .lss 3 (.tmp 18) (.tmp 17) 3) none]
def r30_6 : List PS := [.mk (some 20) (.move (.tmp 18)) none,
  .mk (some 21) (.indexAddr 22 (.tmp 16) (.tmp 18)) none,
  .mk (some 22) (.load 3 (.tmp 21)) none,
  .mk (some 6) (.assign (.tmp 20)) none,
  .mk (some 7) (.assign (.tmp 22)) none]
def r30_7 : List PS := [.mk (some 23) (.move (.tmp 4)) none,
  .mk (some 24) (.move (.tmp 6)) none,
  .mk (some 25) (.move (.tmp 7)) none,
  .mk (some 26) (.call ⟨(.value (.func 67)), #[(.tmp 25)], #[3]⟩) none,
  .mk (some 27) (.call ⟨(.value (.func 66)), #[(.tmp 23), (.tmp 24), (.tmp 26)], #[69, 3, 22]⟩) none]
def r30_8 : List PS := [.mk (some 28) (.binOp .add 3 (.tmp 18) (.const (.int .i64 1)) 3) none,
  .mk (some 18) (.move (.tmp 28)) none]
def r30_9 : List PS := [.mk (some 29) (.move (.tmp 4)) none,
  .mk (some 2) (.assign (.tmp 29)) none,
  .mk (some 3) (.assign (.const (.int .i64 0))) none]
def c30 : PC := (.seq (.reg false r30_0) (.seq (.reg false r30_1) (.seq (.seq (.reg false r30_2) (.cond (.tmp 15) (.seq (.reg false r30_3) .ret) .skip)) (.seq (.seq (.reg false r30_4) (.block 0 (.loop (.seq (.reg false r30_5) (.seq (.cond (.tmp 19) .skip (.exit 0)) (.seq (.block 1 (.seq (.reg false r30_6) (.reg false r30_7))) (.reg false r30_8))))))) (.seq (.reg false r30_9) .ret)))))
theorem e30 (hl : args.length = 1) (s : pwp Tryz.prog [] c30 (fin Tryz.prog [.tmp 2, .tmp 3] h K) (slots0 (olds args)) h) : CanP Tryz.prog 30 args h K :=
  can_of2 (n := 30) mixed Tryz.func30 rfl (by kernel_rfl) (by rw [hl]; kernel_rfl) rfl (by kernel_rfl) s
/-! ### naskh.balance.body: function 108 -/
def r108_0 : List PS := [.mk (some 4) (.assign (.const (.int .i64 0))) none]
def r108_1 : List PS := [.mk (some 6) (.move (.tmp 0)) none,
  .mk (some 7) (.call ⟨(.builtin .len), #[(.tmp 6)], #[22]⟩) none,
  .mk (some 5) (.assign (.tmp 7)) none]
def r108_2 : List PS := [.mk (some 8) (.move (.tmp 5)) none,
  .mk (some 9) (.binOp .eql 3 (.tmp 8) (.const (.int .i64 0)) 3) none,
  .mk (some 10) (.move (.tmp 9)) none,
  .mk (some 11) (.move (.tmp 1)) (some (10, false)),
  .mk (some 12) (.move (.tmp 5)) (some (10, false)),
  .mk (some 13) (.binOp .sub 3 (.tmp 12) (.const (.int .i64 1)) 3) (some (10, false)),
  .mk (some 14) (.indexAddr 22 (.tmp 11) (.tmp 13)) (some (10, false)),
  .mk (some 15) (.load 3 (.tmp 14)) (some (10, false)),
  .mk (some 16) (.binOp .neq 3 (.tmp 15) (.const (.int .i64 10)) 3) (some (10, false)),
  .mk (some 17) (.pick (.tmp 10) (.const (.bool true)) (.tmp 16)) none]
def r108_3 : List PS := [.mk (some 18) (.move (.tmp 5)) none,
  .mk (some 4) (.assign (.tmp 18)) none]
def r108_4 : List PS := [.mk (some 19) (.move (.tmp 5)) none,
  .mk (some 20) (.binOp .gtr 3 (.tmp 19) (.const (.int .i64 1)) 3) none,
  .mk (some 21) (.move (.tmp 20)) none,
  .mk (some 22) (.move (.tmp 0)) (some (21, true)),
  .mk (some 23) (.move (.tmp 5)) (some (21, true)),
  .mk (some 24) (.binOp .sub 3 (.tmp 23) (.const (.int .i64 2)) 3) (some (21, true)),
  .mk (some 25) (.indexAddr 22 (.tmp 22) (.tmp 24)) (some (21, true)),
  .mk (some 26) (.load 3 (.tmp 25)) (some (21, true)),
  .mk (some 27) (.binOp .eql 3 (.tmp 26) (.const (.int .i64 13)) 3) (some (21, true)),
  .mk (some 28) (.pick (.tmp 21) (.tmp 27) (.const (.bool false))) none,
  .mk (some 29) (.move (.tmp 28)) none,
  .mk (some 30) (.move (.tmp 0)) (some (29, true)),
  .mk (some 31) (.move (.tmp 5)) (some (29, true)),
  .mk (some 32) (.binOp .sub 3 (.tmp 31) (.const (.int .i64 1)) 3) (some (29, true)),
  .mk (some 33) (.indexAddr 22 (.tmp 30) (.tmp 32)) (some (29, true)),
  .mk (some 34) (.load 3 (.tmp 33)) (some (29, true)),
  .mk (some 35) (.binOp .eql 3 (.tmp 34) (.const (.int .i64 10)) 3) (some (29, true)),
  .mk (some 36) (.pick (.tmp 29) (.tmp 35) (.const (.bool false))) none]
def r108_5 : List PS := [.mk (some 37) (.move (.tmp 5)) none,
  .mk (some 38) (.binOp .sub 3 (.tmp 37) (.const (.int .i64 2)) 3) none,
  .mk (some 4) (.assign (.tmp 38)) none]
def r108_6 : List PS := [.mk (some 39) (.move (.tmp 5)) none,
  .mk (some 40) (.binOp .sub 3 (.tmp 39) (.const (.int .i64 1)) 3) none,
  .mk (some 4) (.assign (.tmp 40)) none]
def c108 : PC := (.seq (.reg false r108_0) (.seq (.reg false r108_1) (.seq (.seq (.reg false r108_2) (.cond (.tmp 17) (.seq (.reg false r108_3) .ret) .skip)) (.seq (.seq (.reg false r108_4) (.cond (.tmp 36) (.seq (.reg false r108_5) .ret) .skip)) (.seq (.reg false r108_6) .ret)))))
theorem e108 (hl : args.length = 2) (s : pwp Tryz.prog [] c108 (fin Tryz.prog [.tmp 4] h K) (slots0 (olds args)) h) : CanP Tryz.prog 108 args h K :=
  can_of2 (n := 41) mixed Tryz.func108 rfl (by kernel_rfl) (by rw [hl]; kernel_rfl) rfl (by kernel_rfl) s
/-! ### naskh.balance.evened$1: function 109 -/
def r109_0 : List PS := [.mk (some 6) (.assign (.const (.slice none 0 0))) none]
def r109_1 : List PS := [.mk (some 7) (.assign (.const (.slice none 0 0))) none]
def r109_2 : List PS := [.mk (some 11) (.move (.tmp 0)) none,
  .mk (some 8) (.assign (.tmp 11)) none]
def r109_3 : List PS := [.mk (some 12) (.move (.tmp 8)) none,
  .mk (some 13) (.move (.tmp 1)) none,
  .mk (some 14) (.binOp .lss 3 (.tmp 12) (.tmp 13) 3) none]
def r109_4 : List PS := [.mk (some 18) (.load 138 (.tmp 2)) none,
  .mk (some 19) (.nilCheck (.tmp 18)) none,
  .mk (some 20) (.fieldAddr 141 (.tmp 19) 3) none,
  .mk (some 21) (.load 22 (.tmp 20)) none,
  .mk (some 22) (.move (.tmp 8)) none,
  .mk (some 23) (.call ⟨(.value (.func 91)), #[(.tmp 21), (.tmp 22)], #[22, 3]⟩) none,
  .mk (some 17) (.move (.tmp 23)) none,
  .mk (some 24) (.extract (.tmp 17) 0) none,
  .mk (some 25) (.extract (.tmp 17) 1) none,
  .mk (some 9) (.assign (.tmp 24)) none,
  .mk (some 10) (.assign (.tmp 25)) none]
def r109_5 : List PS := [.mk (some 26) (.move (.tmp 10)) none,
  .mk (some 27) (.unOp .not 4 (.tmp 26)) none]
def r109_6 : List PS := [.mk (some 28) (.move (.tmp 7)) none,
  .mk (some 29) (.load 22 (.tmp 3)) none,
  .mk (some 30) (.move (.tmp 8)) none,
  .mk (some 31) (.indexAddr 22 (.tmp 29) (.tmp 30)) none,
  .mk (some 32) (.load 3 (.tmp 31)) none,
  .mk (some 33) (.buildSlice 22 1 #[(0, (.tmp 32))]) none,
  .mk (some 34) (.call ⟨(.builtin .append), #[(.tmp 28), (.tmp 33)], #[22, 22]⟩) none,
  .mk (some 7) (.assign (.tmp 34)) none]
def r109_7 : List PS := [.mk (some 15) (.move (.tmp 8)) none,
  .mk (some 16) (.binOp .add 3 (.tmp 15) (.const (.int .i64 1)) 3) none,
  .mk (some 8) (.assign (.tmp 16)) none]
def r109_8 : List PS := [.mk (some 35) (.move (.tmp 7)) none,
  .mk (some 6) (.assign (.tmp 35)) none]
def c109 : PC := (.seq (.reg false r109_0) (.seq (.reg false r109_1) (.seq (.seq (.reg false r109_2) (.block 0 (.loop (.seq (.seq (.reg false r109_3) (.cond (.tmp 14) .skip (.exit 0))) (.seq (.block 1 (.seq (.reg false r109_4) (.seq (.reg false r109_5) (.cond (.tmp 27) (.reg false r109_6) .skip)))) (.reg false r109_7)))))) (.seq (.reg false r109_8) .ret))))
theorem e109 (hl : args.length = 4) (s : pwp Tryz.prog [] c109 (fin Tryz.prog [.tmp 6] h K) (slots0 (olds args)) h) : CanP Tryz.prog 109 args h K :=
  can_of2 (n := 36) mixed Tryz.func109 rfl (by kernel_rfl) (by rw [hl]; kernel_rfl) rfl (by kernel_rfl) s
/-! ### slices.Backward[[]int,int]$1: function 148 -/
def r148_0 : List PS := [.mk (some 4) (.load 22 (.tmp 1)) none,
  .mk (some 5) (.call ⟨(.builtin .len), #[(.tmp 4)], #[22]⟩) none,
  .mk (some 6) (.binOp .sub 3 (.tmp 5) (.const (.int .i64 1)) 3) none,
  .mk (some 3) (.assign (.tmp 6)) none]
def r148_1 : List PS := [.mk (some 7) (.move (.tmp 3)) none,
  .mk (some 8) (.binOp .geq 3 (.tmp 7) (.const (.int .i64 0)) 3) none]
def r148_2 : List PS := [.mk (some 11) (.move (.tmp 0)) none,
  .mk (some 12) (.move (.tmp 3)) none,
  .mk (some 13) (.load 22 (.tmp 1)) none,
  .mk (some 14) (.move (.tmp 3)) none,
  .mk (some 15) (.indexAddr 22 (.tmp 13) (.tmp 14)) none,
  .mk (some 16) (.load 3 (.tmp 15)) none,
  .mk (some 17) (.call ⟨(.value (.tmp 11)), #[(.tmp 12), (.tmp 16)], #[3, 3]⟩) none,
  .mk (some 18) (.unOp .not 4 (.tmp 17)) none]
def r148_3 : List PS := [.mk (some 9) (.move (.tmp 3)) none,
  .mk (some 10) (.binOp .sub 3 (.tmp 9) (.const (.int .i64 1)) 3) none,
  .mk (some 3) (.assign (.tmp 10)) none]
def c148 : PC := (.seq (.reg false r148_0) (.block 0 (.loop (.seq (.seq (.reg false r148_1) (.cond (.tmp 8) .skip (.exit 0))) (.seq (.block 1 (.seq (.reg false r148_2) (.cond (.tmp 18) .ret .skip))) (.reg false r148_3))))))
theorem e148 (hl : args.length = 2) (s : pwp Tryz.prog [] c148 (fin Tryz.prog [] h K) (slots0 (olds args)) h) : CanP Tryz.prog 148 args h K :=
  can_of2 (n := 19) mixed Tryz.func148 rfl (by kernel_rfl) (by rw [hl]; kernel_rfl) rfl (by kernel_rfl) s
/-! ### slices.Backward[[]int,int]: function 132 -/
def r132_0 : List PS := [.mk (some 1) (.box 22 (.tmp 0)) none,
  .mk (some 2) (.assign (.const .nilFunc)) none]
def r132_1 : List PS := [.mk (some 3) (.makeFunc (.func 148) #[] #[(.tmp 1)]) none,
  .mk (some 2) (.assign (.tmp 3)) none]
def c132 : PC := (.seq (.reg false r132_0) (.seq (.reg false r132_1) .ret))
theorem e132 (hl : args.length = 1) (s : pwp Tryz.prog [] c132 (fin Tryz.prog [.tmp 2] h K) (slots0 (olds args)) h) : CanP Tryz.prog 132 args h K :=
  can_of2 (n := 4) mixed Tryz.func132 rfl (by kernel_rfl) (by rw [hl]; kernel_rfl) rfl (by kernel_rfl) s
/-! ### naskh.balance.evened: function 68 -/
def r68_0 : List PS := [.mk (some 2) (.box 22 (.tmp 0)) none,
  .mk (some 4) (.assign (.const (.slice none 0 0))) none]
def r68_1 : List PS := [.mk (some 8) (.move (.tmp 1)) none,
  .mk (some 9) (.call ⟨(.value (.func 89)), #[(.tmp 8)], #[22]⟩) none,
  .mk (some 5) (.alloc 138) none,
  .mk none (.store 138 (.tmp 5) (.tmp 9)) none,
  .frz 5]
def r68_2 : List PS := [.mk (some 10) (.load 22 (.tmp 2)) none,
  .mk (some 11) (.move (.tmp 1)) none,
  .mk (some 12) (.call ⟨(.value (.func 108)), #[(.tmp 10), (.tmp 11)], #[22, 22]⟩) none,
  .mk (some 6) (.assign (.tmp 12)) none]
def r68_3 : List PS := [.mk (some 13) (.makeFunc (.func 109) #[] #[(.tmp 5), (.tmp 2)]) none,
  .mk (some 7) (.assign (.tmp 13)) none]
def r68_4 : List PS := [.mk (some 14) (.move (.tmp 7)) none,
  .mk (some 15) (.move (.tmp 6)) none,
  .mk (some 16) (.call ⟨(.value (.tmp 14)), #[(.const (.int .i64 0)), (.tmp 15)], #[3, 3]⟩) none,
  .mk (some 17) (.load 138 (.tmp 5)) none,
  .mk (some 18) (.call ⟨(.value (.func 110)), #[(.tmp 17)], #[138]⟩) none,
  .mk (some 19) (.move (.tmp 7)) none,
  .mk (some 20) (.move (.tmp 6)) none,
  .mk (some 21) (.load 22 (.tmp 2)) none,
  .mk (some 22) (.call ⟨(.builtin .len), #[(.tmp 21)], #[22]⟩) none,
  .mk (some 23) (.call ⟨(.value (.tmp 19)), #[(.tmp 20), (.tmp 22)], #[3, 3]⟩) none,
  .mk (some 24) (.buildSlice 109 3 #[(0, (.tmp 16)), (1, (.tmp 18)), (2, (.tmp 23))]) none,
  .mk (some 25) (.call ⟨(.value (.func 70)), #[(.tmp 24)], #[109]⟩) none,
  .mk (some 4) (.assign (.tmp 25)) none]
def c68 : PC := (.seq (.reg false r68_0) (.seq (.reg false r68_1) (.seq (.reg false r68_2) (.seq (.reg false r68_3) (.seq (.reg true r68_4) .ret)))))
theorem e68 (hl : args.length = 2) (s : pwp Tryz.prog [5] c68 (fin Tryz.prog [.tmp 4] h K) (slots0 (olds args)) h) : CanP Tryz.prog 68 args h K :=
  can_of2 (n := 26) mixed Tryz.func68 rfl (by kernel_rfl) (by rw [hl]; kernel_rfl) rfl (by kernel_rfl) s
/-! ### naskh.balance.Even: function 31 -/
def r31_0 : List PS := [.mk (some 4) (.assign (.const (.slice none 0 0))) none]
def r31_1 : List PS := [.mk (some 5) (.assign (.const (.slice none 0 0))) none]
def r31_2 : List PS := [.mk (some 9) (.move (.tmp 0)) none,
  .mk (some 10) (.move (.tmp 1)) none,
  .mk (some 11) (.call ⟨(.value (.func 18)), #[(.tmp 9), (.tmp 10)], #[26, 22]⟩) none,
  .mk (some 12) (.call ⟨(.builtin .len), #[(.tmp 11)], #[46]⟩) none,
  .mk (some 13) (.move (.const (.int .i64 0))) none]
def r31_3 : List PS := [.mk (some 14) (.binOp .lss 3 (.tmp 13) (.tmp 12) 3) none]
def r31_4 : List PS := [.mk (some 15) (.indexAddr 46 (.tmp 11) (.tmp 13)) none,
  .mk (some 16) (.load 49 (.tmp 15)) none,
  .mk (some 7) (.alloc 49) none,
  .mk none (.store 49 (.tmp 7) (.tmp 16)) none,
  .frz 7]
def r31_5 : List PS := [.mk (some 17) (.move (.tmp 1)) none,
  .mk (some 18) (.fieldAddr 49 (.tmp 7) 0) none,
  .mk (some 19) (.load 3 (.tmp 18)) none,
  .mk (some 20) (.fieldAddr 49 (.tmp 7) 1) none,
  .mk (some 21) (.load 3 (.tmp 20)) none,
  .mk (some 22) (.slice 22 (.tmp 17) (some (.tmp 19)) (some (.tmp 21)) none) none,
  .mk (some 8) (.assign (.tmp 22)) none]
def r31_6 : List PS := [.mk (some 23) (.move (.tmp 5)) none,
  .mk (some 24) (.move (.tmp 8)) none,
  .mk (some 25) (.move (.tmp 0)) none,
  .mk (some 26) (.move (.tmp 8)) none,
  .mk (some 27) (.call ⟨(.value (.func 46)), #[(.tmp 25), (.tmp 26)], #[26, 22]⟩) none,
  .mk (some 28) (.call ⟨(.value (.func 68)), #[(.tmp 24), (.tmp 27)], #[22, 22]⟩) none,
  .mk (some 29) (.call ⟨(.builtin .append), #[(.tmp 23), (.tmp 28)], #[22, 22]⟩) none,
  .mk (some 5) (.assign (.tmp 29)) none]
def r31_7 : List PS := [.mk (some 30) (.binOp .add 3 (.tmp 13) (.const (.int .i64 1)) 3) none,
  .mk (some 13) (.move (.tmp 30)) none]
def r31_8 : List PS := [.mk (some 31) (.move (.tmp 5)) none,
  .mk (some 4) (.assign (.tmp 31)) none]
def c31 : PC := (.seq (.reg false r31_0) (.seq (.reg false r31_1) (.seq (.seq (.reg false r31_2) (.block 0 (.loop (.seq (.reg false r31_3) (.seq (.cond (.tmp 14) .skip (.exit 0)) (.seq (.block 1 (.seq (.reg false r31_4) (.seq (.reg false r31_5) (.reg false r31_6)))) (.reg false r31_7))))))) (.seq (.reg false r31_8) .ret))))
theorem e31 (hl : args.length = 2) (s : pwp Tryz.prog [7] c31 (fin Tryz.prog [.tmp 4] h K) (slots0 (olds args)) h) : CanP Tryz.prog 31 args h K :=
  can_of2 (n := 32) mixed Tryz.func31 rfl (by kernel_rfl) (by rw [hl]; kernel_rfl) rfl (by kernel_rfl) s
/-! ### (*naskh.ccc.Classes).rows: function 111 -/
def r111_0 : List PS := [.mk (some 6) (.assign (.const (.int .i64 0))) none]
def r111_1 : List PS := [.mk (some 9) (.move (.tmp 1)) none,
  .mk (some 10) (.call ⟨(.builtin .len), #[(.tmp 9)], #[22]⟩) none,
  .mk (some 11) (.move (.const (.int .i64 0))) none]
def r111_2 : List PS := [.mk (some 12) (.binOp .lss 3 (.tmp 11) (.tmp 10) 3) none]
def r111_3 : List PS := [.mk (some 13) (.move (.tmp 11)) none,
  .mk (some 14) (.indexAddr 22 (.tmp 9) (.tmp 11)) none,
  .mk (some 15) (.load 3 (.tmp 14)) none,
  .mk (some 7) (.assign (.tmp 13)) none,
  .mk (some 8) (.assign (.tmp 15)) none]
def r111_4 : List PS := [.mk (some 16) (.move (.tmp 0)) none,
  .mk (some 17) (.move (.tmp 8)) none,
  .mk (some 18) (.call ⟨(.value (.func 115)), #[(.tmp 16), (.tmp 17)], #[28, 3]⟩) none,
  .mk (some 19) (.binOp .eql 3 (.tmp 18) (.const (.int .i64 0)) 3) none]
def r111_5 : List PS := [.mk (some 20) (.move (.tmp 2)) none,
  .mk (some 21) (.move (.tmp 6)) none,
  .mk (some 22) (.move (.tmp 7)) none,
  .mk (some 23) (.call ⟨(.value (.tmp 20)), #[(.tmp 21), (.tmp 22)], #[3, 3]⟩) none]
def r111_6 : List PS := [.mk (some 24) (.move (.tmp 7)) none,
  .mk (some 25) (.binOp .add 3 (.tmp 24) (.const (.int .i64 1)) 3) none,
  .mk (some 6) (.assign (.tmp 25)) none]
def r111_7 : List PS := [.mk (some 26) (.binOp .add 3 (.tmp 11) (.const (.int .i64 1)) 3) none,
  .mk (some 11) (.move (.tmp 26)) none]
def r111_8 : List PS := [.mk (some 27) (.move (.tmp 2)) none,
  .mk (some 28) (.move (.tmp 6)) none,
  .mk (some 29) (.move (.tmp 1)) none,
  .mk (some 30) (.call ⟨(.builtin .len), #[(.tmp 29)], #[22]⟩) none,
  .mk (some 31) (.call ⟨(.value (.tmp 27)), #[(.tmp 28), (.tmp 30)], #[3, 3]⟩) none]
def c111 : PC := (.seq (.reg false r111_0) (.seq (.seq (.reg false r111_1) (.block 0 (.loop (.seq (.reg false r111_2) (.seq (.cond (.tmp 12) .skip (.exit 0)) (.seq (.block 1 (.seq (.reg false r111_3) (.seq (.reg false r111_4) (.cond (.tmp 19) (.seq (.reg false r111_5) (.reg false r111_6)) .skip)))) (.reg false r111_7))))))) (.reg false r111_8)))
theorem e111 (hl : args.length = 3) (s : pwp Tryz.prog [] c111 (fin Tryz.prog [] h K) (slots0 (olds args)) h) : CanP Tryz.prog 111 args h K :=
  can_of2 (n := 32) mixed Tryz.func111 rfl (by kernel_rfl) (by rw [hl]; kernel_rfl) rfl (by kernel_rfl) s
/-! ### slices.insertionSortCmpFunc[int]: function 149 -/
def r149_0 : List PS := [.mk (some 10) (.move (.tmp 1)) none,
  .mk (some 11) (.binOp .add 3 (.tmp 10) (.const (.int .i64 1)) 3) none,
  .mk (some 8) (.assign (.tmp 11)) none]
def r149_1 : List PS := [.mk (some 12) (.move (.tmp 8)) none,
  .mk (some 13) (.move (.tmp 2)) none,
  .mk (some 14) (.binOp .lss 3 (.tmp 12) (.tmp 13) 3) none]
def r149_2 : List PS := [.mk (some 17) (.move (.tmp 8)) none,
  .mk (some 9) (.assign (.tmp 17)) none]
def r149_3 : List PS := [.mk (some 18) (.move (.tmp 9)) none,
  .mk (some 19) (.move (.tmp 1)) none,
  .mk (some 20) (.binOp .gtr 3 (.tmp 18) (.tmp 19) 3) none,
  .mk (some 21) (.move (.tmp 20)) none,
  .mk (some 22) (.move (.tmp 3)) (some (21, true)),
  .mk (some 23) (.move (.tmp 0)) (some (21, true)),
  .mk (some 24) (.move (.tmp 9)) (some (21, true)),
  .mk (some 25) (.indexAddr 22 (.tmp 23) (.tmp 24)) (some (21, true)),
  .mk (some 26) (.load 3 (.tmp 25)) (some (21, true)),
  .mk (some 27) (.move (.tmp 0)) (some (21, true)),
  .mk (some 28) (.move (.tmp 9)) (some (21, true)),
  .mk (some 29) (.binOp .sub 3 (.tmp 28) (.const (.int .i64 1)) 3) (some (21, true)),
  .mk (some 30) (.indexAddr 22 (.tmp 27) (.tmp 29)) (some (21, true)),
  .mk (some 31) (.load 3 (.tmp 30)) (some (21, true)),
  .mk (some 32) (.call ⟨(.value (.tmp 22)), #[(.tmp 26), (.tmp 31)], #[3, 3]⟩) (some (21, true)),
  .mk (some 33) (.binOp .lss 3 (.tmp 32) (.const (.int .i64 0)) 3) (some (21, true)),
  .mk (some 34) (.pick (.tmp 21) (.tmp 33) (.const (.bool false))) none]
def r149_4 : List PS := [.mk (some 37) (.move (.tmp 0)) none,
  .mk (some 38) (.move (.tmp 9)) none,
  .mk (some 39) (.move (.tmp 0)) none,
  .mk (some 40) (.move (.tmp 9)) none,
  .mk (some 41) (.binOp .sub 3 (.tmp 40) (.const (.int .i64 1)) 3) none,
  .mk (some 42) (.move (.tmp 0)) none,
  .mk (some 43) (.move (.tmp 9)) none,
  .mk (some 44) (.binOp .sub 3 (.tmp 43) (.const (.int .i64 1)) 3) none,
  .mk (some 45) (.indexAddr 22 (.tmp 42) (.tmp 44)) none,
  .mk (some 46) (.load 3 (.tmp 45)) none,
  .mk (some 47) (.move (.tmp 0)) none,
  .mk (some 48) (.move (.tmp 9)) none,
  .mk (some 49) (.indexAddr 22 (.tmp 47) (.tmp 48)) none,
  .mk (some 50) (.load 3 (.tmp 49)) none,
  .mk (some 51) (.indexAddr 22 (.tmp 37) (.tmp 38)) none,
  .mk none (.store 3 (.tmp 51) (.tmp 46)) none,
  .mk (some 52) (.indexAddr 22 (.tmp 39) (.tmp 41)) none,
  .mk none (.store 3 (.tmp 52) (.tmp 50)) none]
def r149_5 : List PS := [.mk (some 35) (.move (.tmp 9)) none,
  .mk (some 36) (.binOp .sub 3 (.tmp 35) (.const (.int .i64 1)) 3) none,
  .mk (some 9) (.assign (.tmp 36)) none]
def r149_6 : List PS := [.mk (some 15) (.move (.tmp 8)) none,
  .mk (some 16) (.binOp .add 3 (.tmp 15) (.const (.int .i64 1)) 3) none,
  .mk (some 8) (.assign (.tmp 16)) none]
def c149 : PC := (.seq (.reg false r149_0) (.block 0 (.loop (.seq (.seq (.reg false r149_1) (.cond (.tmp 14) .skip (.exit 0))) (.seq (.block 1 (.seq (.reg false r149_2) (.block 2 (.loop (.seq (.seq (.reg true r149_3) (.cond (.tmp 34) .skip (.exit 2))) (.seq (.block 3 (.reg true r149_4)) (.reg false r149_5))))))) (.reg false r149_6))))))
theorem e149 (hl : args.length = 4) (s : pwp Tryz.prog [] c149 (fin Tryz.prog [] h K) (slots0 (olds args)) h) : CanP Tryz.prog 149 args h K :=
  can_of2 (n := 53) mixed Tryz.func149 rfl (by kernel_rfl) (by rw [hl]; kernel_rfl) rfl (by kernel_rfl) s
/-! ### slices.swapRangeCmpFunc[int]: function 158 -/
def r158_0 : List PS := [.mk (some 10) (.assign (.const (.int .i64 0))) none]
def r158_1 : List PS := [.mk (some 11) (.move (.tmp 10)) none,
  .mk (some 12) (.move (.tmp 3)) none,
  .mk (some 13) (.binOp .lss 3 (.tmp 11) (.tmp 12) 3) none]
def r158_2 : List PS := [.mk (some 16) (.move (.tmp 0)) none,
  .mk (some 17) (.move (.tmp 1)) none,
  .mk (some 18) (.move (.tmp 10)) none,
  .mk (some 19) (.binOp .add 3 (.tmp 17) (.tmp 18) 3) none,
  .mk (some 20) (.move (.tmp 0)) none,
  .mk (some 21) (.move (.tmp 2)) none,
  .mk (some 22) (.move (.tmp 10)) none,
  .mk (some 23) (.binOp .add 3 (.tmp 21) (.tmp 22) 3) none,
  .mk (some 24) (.move (.tmp 0)) none,
  .mk (some 25) (.move (.tmp 2)) none,
  .mk (some 26) (.move (.tmp 10)) none,
  .mk (some 27) (.binOp .add 3 (.tmp 25) (.tmp 26) 3) none,
  .mk (some 28) (.indexAddr 22 (.tmp 24) (.tmp 27)) none,
  .mk (some 29) (.load 3 (.tmp 28)) none,
  .mk (some 30) (.move (.tmp 0)) none,
  .mk (some 31) (.move (.tmp 1)) none,
  .mk (some 32) (.move (.tmp 10)) none,
  .mk (some 33) (.binOp .add 3 (.tmp 31) (.tmp 32) 3) none,
  .mk (some 34) (.indexAddr 22 (.tmp 30) (.tmp 33)) none,
  .mk (some 35) (.load 3 (.tmp 34)) none,
  .mk (some 36) (.indexAddr 22 (.tmp 16) (.tmp 19)) none,
  .mk none (.store 3 (.tmp 36) (.tmp 29)) none,
  .mk (some 37) (.indexAddr 22 (.tmp 20) (.tmp 23)) none,
  .mk none (.store 3 (.tmp 37) (.tmp 35)) none]
def r158_3 : List PS := [.mk (some 14) (.move (.tmp 10)) none,
  .mk (some 15) (.binOp .add 3 (.tmp 14) (.const (.int .i64 1)) 3) none,
  .mk (some 10) (.assign (.tmp 15)) none]
def c158 : PC := (.seq (.reg false r158_0) (.block 0 (.loop (.seq (.seq (.reg false r158_1) (.cond (.tmp 13) .skip (.exit 0))) (.seq (.block 1 (.reg true r158_2)) (.reg false r158_3))))))
theorem e158 (hl : args.length = 5) (s : pwp Tryz.prog [] c158 (fin Tryz.prog [] h K) (slots0 (olds args)) h) : CanP Tryz.prog 158 args h K :=
  can_of2 (n := 38) mixed Tryz.func158 rfl (by kernel_rfl) (by rw [hl]; kernel_rfl) rfl (by kernel_rfl) s
/-! ### slices.rotateCmpFunc[int]: function 156 -/
def r156_0 : List PS := [.mk (some 12) (.move (.tmp 2)) none,
  .mk (some 13) (.move (.tmp 1)) none,
  .mk (some 14) (.binOp .sub 3 (.tmp 12) (.tmp 13) 3) none,
  .mk (some 10) (.assign (.tmp 14)) none]
def r156_1 : List PS := [.mk (some 15) (.move (.tmp 3)) none,
  .mk (some 16) (.move (.tmp 2)) none,
  .mk (some 17) (.binOp .sub 3 (.tmp 15) (.tmp 16) 3) none,
  .mk (some 11) (.assign (.tmp 17)) none]
def r156_2 : List PS := [.mk (some 18) (.move (.tmp 10)) none,
  .mk (some 19) (.move (.tmp 11)) none,
  .mk (some 20) (.binOp .neq 3 (.tmp 18) (.tmp 19) 3) none]
def r156_3 : List PS := [.mk (some 21) (.move (.tmp 10)) none,
  .mk (some 22) (.move (.tmp 11)) none,
  .mk (some 23) (.binOp .gtr 3 (.tmp 21) (.tmp 22) 3) none]
def r156_4 : List PS := [.mk (some 24) (.move (.tmp 0)) none,
  .mk (some 25) (.move (.tmp 2)) none,
  .mk (some 26) (.move (.tmp 10)) none,
  .mk (some 27) (.binOp .sub 3 (.tmp 25) (.tmp 26) 3) none,
  .mk (some 28) (.move (.tmp 2)) none,
  .mk (some 29) (.move (.tmp 11)) none,
  .mk (some 30) (.move (.tmp 4)) none,
  .mk (some 31) (.call ⟨(.value (.func 158)), #[(.tmp 24), (.tmp 27), (.tmp 28), (.tmp 29), (.tmp 30)], #[22, 3, 3, 3, 155]⟩) none]
def r156_5 : List PS := [.mk (some 32) (.move (.tmp 10)) none,
  .mk (some 33) (.move (.tmp 11)) none,
  .mk (some 34) (.binOp .sub 3 (.tmp 32) (.tmp 33) 3) none,
  .mk (some 10) (.assign (.tmp 34)) none]
def r156_6 : List PS := [.mk (some 35) (.move (.tmp 0)) none,
  .mk (some 36) (.move (.tmp 2)) none,
  .mk (some 37) (.move (.tmp 10)) none,
  .mk (some 38) (.binOp .sub 3 (.tmp 36) (.tmp 37) 3) none,
  .mk (some 39) (.move (.tmp 2)) none,
  .mk (some 40) (.move (.tmp 11)) none,
  .mk (some 41) (.binOp .add 3 (.tmp 39) (.tmp 40) 3) none,
  .mk (some 42) (.move (.tmp 10)) none,
  .mk (some 43) (.binOp .sub 3 (.tmp 41) (.tmp 42) 3) none,
  .mk (some 44) (.move (.tmp 10)) none,
  .mk (some 45) (.move (.tmp 4)) none,
  .mk (some 46) (.call ⟨(.value (.func 158)), #[(.tmp 35), (.tmp 38), (.tmp 43), (.tmp 44), (.tmp 45)], #[22, 3, 3, 3, 155]⟩) none]
def r156_7 : List PS := [.mk (some 47) (.move (.tmp 11)) none,
  .mk (some 48) (.move (.tmp 10)) none,
  .mk (some 49) (.binOp .sub 3 (.tmp 47) (.tmp 48) 3) none,
  .mk (some 11) (.assign (.tmp 49)) none]
def r156_8 : List PS := [.mk (some 50) (.move (.tmp 0)) none,
  .mk (some 51) (.move (.tmp 2)) none,
  .mk (some 52) (.move (.tmp 10)) none,
  .mk (some 53) (.binOp .sub 3 (.tmp 51) (.tmp 52) 3) none,
  .mk (some 54) (.move (.tmp 2)) none,
  .mk (some 55) (.move (.tmp 10)) none,
  .mk (some 56) (.move (.tmp 4)) none,
  .mk (some 57) (.call ⟨(.value (.func 158)), #[(.tmp 50), (.tmp 53), (.tmp 54), (.tmp 55), (.tmp 56)], #[22, 3, 3, 3, 155]⟩) none]
def c156 : PC := (.seq (.reg false r156_0) (.seq (.reg false r156_1) (.seq (.block 0 (.loop (.seq (.seq (.reg false r156_2) (.cond (.tmp 20) .skip (.exit 0))) (.block 1 (.seq (.reg false r156_3) (.cond (.tmp 23) (.seq (.reg false r156_4) (.reg false r156_5)) (.seq (.reg false r156_6) (.reg false r156_7)))))))) (.reg false r156_8))))
theorem e156 (hl : args.length = 5) (s : pwp Tryz.prog [] c156 (fin Tryz.prog [] h K) (slots0 (olds args)) h) : CanP Tryz.prog 156 args h K :=
  can_of2 (n := 58) mixed Tryz.func156 rfl (by kernel_rfl) (by rw [hl]; kernel_rfl) rfl (by kernel_rfl) s
/-! ### slices.symMergeCmpFunc[int]: function 150 -/
def r150_0 : List PS := [.mk (some 25) (.move (.tmp 2)) none,
  .mk (some 26) (.move (.tmp 1)) none,
  .mk (some 27) (.binOp .sub 3 (.tmp 25) (.tmp 26) 3) none,
  .mk (some 28) (.binOp .eql 3 (.tmp 27) (.const (.int .i64 1)) 3) none]
def r150_1 : List PS := [.mk (some 29) (.move (.tmp 2)) none,
  .mk (some 10) (.assign (.tmp 29)) none]
def r150_2 : List PS := [.mk (some 30) (.move (.tmp 3)) none,
  .mk (some 11) (.assign (.tmp 30)) none]
def r150_3 : List PS := [.mk (some 31) (.move (.tmp 10)) none,
  .mk (some 32) (.move (.tmp 11)) none,
  .mk (some 33) (.binOp .lss 3 (.tmp 31) (.tmp 32) 3) none]
def r150_4 : List PS := [.mk (some 34) (.move (.tmp 10)) none,
  .mk (some 35) (.move (.tmp 11)) none,
  .mk (some 36) (.binOp .add 3 (.tmp 34) (.tmp 35) 3) none,
  .mk (some 37) (.convert 3 162 (.tmp 36)) none,
  .mk (some 38) (.binOp .shr 162 (.tmp 37) (.const (.int .u64 1)) 162) none,
  .mk (some 39) (.convert 162 3 (.tmp 38)) none,
  .mk (some 12) (.assign (.tmp 39)) none]
def r150_5 : List PS := [.mk (some 40) (.move (.tmp 4)) none,
  .mk (some 41) (.move (.tmp 0)) none,
  .mk (some 42) (.move (.tmp 12)) none,
  .mk (some 43) (.indexAddr 22 (.tmp 41) (.tmp 42)) none,
  .mk (some 44) (.load 3 (.tmp 43)) none,
  .mk (some 45) (.move (.tmp 0)) none,
  .mk (some 46) (.move (.tmp 1)) none,
  .mk (some 47) (.indexAddr 22 (.tmp 45) (.tmp 46)) none,
  .mk (some 48) (.load 3 (.tmp 47)) none,
  .mk (some 49) (.call ⟨(.value (.tmp 40)), #[(.tmp 44), (.tmp 48)], #[3, 3]⟩) none,
  .mk (some 50) (.binOp .lss 3 (.tmp 49) (.const (.int .i64 0)) 3) none]
def r150_6 : List PS := [.mk (some 51) (.move (.tmp 12)) none,
  .mk (some 52) (.binOp .add 3 (.tmp 51) (.const (.int .i64 1)) 3) none,
  .mk (some 10) (.assign (.tmp 52)) none]
def r150_7 : List PS := [.mk (some 53) (.move (.tmp 12)) none,
  .mk (some 11) (.assign (.tmp 53)) none]
def r150_8 : List PS := [.mk (some 54) (.move (.tmp 1)) none,
  .mk (some 13) (.assign (.tmp 54)) none]
def r150_9 : List PS := [.mk (some 55) (.move (.tmp 13)) none,
  .mk (some 56) (.move (.tmp 10)) none,
  .mk (some 57) (.binOp .sub 3 (.tmp 56) (.const (.int .i64 1)) 3) none,
  .mk (some 58) (.binOp .lss 3 (.tmp 55) (.tmp 57) 3) none]
def r150_10 : List PS := [.mk (some 61) (.move (.tmp 0)) none,
  .mk (some 62) (.move (.tmp 13)) none,
  .mk (some 63) (.move (.tmp 0)) none,
  .mk (some 64) (.move (.tmp 13)) none,
  .mk (some 65) (.binOp .add 3 (.tmp 64) (.const (.int .i64 1)) 3) none,
  .mk (some 66) (.move (.tmp 0)) none,
  .mk (some 67) (.move (.tmp 13)) none,
  .mk (some 68) (.binOp .add 3 (.tmp 67) (.const (.int .i64 1)) 3) none,
  .mk (some 69) (.indexAddr 22 (.tmp 66) (.tmp 68)) none,
  .mk (some 70) (.load 3 (.tmp 69)) none,
  .mk (some 71) (.move (.tmp 0)) none,
  .mk (some 72) (.move (.tmp 13)) none,
  .mk (some 73) (.indexAddr 22 (.tmp 71) (.tmp 72)) none,
  .mk (some 74) (.load 3 (.tmp 73)) none,
  .mk (some 75) (.indexAddr 22 (.tmp 61) (.tmp 62)) none,
  .mk none (.store 3 (.tmp 75) (.tmp 70)) none,
  .mk (some 76) (.indexAddr 22 (.tmp 63) (.tmp 65)) none,
  .mk none (.store 3 (.tmp 76) (.tmp 74)) none]
def r150_11 : List PS := [.mk (some 59) (.move (.tmp 13)) none,
  .mk (some 60) (.binOp .add 3 (.tmp 59) (.const (.int .i64 1)) 3) none,
  .mk (some 13) (.assign (.tmp 60)) none]
def r150_12 : List PS := [.mk (some 77) (.move (.tmp 3)) none,
  .mk (some 78) (.move (.tmp 2)) none,
  .mk (some 79) (.binOp .sub 3 (.tmp 77) (.tmp 78) 3) none,
  .mk (some 80) (.binOp .eql 3 (.tmp 79) (.const (.int .i64 1)) 3) none]
def r150_13 : List PS := [.mk (some 81) (.move (.tmp 1)) none,
  .mk (some 14) (.assign (.tmp 81)) none]
def r150_14 : List PS := [.mk (some 82) (.move (.tmp 2)) none,
  .mk (some 15) (.assign (.tmp 82)) none]
def r150_15 : List PS := [.mk (some 83) (.move (.tmp 14)) none,
  .mk (some 84) (.move (.tmp 15)) none,
  .mk (some 85) (.binOp .lss 3 (.tmp 83) (.tmp 84) 3) none]
def r150_16 : List PS := [.mk (some 86) (.move (.tmp 14)) none,
  .mk (some 87) (.move (.tmp 15)) none,
  .mk (some 88) (.binOp .add 3 (.tmp 86) (.tmp 87) 3) none,
  .mk (some 89) (.convert 3 162 (.tmp 88)) none,
  .mk (some 90) (.binOp .shr 162 (.tmp 89) (.const (.int .u64 1)) 162) none,
  .mk (some 91) (.convert 162 3 (.tmp 90)) none,
  .mk (some 16) (.assign (.tmp 91)) none]
def r150_17 : List PS := [.mk (some 92) (.move (.tmp 4)) none,
  .mk (some 93) (.move (.tmp 0)) none,
  .mk (some 94) (.move (.tmp 2)) none,
  .mk (some 95) (.indexAddr 22 (.tmp 93) (.tmp 94)) none,
  .mk (some 96) (.load 3 (.tmp 95)) none,
  .mk (some 97) (.move (.tmp 0)) none,
  .mk (some 98) (.move (.tmp 16)) none,
  .mk (some 99) (.indexAddr 22 (.tmp 97) (.tmp 98)) none,
  .mk (some 100) (.load 3 (.tmp 99)) none,
  .mk (some 101) (.call ⟨(.value (.tmp 92)), #[(.tmp 96), (.tmp 100)], #[3, 3]⟩) none,
  .mk (some 102) (.binOp .lss 3 (.tmp 101) (.const (.int .i64 0)) 3) none,
  .mk (some 103) (.unOp .not 4 (.tmp 102)) none]
def r150_18 : List PS := [.mk (some 104) (.move (.tmp 16)) none,
  .mk (some 105) (.binOp .add 3 (.tmp 104) (.const (.int .i64 1)) 3) none,
  .mk (some 14) (.assign (.tmp 105)) none]
def r150_19 : List PS := [.mk (some 106) (.move (.tmp 16)) none,
  .mk (some 15) (.assign (.tmp 106)) none]
def r150_20 : List PS := [.mk (some 107) (.move (.tmp 2)) none,
  .mk (some 17) (.assign (.tmp 107)) none]
def r150_21 : List PS := [.mk (some 108) (.move (.tmp 17)) none,
  .mk (some 109) (.move (.tmp 14)) none,
  .mk (some 110) (.binOp .gtr 3 (.tmp 108) (.tmp 109) 3) none]
def r150_22 : List PS := [.mk (some 113) (.move (.tmp 0)) none,
  .mk (some 114) (.move (.tmp 17)) none,
  .mk (some 115) (.move (.tmp 0)) none,
  .mk (some 116) (.move (.tmp 17)) none,
  .mk (some 117) (.binOp .sub 3 (.tmp 116) (.const (.int .i64 1)) 3) none,
  .mk (some 118) (.move (.tmp 0)) none,
  .mk (some 119) (.move (.tmp 17)) none,
  .mk (some 120) (.binOp .sub 3 (.tmp 119) (.const (.int .i64 1)) 3) none,
  .mk (some 121) (.indexAddr 22 (.tmp 118) (.tmp 120)) none,
  .mk (some 122) (.load 3 (.tmp 121)) none,
  .mk (some 123) (.move (.tmp 0)) none,
  .mk (some 124) (.move (.tmp 17)) none,
  .mk (some 125) (.indexAddr 22 (.tmp 123) (.tmp 124)) none,
  .mk (some 126) (.load 3 (.tmp 125)) none,
  .mk (some 127) (.indexAddr 22 (.tmp 113) (.tmp 114)) none,
  .mk none (.store 3 (.tmp 127) (.tmp 122)) none,
  .mk (some 128) (.indexAddr 22 (.tmp 115) (.tmp 117)) none,
  .mk none (.store 3 (.tmp 128) (.tmp 126)) none]
def r150_23 : List PS := [.mk (some 111) (.move (.tmp 17)) none,
  .mk (some 112) (.binOp .sub 3 (.tmp 111) (.const (.int .i64 1)) 3) none,
  .mk (some 17) (.assign (.tmp 112)) none]
def r150_24 : List PS := [.mk (some 129) (.move (.tmp 1)) none,
  .mk (some 130) (.move (.tmp 3)) none,
  .mk (some 131) (.binOp .add 3 (.tmp 129) (.tmp 130) 3) none,
  .mk (some 132) (.convert 3 162 (.tmp 131)) none,
  .mk (some 133) (.binOp .shr 162 (.tmp 132) (.const (.int .u64 1)) 162) none,
  .mk (some 134) (.convert 162 3 (.tmp 133)) none,
  .mk (some 18) (.assign (.tmp 134)) none]
def r150_25 : List PS := [.mk (some 135) (.move (.tmp 18)) none,
  .mk (some 136) (.move (.tmp 2)) none,
  .mk (some 137) (.binOp .add 3 (.tmp 135) (.tmp 136) 3) none,
  .mk (some 19) (.assign (.tmp 137)) none]
def r150_26 : List PS := [.mk (some 20) (.assign (.const (.int .i64 0))) none,
  .mk (some 21) (.assign (.const (.int .i64 0))) none]
def r150_27 : List PS := [.mk (some 138) (.move (.tmp 2)) none,
  .mk (some 139) (.move (.tmp 18)) none,
  .mk (some 140) (.binOp .gtr 3 (.tmp 138) (.tmp 139) 3) none]
def r150_28 : List PS := [.mk (some 141) (.move (.tmp 19)) none,
  .mk (some 142) (.move (.tmp 3)) none,
  .mk (some 143) (.binOp .sub 3 (.tmp 141) (.tmp 142) 3) none,
  .mk (some 20) (.assign (.tmp 143)) none]
def r150_29 : List PS := [.mk (some 144) (.move (.tmp 18)) none,
  .mk (some 21) (.assign (.tmp 144)) none]
def r150_30 : List PS := [.mk (some 145) (.move (.tmp 1)) none,
  .mk (some 20) (.assign (.tmp 145)) none]
def r150_31 : List PS := [.mk (some 146) (.move (.tmp 2)) none,
  .mk (some 21) (.assign (.tmp 146)) none]
def r150_32 : List PS := [.mk (some 147) (.move (.tmp 19)) none,
  .mk (some 148) (.binOp .sub 3 (.tmp 147) (.const (.int .i64 1)) 3) none,
  .mk (some 22) (.assign (.tmp 148)) none]
def r150_33 : List PS := [.mk (some 149) (.move (.tmp 20)) none,
  .mk (some 150) (.move (.tmp 21)) none,
  .mk (some 151) (.binOp .lss 3 (.tmp 149) (.tmp 150) 3) none]
def r150_34 : List PS := [.mk (some 152) (.move (.tmp 20)) none,
  .mk (some 153) (.move (.tmp 21)) none,
  .mk (some 154) (.binOp .add 3 (.tmp 152) (.tmp 153) 3) none,
  .mk (some 155) (.convert 3 162 (.tmp 154)) none,
  .mk (some 156) (.binOp .shr 162 (.tmp 155) (.const (.int .u64 1)) 162) none,
  .mk (some 157) (.convert 162 3 (.tmp 156)) none,
  .mk (some 23) (.assign (.tmp 157)) none]
def r150_35 : List PS := [.mk (some 158) (.move (.tmp 4)) none,
  .mk (some 159) (.move (.tmp 0)) none,
  .mk (some 160) (.move (.tmp 22)) none,
  .mk (some 161) (.move (.tmp 23)) none,
  .mk (some 162) (.binOp .sub 3 (.tmp 160) (.tmp 161) 3) none,
  .mk (some 163) (.indexAddr 22 (.tmp 159) (.tmp 162)) none,
  .mk (some 164) (.load 3 (.tmp 163)) none,
  .mk (some 165) (.move (.tmp 0)) none,
  .mk (some 166) (.move (.tmp 23)) none,
  .mk (some 167) (.indexAddr 22 (.tmp 165) (.tmp 166)) none,
  .mk (some 168) (.load 3 (.tmp 167)) none,
  .mk (some 169) (.call ⟨(.value (.tmp 158)), #[(.tmp 164), (.tmp 168)], #[3, 3]⟩) none,
  .mk (some 170) (.binOp .lss 3 (.tmp 169) (.const (.int .i64 0)) 3) none,
  .mk (some 171) (.unOp .not 4 (.tmp 170)) none]
def r150_36 : List PS := [.mk (some 172) (.move (.tmp 23)) none,
  .mk (some 173) (.binOp .add 3 (.tmp 172) (.const (.int .i64 1)) 3) none,
  .mk (some 20) (.assign (.tmp 173)) none]
def r150_37 : List PS := [.mk (some 174) (.move (.tmp 23)) none,
  .mk (some 21) (.assign (.tmp 174)) none]
def r150_38 : List PS := [.mk (some 175) (.move (.tmp 19)) none,
  .mk (some 176) (.move (.tmp 20)) none,
  .mk (some 177) (.binOp .sub 3 (.tmp 175) (.tmp 176) 3) none,
  .mk (some 24) (.assign (.tmp 177)) none]
def r150_39 : List PS := [.mk (some 178) (.move (.tmp 20)) none,
  .mk (some 179) (.move (.tmp 2)) none,
  .mk (some 180) (.binOp .lss 3 (.tmp 178) (.tmp 179) 3) none,
  .mk (some 181) (.move (.tmp 180)) none,
  .mk (some 182) (.move (.tmp 2)) (some (181, true)),
  .mk (some 183) (.move (.tmp 24)) (some (181, true)),
  .mk (some 184) (.binOp .lss 3 (.tmp 182) (.tmp 183) 3) (some (181, true)),
  .mk (some 185) (.pick (.tmp 181) (.tmp 184) (.const (.bool false))) none]
def r150_40 : List PS := [.mk (some 186) (.move (.tmp 0)) none,
  .mk (some 187) (.move (.tmp 20)) none,
  .mk (some 188) (.move (.tmp 2)) none,
  .mk (some 189) (.move (.tmp 24)) none,
  .mk (some 190) (.move (.tmp 4)) none,
  .mk (some 191) (.call ⟨(.value (.func 156)), #[(.tmp 186), (.tmp 187), (.tmp 188), (.tmp 189), (.tmp 190)], #[22, 3, 3, 3, 155]⟩) none]
def r150_41 : List PS := [.mk (some 192) (.move (.tmp 1)) none,
  .mk (some 193) (.move (.tmp 20)) none,
  .mk (some 194) (.binOp .lss 3 (.tmp 192) (.tmp 193) 3) none,
  .mk (some 195) (.move (.tmp 194)) none,
  .mk (some 196) (.move (.tmp 20)) (some (195, true)),
  .mk (some 197) (.move (.tmp 18)) (some (195, true)),
  .mk (some 198) (.binOp .lss 3 (.tmp 196) (.tmp 197) 3) (some (195, true)),
  .mk (some 199) (.pick (.tmp 195) (.tmp 198) (.const (.bool false))) none]
def r150_42 : List PS := [.mk (some 200) (.move (.tmp 0)) none,
  .mk (some 201) (.move (.tmp 1)) none,
  .mk (some 202) (.move (.tmp 20)) none,
  .mk (some 203) (.move (.tmp 18)) none,
  .mk (some 204) (.move (.tmp 4)) none,
  .mk (some 205) (.call ⟨(.value (.func 150)), #[(.tmp 200), (.tmp 201), (.tmp 202), (.tmp 203), (.tmp 204)], #[22, 3, 3, 3, 155]⟩) none]
def r150_43 : List PS := [.mk (some 206) (.move (.tmp 18)) none,
  .mk (some 207) (.move (.tmp 24)) none,
  .mk (some 208) (.binOp .lss 3 (.tmp 206) (.tmp 207) 3) none,
  .mk (some 209) (.move (.tmp 208)) none,
  .mk (some 210) (.move (.tmp 24)) (some (209, true)),
  .mk (some 211) (.move (.tmp 3)) (some (209, true)),
  .mk (some 212) (.binOp .lss 3 (.tmp 210) (.tmp 211) 3) (some (209, true)),
  .mk (some 213) (.pick (.tmp 209) (.tmp 212) (.const (.bool false))) none]
def r150_44 : List PS := [.mk (some 214) (.move (.tmp 0)) none,
  .mk (some 215) (.move (.tmp 18)) none,
  .mk (some 216) (.move (.tmp 24)) none,
  .mk (some 217) (.move (.tmp 3)) none,
  .mk (some 218) (.move (.tmp 4)) none,
  .mk (some 219) (.call ⟨(.value (.func 150)), #[(.tmp 214), (.tmp 215), (.tmp 216), (.tmp 217), (.tmp 218)], #[22, 3, 3, 3, 155]⟩) none]
def c150 : PC := (.seq (.seq (.reg false r150_0) (.cond (.tmp 28) (.seq (.reg false r150_1) (.seq (.reg false r150_2) (.seq (.block 0 (.loop (.seq (.seq (.reg false r150_3) (.cond (.tmp 33) .skip (.exit 0))) (.block 1 (.seq (.reg false r150_4) (.seq (.reg true r150_5) (.cond (.tmp 50) (.reg false r150_6) (.reg false r150_7)))))))) (.seq (.seq (.reg false r150_8) (.block 2 (.loop (.seq (.seq (.reg false r150_9) (.cond (.tmp 58) .skip (.exit 2))) (.seq (.block 3 (.reg true r150_10)) (.reg false r150_11)))))) .ret)))) .skip)) (.seq (.seq (.reg false r150_12) (.cond (.tmp 80) (.seq (.reg false r150_13) (.seq (.reg false r150_14) (.seq (.block 4 (.loop (.seq (.seq (.reg false r150_15) (.cond (.tmp 85) .skip (.exit 4))) (.block 5 (.seq (.reg false r150_16) (.seq (.reg true r150_17) (.cond (.tmp 103) (.reg false r150_18) (.reg false r150_19)))))))) (.seq (.seq (.reg false r150_20) (.block 6 (.loop (.seq (.seq (.reg false r150_21) (.cond (.tmp 110) .skip (.exit 6))) (.seq (.block 7 (.reg true r150_22)) (.reg false r150_23)))))) .ret)))) .skip)) (.seq (.reg false r150_24) (.seq (.reg false r150_25) (.seq (.reg false r150_26) (.seq (.seq (.reg false r150_27) (.cond (.tmp 140) (.seq (.reg false r150_28) (.reg false r150_29)) (.seq (.reg false r150_30) (.reg false r150_31)))) (.seq (.reg false r150_32) (.seq (.block 8 (.loop (.seq (.seq (.reg false r150_33) (.cond (.tmp 151) .skip (.exit 8))) (.block 9 (.seq (.reg false r150_34) (.seq (.reg true r150_35) (.cond (.tmp 171) (.reg false r150_36) (.reg false r150_37)))))))) (.seq (.reg false r150_38) (.seq (.seq (.reg false r150_39) (.cond (.tmp 185) (.reg false r150_40) .skip)) (.seq (.seq (.reg false r150_41) (.cond (.tmp 199) (.reg false r150_42) .skip)) (.seq (.reg false r150_43) (.cond (.tmp 213) (.reg false r150_44) .skip)))))))))))))
theorem e150 (hl : args.length = 5) (s : pwp Tryz.prog [] c150 (fin Tryz.prog [] h K) (slots0 (olds args)) h) : CanP Tryz.prog 150 args h K :=
  can_of2 (n := 220) mixed Tryz.func150 rfl (by kernel_rfl) (by rw [hl]; kernel_rfl) rfl (by kernel_rfl) s
/-! ### slices.stableCmpFunc[int]: function 133 -/
def r133_0 : List PS := [.mk (some 6) (.assign (.const (.int .i64 20))) none]
def r133_1 : List PS := [.mk (some 10) (.move (.tmp 6)) none,
  .mk (some 7) (.assign (.const (.int .i64 0))) none,
  .mk (some 8) (.assign (.tmp 10)) none]
def r133_2 : List PS := [.mk (some 11) (.move (.tmp 8)) none,
  .mk (some 12) (.move (.tmp 1)) none,
  .mk (some 13) (.binOp .leq 3 (.tmp 11) (.tmp 12) 3) none]
def r133_3 : List PS := [.mk (some 14) (.move (.tmp 0)) none,
  .mk (some 15) (.move (.tmp 7)) none,
  .mk (some 16) (.move (.tmp 8)) none,
  .mk (some 17) (.move (.tmp 2)) none,
  .mk (some 18) (.call ⟨(.value (.func 149)), #[(.tmp 14), (.tmp 15), (.tmp 16), (.tmp 17)], #[22, 3, 3, 155]⟩) none]
def r133_4 : List PS := [.mk (some 19) (.move (.tmp 8)) none,
  .mk (some 7) (.assign (.tmp 19)) none]
def r133_5 : List PS := [.mk (some 20) (.move (.tmp 8)) none,
  .mk (some 21) (.move (.tmp 6)) none,
  .mk (some 22) (.binOp .add 3 (.tmp 20) (.tmp 21) 3) none,
  .mk (some 8) (.assign (.tmp 22)) none]
def r133_6 : List PS := [.mk (some 23) (.move (.tmp 0)) none,
  .mk (some 24) (.move (.tmp 7)) none,
  .mk (some 25) (.move (.tmp 1)) none,
  .mk (some 26) (.move (.tmp 2)) none,
  .mk (some 27) (.call ⟨(.value (.func 149)), #[(.tmp 23), (.tmp 24), (.tmp 25), (.tmp 26)], #[22, 3, 3, 155]⟩) none]
def r133_7 : List PS := [.mk (some 28) (.move (.tmp 6)) none,
  .mk (some 29) (.move (.tmp 1)) none,
  .mk (some 30) (.binOp .lss 3 (.tmp 28) (.tmp 29) 3) none]
def r133_8 : List PS := [.mk (some 31) (.move (.tmp 6)) none,
  .mk (some 32) (.binOp .mul 3 (.const (.int .i64 2)) (.tmp 31) 3) none,
  .mk (some 7) (.assign (.const (.int .i64 0))) none,
  .mk (some 8) (.assign (.tmp 32)) none]
def r133_9 : List PS := [.mk (some 33) (.move (.tmp 8)) none,
  .mk (some 34) (.move (.tmp 1)) none,
  .mk (some 35) (.binOp .leq 3 (.tmp 33) (.tmp 34) 3) none]
def r133_10 : List PS := [.mk (some 36) (.move (.tmp 0)) none,
  .mk (some 37) (.move (.tmp 7)) none,
  .mk (some 38) (.move (.tmp 7)) none,
  .mk (some 39) (.move (.tmp 6)) none,
  .mk (some 40) (.binOp .add 3 (.tmp 38) (.tmp 39) 3) none,
  .mk (some 41) (.move (.tmp 8)) none,
  .mk (some 42) (.move (.tmp 2)) none,
  .mk (some 43) (.call ⟨(.value (.func 150)), #[(.tmp 36), (.tmp 37), (.tmp 40), (.tmp 41), (.tmp 42)], #[22, 3, 3, 3, 155]⟩) none]
def r133_11 : List PS := [.mk (some 44) (.move (.tmp 8)) none,
  .mk (some 7) (.assign (.tmp 44)) none]
def r133_12 : List PS := [.mk (some 45) (.move (.tmp 8)) none,
  .mk (some 46) (.move (.tmp 6)) none,
  .mk (some 47) (.binOp .mul 3 (.const (.int .i64 2)) (.tmp 46) 3) none,
  .mk (some 48) (.binOp .add 3 (.tmp 45) (.tmp 47) 3) none,
  .mk (some 8) (.assign (.tmp 48)) none]
def r133_13 : List PS := [.mk (some 49) (.move (.tmp 7)) none,
  .mk (some 50) (.move (.tmp 6)) none,
  .mk (some 51) (.binOp .add 3 (.tmp 49) (.tmp 50) 3) none,
  .mk (some 9) (.assign (.tmp 51)) none]
def r133_14 : List PS := [.mk (some 52) (.move (.tmp 9)) none,
  .mk (some 53) (.move (.tmp 1)) none,
  .mk (some 54) (.binOp .lss 3 (.tmp 52) (.tmp 53) 3) none]
def r133_15 : List PS := [.mk (some 55) (.move (.tmp 0)) none,
  .mk (some 56) (.move (.tmp 7)) none,
  .mk (some 57) (.move (.tmp 9)) none,
  .mk (some 58) (.move (.tmp 1)) none,
  .mk (some 59) (.move (.tmp 2)) none,
  .mk (some 60) (.call ⟨(.value (.func 150)), #[(.tmp 55), (.tmp 56), (.tmp 57), (.tmp 58), (.tmp 59)], #[22, 3, 3, 3, 155]⟩) none]
def r133_16 : List PS := [.mk (some 61) (.move (.tmp 6)) none,
  .mk (some 62) (.binOp .mul 3 (.tmp 61) (.const (.int .i64 2)) 3) none,
  .mk (some 6) (.assign (.tmp 62)) none]
def c133 : PC := (.seq (.reg false r133_0) (.seq (.reg false r133_1) (.seq (.block 0 (.loop (.seq (.seq (.reg false r133_2) (.cond (.tmp 13) .skip (.exit 0))) (.block 1 (.seq (.reg false r133_3) (.seq (.reg false r133_4) (.reg false r133_5))))))) (.seq (.reg false r133_6) (.block 2 (.loop (.seq (.seq (.reg false r133_7) (.cond (.tmp 30) .skip (.exit 2))) (.block 3 (.seq (.reg false r133_8) (.seq (.block 4 (.loop (.seq (.seq (.reg false r133_9) (.cond (.tmp 35) .skip (.exit 4))) (.block 5 (.seq (.reg false r133_10) (.seq (.reg false r133_11) (.reg false r133_12))))))) (.seq (.seq (.reg false r133_13) (.seq (.reg false r133_14) (.cond (.tmp 54) (.reg false r133_15) .skip))) (.reg false r133_16))))))))))))
theorem e133 (hl : args.length = 3) (s : pwp Tryz.prog [] c133 (fin Tryz.prog [] h K) (slots0 (olds args)) h) : CanP Tryz.prog 133 args h K :=
  can_of2 (n := 63) mixed Tryz.func133 rfl (by kernel_rfl) (by rw [hl]; kernel_rfl) rfl (by kernel_rfl) s
/-! ### slices.SortStableFunc[[]int,int]: function 113 -/
def r113_0 : List PS := [.mk (some 4) (.move (.tmp 0)) none,
  .mk (some 5) (.move (.tmp 0)) none,
  .mk (some 6) (.call ⟨(.builtin .len), #[(.tmp 5)], #[22]⟩) none,
  .mk (some 7) (.move (.tmp 1)) none,
  .mk (some 8) (.call ⟨(.value (.func 133)), #[(.tmp 4), (.tmp 6), (.tmp 7)], #[22, 3, 155]⟩) none]
def c113 : PC := (.reg false r113_0)
theorem e113 (hl : args.length = 2) (s : pwp Tryz.prog [] c113 (fin Tryz.prog [] h K) (slots0 (olds args)) h) : CanP Tryz.prog 113 args h K :=
  can_of2 (n := 9) mixed Tryz.func113 rfl (by kernel_rfl) (by rw [hl]; kernel_rfl) rfl (by kernel_rfl) s
/-! ### (*naskh.ccc.Classes).Places$1$1: function 114 -/
def r114_0 : List PS := [.mk (some 6) (.assign (.const (.int .i64 0))) none]
def r114_1 : List PS := [.mk (some 7) (.load 28 (.tmp 2)) none,
  .mk (some 8) (.load 22 (.tmp 3)) none,
  .mk (some 9) (.move (.tmp 0)) none,
  .mk (some 10) (.indexAddr 22 (.tmp 8) (.tmp 9)) none,
  .mk (some 11) (.load 3 (.tmp 10)) none,
  .mk (some 12) (.call ⟨(.value (.func 115)), #[(.tmp 7), (.tmp 11)], #[28, 3]⟩) none,
  .mk (some 13) (.load 28 (.tmp 2)) none,
  .mk (some 14) (.load 22 (.tmp 3)) none,
  .mk (some 15) (.move (.tmp 1)) none,
  .mk (some 16) (.indexAddr 22 (.tmp 14) (.tmp 15)) none,
  .mk (some 17) (.load 3 (.tmp 16)) none,
  .mk (some 18) (.call ⟨(.value (.func 115)), #[(.tmp 13), (.tmp 17)], #[28, 3]⟩) none,
  .mk (some 19) (.binOp .sub 3 (.tmp 12) (.tmp 18) 3) none,
  .mk (some 6) (.assign (.tmp 19)) none]
def c114 : PC := (.seq (.reg false r114_0) (.seq (.reg true r114_1) .ret))
theorem e114 (hl : args.length = 4) (s : pwp Tryz.prog [] c114 (fin Tryz.prog [.tmp 6] h K) (slots0 (olds args)) h) : CanP Tryz.prog 114 args h K :=
  can_of2 (n := 20) mixed Tryz.func114 rfl (by kernel_rfl) (by rw [hl]; kernel_rfl) rfl (by kernel_rfl) s
/-! ### (*naskh.ccc.Classes).Places$1: function 112 -/
def r112_0 : List PS := [.mk (some 7) (.load 22 (.tmp 2)) none,
  .mk (some 8) (.move (.tmp 0)) none,
  .mk (some 9) (.move (.tmp 1)) none,
  .mk (some 10) (.slice 22 (.tmp 7) (some (.tmp 8)) (some (.tmp 9)) none) none,
  .mk (some 11) (.makeFunc (.func 114) #[] #[(.tmp 3), (.tmp 4)]) none,
  .mk (some 12) (.call ⟨(.value (.func 113)), #[(.tmp 10), (.tmp 11)], #[22, 155]⟩) none]
def c112 : PC := (.reg false r112_0)
theorem e112 (hl : args.length = 5) (s : pwp Tryz.prog [] c112 (fin Tryz.prog [] h K) (slots0 (olds args)) h) : CanP Tryz.prog 112 args h K :=
  can_of2 (n := 13) mixed Tryz.func112 rfl (by kernel_rfl) (by rw [hl]; kernel_rfl) rfl (by kernel_rfl) s
/-! ### (*naskh.ccc.Classes).Places: function 69 -/
def r69_0 : List PS := [.mk (some 2) (.box 28 (.tmp 0)) none,
  .mk (some 3) (.box 22 (.tmp 1)) none,
  .mk (some 4) (.assign (.const (.slice none 0 0))) none]
def r69_1 : List PS := [.mk (some 7) (.load 22 (.tmp 3)) none,
  .mk (some 8) (.call ⟨(.builtin .len), #[(.tmp 7)], #[22]⟩) none,
  .mk (some 9) (.makeSlice 22 (.tmp 8) (.tmp 8)) none,
  .mk (some 5) (.alloc 22) none,
  .mk none (.store 22 (.tmp 5) (.tmp 9)) none,
  .frz 5]
def r69_2 : List PS := [.mk (some 10) (.load 22 (.tmp 5)) none,
  .mk (some 11) (.call ⟨(.builtin .len), #[(.tmp 10)], #[22]⟩) none,
  .mk (some 12) (.move (.const (.int .i64 0))) none]
def r69_3 : List PS := [.mk (some 13) (.binOp .lss 3 (.tmp 12) (.tmp 11) 3) none]
def r69_4 : List PS := [.mk (some 14) (.move (.tmp 12)) none,
  .mk (some 6) (.assign (.tmp 14)) none]
def r69_5 : List PS := [.mk (some 15) (.load 22 (.tmp 5)) none,
  .mk (some 16) (.move (.tmp 6)) none,
  .mk (some 17) (.move (.tmp 6)) none,
  .mk (some 18) (.indexAddr 22 (.tmp 15) (.tmp 16)) none,
  .mk none (.store 3 (.tmp 18) (.tmp 17)) none]
def r69_6 : List PS := [.mk (some 19) (.binOp .add 3 (.tmp 12) (.const (.int .i64 1)) 3) none,
  .mk (some 12) (.move (.tmp 19)) none]
def r69_7 : List PS := [.mk (some 20) (.load 28 (.tmp 2)) none,
  .mk (some 21) (.load 22 (.tmp 3)) none,
  .mk (some 22) (.makeFunc (.func 112) #[] #[(.tmp 5), (.tmp 2), (.tmp 3)]) none,
  .mk (some 23) (.call ⟨(.value (.func 111)), #[(.tmp 20), (.tmp 21), (.tmp 22)], #[28, 22, 156]⟩) none]
def r69_8 : List PS := [.mk (some 24) (.load 22 (.tmp 5)) none,
  .mk (some 4) (.assign (.tmp 24)) none]
def c69 : PC := (.seq (.reg false r69_0) (.seq (.reg false r69_1) (.seq (.seq (.reg false r69_2) (.block 0 (.loop (.seq (.reg false r69_3) (.seq (.cond (.tmp 13) .skip (.exit 0)) (.seq (.block 1 (.seq (.reg false r69_4) (.reg false r69_5))) (.reg false r69_6))))))) (.seq (.reg false r69_7) (.seq (.reg false r69_8) .ret)))))
theorem e69 (hl : args.length = 2) (s : pwp Tryz.prog [5] c69 (fin Tryz.prog [.tmp 4] h K) (slots0 (olds args)) h) : CanP Tryz.prog 69 args h K :=
  can_of2 (n := 25) mixed Tryz.func69 rfl (by kernel_rfl) (by rw [hl]; kernel_rfl) rfl (by kernel_rfl) s
/-! ### (*naskh.ccc.Classes).Order: function 32 -/
def r32_0 : List PS := [.mk (some 4) (.assign (.const (.slice none 0 0))) none]
def r32_1 : List PS := [.mk (some 8) (.move (.tmp 1)) none,
  .mk (some 9) (.call ⟨(.builtin .len), #[(.tmp 8)], #[22]⟩) none,
  .mk (some 10) (.makeSlice 22 (.const (.int .i64 0)) (.tmp 9)) none,
  .mk (some 5) (.assign (.tmp 10)) none]
def r32_2 : List PS := [.mk (some 11) (.move (.tmp 0)) none,
  .mk (some 12) (.move (.tmp 1)) none,
  .mk (some 13) (.call ⟨(.value (.func 69)), #[(.tmp 11), (.tmp 12)], #[28, 22]⟩) none,
  .mk (some 14) (.call ⟨(.builtin .len), #[(.tmp 13)], #[22]⟩) none,
  .mk (some 15) (.move (.const (.int .i64 0))) none]
def r32_3 : List PS := [.mk (some 16) (.binOp .lss 3 (.tmp 15) (.tmp 14) 3) none]
def r32_4 : List PS := [.mk (some 17) (.indexAddr 22 (.tmp 13) (.tmp 15)) none,
  .mk (some 18) (.load 3 (.tmp 17)) none,
  .mk (some 7) (.assign (.tmp 18)) none]
def r32_5 : List PS := [.mk (some 19) (.move (.tmp 5)) none,
  .mk (some 20) (.move (.tmp 1)) none,
  .mk (some 21) (.move (.tmp 7)) none,
  .mk (some 22) (.indexAddr 22 (.tmp 20) (.tmp 21)) none,
  .mk (some 23) (.load 3 (.tmp 22)) none,
  .mk (some 24) (.buildSlice 22 1 #[(0, (.tmp 23))]) none,
  .mk (some 25) (.call ⟨(.builtin .append), #[(.tmp 19), (.tmp 24)], #[22, 22]⟩) none,
  .mk (some 5) (.assign (.tmp 25)) none]
def r32_6 : List PS := [.mk (some 26) (.binOp .add 3 (.tmp 15) (.const (.int .i64 1)) 3) none,
  .mk (some 15) (.move (.tmp 26)) none]
def r32_7 : List PS := [.mk (some 27) (.move (.tmp 5)) none,
  .mk (some 4) (.assign (.tmp 27)) none]
def c32 : PC := (.seq (.reg false r32_0) (.seq (.reg false r32_1) (.seq (.seq (.reg false r32_2) (.block 0 (.loop (.seq (.reg false r32_3) (.seq (.cond (.tmp 16) .skip (.exit 0)) (.seq (.block 1 (.seq (.reg false r32_4) (.reg false r32_5))) (.reg false r32_6))))))) (.seq (.reg false r32_7) .ret))))
theorem e32 (hl : args.length = 2) (s : pwp Tryz.prog [] c32 (fin Tryz.prog [.tmp 4] h K) (slots0 (olds args)) h) : CanP Tryz.prog 32 args h K :=
  can_of2 (n := 28) mixed Tryz.func32 rfl (by kernel_rfl) (by rw [hl]; kernel_rfl) rfl (by kernel_rfl) s
/-! ### (*naskh.cells.Cells).Text: function 33 -/
def r33_0 : List PS := [.mk (some 2) (.assign (.const (.slice none 0 0))) none]
def r33_1 : List PS := [.mk (some 3) (.move (.tmp 0)) none,
  .mk (some 4) (.binOp .eql 69 (.tmp 3) (.const (.pointer none)) 69) none]
def r33_2 : List PS := [.mk (some 2) (.assign (.const (.slice none 0 0))) none]
def r33_3 : List PS := [.mk (some 5) (.move (.tmp 0)) none,
  .mk (some 6) (.nilCheck (.tmp 5)) none,
  .mk (some 7) (.fieldAddr 112 (.tmp 6) 0) none,
  .mk (some 8) (.load 110 (.tmp 7)) none,
  .frz 8,
  .mk (some 9) (.call ⟨(.value (.func 70)), #[(.tmp 8)], #[109]⟩) none,
  .mk (some 2) (.assign (.tmp 9)) none]
def c33 : PC := (.seq (.reg false r33_0) (.seq (.seq (.reg false r33_1) (.cond (.tmp 4) (.seq (.reg false r33_2) .ret) .skip)) (.seq (.reg false r33_3) .ret)))
theorem e33 (hl : args.length = 1) (s : pwp Tryz.prog [] c33 (fin Tryz.prog [.tmp 2] h K) (slots0 (olds args)) h) : CanP Tryz.prog 33 args h K :=
  can_of2 (n := 10) mixed Tryz.func33 rfl (by kernel_rfl) (by rw [hl]; kernel_rfl) rfl (by kernel_rfl) s
/-! ### naskh.lint.Mended: function 12 -/
def r12_0 : List PS := [.mk (some 6) (.assign (.const (.slice none 0 0))) none]
def r12_1 : List PS := [.mk (some 14) (.move (.tmp 0)) none,
  .mk (some 15) (.move (.tmp 2)) none,
  .mk (some 16) (.call ⟨(.value (.func 31)), #[(.tmp 14), (.tmp 15)], #[26, 22]⟩) none,
  .mk (some 17) (.call ⟨(.value (.func 30)), #[(.tmp 16)], #[22]⟩) none,
  .mk (some 13) (.move (.tmp 17)) none,
  .mk (some 18) (.extract (.tmp 13) 0) none,
  .mk (some 19) (.extract (.tmp 13) 1) none,
  .mk (some 7) (.assign (.tmp 18)) none,
  .mk (some 8) (.assign (.tmp 19)) none]
def r12_2 : List PS := [.mk (some 20) (.move (.tmp 8)) none,
  .mk (some 21) (.binOp .neq 54 (.tmp 20) (.const (.int .i64 0)) 54) none]
def r12_3 : List PS := [.mk (some 6) (.assign (.const (.slice none 0 0))) none]
def r12_4 : List PS := [.mk (some 22) (.move (.tmp 1)) none,
  .mk (some 23) (.move (.tmp 7)) none,
  .mk (some 24) (.call ⟨(.value (.func 33)), #[(.tmp 23)], #[69]⟩) none,
  .mk (some 25) (.call ⟨(.value (.func 32)), #[(.tmp 22), (.tmp 24)], #[28, 22]⟩) none,
  .mk (some 9) (.assign (.tmp 25)) none]
def r12_5 : List PS := [.mk (some 10) (.assign (.const (.slice none 0 0))) none]
def r12_6 : List PS := [.mk (some 26) (.move (.tmp 9)) none,
  .mk (some 27) (.call ⟨(.builtin .len), #[(.tmp 26)], #[22]⟩) none,
  .mk (some 28) (.move (.const (.int .i64 0))) none]
def r12_7 : List PS := [.mk (some 29) (.binOp .lss 3 (.tmp 28) (.tmp 27) 3) none]
def r12_8 : List PS := [.mk (some 30) (.move (.tmp 28)) none,
  .mk (some 31) (.indexAddr 22 (.tmp 26) (.tmp 28)) none,
  .mk (some 32) (.load 3 (.tmp 31)) none,
  .mk (some 11) (.assign (.tmp 30)) none,
  .mk (some 12) (.assign (.tmp 32)) none]
def r12_9 : List PS := [.mk (some 33) (.move (.tmp 9)) none,
  .mk (some 34) (.move (.tmp 11)) none,
  .mk (some 35) (.call ⟨(.value (.func 34)), #[(.tmp 33), (.tmp 34)], #[22, 3]⟩) none,
  .mk (some 36) (.unOp .not 4 (.tmp 35)) none]
def r12_10 : List PS := [.mk (some 37) (.move (.tmp 10)) none,
  .mk (some 38) (.move (.tmp 12)) none,
  .mk (some 39) (.buildSlice 22 1 #[(0, (.tmp 38))]) none,
  .mk (some 40) (.call ⟨(.builtin .append), #[(.tmp 37), (.tmp 39)], #[22, 22]⟩) none,
  .mk (some 10) (.assign (.tmp 40)) none]
def r12_11 : List PS := [.mk (some 41) (.binOp .add 3 (.tmp 28) (.const (.int .i64 1)) 3) none,
  .mk (some 28) (.move (.tmp 41)) none]
def r12_12 : List PS := [.mk (some 42) (.move (.tmp 10)) none,
  .mk (some 6) (.assign (.tmp 42)) none]
def c12 : PC := (.seq (.reg false r12_0) (.seq (.reg false r12_1) (.seq (.seq (.reg false r12_2) (.cond (.tmp 21) (.seq (.reg false r12_3) .ret) .skip)) (.seq (.reg false r12_4) (.seq (.reg false r12_5) (.seq (.seq (.reg false r12_6) (.block 0 (.loop (.seq (.reg false r12_7) (.seq (.cond (.tmp 29) .skip (.exit 0)) (.seq (.block 1 (.seq (.reg false r12_8) (.seq (.reg false r12_9) (.cond (.tmp 36) (.reg false r12_10) .skip)))) (.reg false r12_11))))))) (.seq (.reg false r12_12) .ret)))))))
theorem e12 (hl : args.length = 3) (s : pwp Tryz.prog [] c12 (fin Tryz.prog [.tmp 6] h K) (slots0 (olds args)) h) : CanP Tryz.prog 12 args h K :=
  can_of2 (n := 43) mixed Tryz.func12 rfl (by kernel_rfl) (by rw [hl]; kernel_rfl) rfl (by kernel_rfl) s
/-! ### naskh.naskhref12.New: function 73 -/
def r73_0 : List PS := [.mk (some 2) (.assign (.const (.pointer none))) none,
  .mk (some 3) (.assign (.const (.int .i64 0))) none]
def r73_1 : List PS := [.mk (some 4) (.move (.tmp 0)) none,
  .mk (some 5) (.binOp .lss 3 (.tmp 4) (.const (.int .i64 0)) 3) none,
  .mk (some 6) (.move (.tmp 5)) none,
  .mk (some 7) (.move (.tmp 0)) (some (6, false)),
  .mk (some 8) (.binOp .gtr 3 (.tmp 7) (.const (.int .i64 16777216)) 3) (some (6, false)),
  .mk (some 9) (.pick (.tmp 6) (.const (.bool true)) (.tmp 8)) none]
def r73_2 : List PS := [.mk (some 2) (.assign (.const (.pointer none))) none,
  .mk (some 3) (.assign (.const (.int .i64 1))) none]
def r73_3 : List PS := [.mk (some 10) (.move (.tmp 0)) none,
  .mk (some 11) (.makeSlice 109 (.tmp 10) (.tmp 10)) none,
  .mk (some 12) (.build 118 #[(0, (.tmp 11))]) none,
  .mk (some 13) (.box 118 (.tmp 12)) none,
  .mk (some 2) (.assign (.tmp 13)) none,
  .mk (some 3) (.assign (.const (.int .i64 0))) none]
def c73 : PC := (.seq (.reg false r73_0) (.seq (.seq (.reg false r73_1) (.cond (.tmp 9) (.seq (.reg false r73_2) .ret) .skip)) (.seq (.reg false r73_3) .ret)))
theorem e73 (hl : args.length = 1) (s : pwp Tryz.prog [] c73 (fin Tryz.prog [.tmp 2, .tmp 3] h K) (slots0 (olds args)) h) : CanP Tryz.prog 73 args h K :=
  can_of2 (n := 14) mixed Tryz.func73 rfl (by kernel_rfl) (by rw [hl]; kernel_rfl) rfl (by kernel_rfl) s
/-! ### (*naskh.naskhref12.Cells).Set: function 74 -/
def r74_0 : List PS := [.mk (some 6) (.assign (.const (.int .i64 0))) none]
def r74_1 : List PS := [.mk (some 7) (.move (.tmp 1)) none,
  .mk (some 8) (.binOp .lss 3 (.tmp 7) (.const (.int .i64 0)) 3) none,
  .mk (some 9) (.move (.tmp 8)) none,
  .mk (some 10) (.move (.tmp 1)) (some (9, false)),
  .mk (some 11) (.move (.tmp 0)) (some (9, false)),
  .mk (some 12) (.nilCheck (.tmp 11)) (some (9, false)),
  .mk (some 13) (.fieldAddr 118 (.tmp 12) 0) (some (9, false)),
  .mk (some 14) (.load 109 (.tmp 13)) (some (9, false)),
  .mk (some 15) (.call ⟨(.builtin .len), #[(.tmp 14)], #[109]⟩) (some (9, false)),
  .mk (some 16) (.binOp .geq 3 (.tmp 10) (.tmp 15) 3) (some (9, false)),
  .mk (some 17) (.pick (.tmp 9) (.const (.bool true)) (.tmp 16)) none]
def r74_2 : List PS := [.mk (some 6) (.assign (.const (.int .i64 1))) none]
def r74_3 : List PS := [.mk (some 18) (.move (.tmp 0)) none,
  .mk (some 19) (.nilCheck (.tmp 18)) none,
  .mk (some 20) (.fieldAddr 118 (.tmp 19) 0) none,
  .mk (some 21) (.load 109 (.tmp 20)) none,
  .mk (some 22) (.move (.tmp 1)) none,
  .mk (some 23) (.move (.tmp 2)) none,
  .mk (some 24) (.call ⟨(.builtin .append), #[(.const (.slice none 0 0)), (.tmp 23)], #[22, 22]⟩) none,
  .mk (some 25) (.indexAddr 109 (.tmp 21) (.tmp 22)) none,
  .mk none (.store 22 (.tmp 25) (.tmp 24)) none]
def r74_4 : List PS := [.frzc 25 0,
  .mk (some 6) (.assign (.const (.int .i64 0))) none]
def c74 : PC := (.seq (.reg false r74_0) (.seq (.seq (.reg false r74_1) (.cond (.tmp 17) (.seq (.reg false r74_2) .ret) .skip)) (.seq (.reg true r74_3) (.seq (.reg false r74_4) .ret))))
theorem e74 (hl : args.length = 3) (s : pwp Tryz.prog [21] c74 (fin Tryz.prog [.tmp 6] h K) (slots0 (olds args)) h) : CanP Tryz.prog 74 args h K :=
  can_of2 (n := 26) mixed Tryz.func74 rfl (by kernel_rfl) (by rw [hl]; kernel_rfl) rfl (by kernel_rfl) s
/-! ### naskh.naskhref09.Base: function 40 -/
def r40_0 : List PS := [.mk (some 2) (.assign (.const (.int .i64 0))) none,
  .mk (some 3) (.assign (.const (.int .i64 0))) none,
  .mk (some 4) (.assign (.const (.bool false))) none]
def r40_1 : List PS := [.mk (some 8) (.call ⟨(.value (.func 80)), #[], #[]⟩) none,
  .mk (some 5) (.assign (.tmp 8)) none]
def r40_2 : List PS := [.mk (some 6) (.assign (.const (.int .i64 0))) none]
def r40_3 : List PS := [.mk (some 9) (.move (.tmp 6)) none,
  .mk (some 10) (.move (.tmp 5)) none,
  .mk (some 11) (.call ⟨(.builtin .len), #[(.tmp 10)], #[119]⟩) none,
  .mk (some 12) (.binOp .lss 3 (.tmp 9) (.tmp 11) 3) none]
def r40_4 : List PS := [.mk (some 7) (.assign (.const (.int .i64 0))) none]
def r40_5 : List PS := [.mk (some 15) (.move (.tmp 7)) none,
  .mk (some 16) (.binOp .lss 3 (.tmp 15) (.const (.int .i64 4)) 3) none]
def r40_6 : List PS := [.mk (some 19) (.move (.tmp 0)) none,
  .mk (some 20) (.binOp .neq 3 (.tmp 19) (.const (.int .i64 0)) 3) none,
  .mk (some 21) (.move (.tmp 20)) none,
  .mk (some 22) (.move (.tmp 5)) (some (21, true)),
  .mk (some 23) (.move (.tmp 6)) (some (21, true)),
  .mk (some 24) (.move (.tmp 7)) (some (21, true)),
  .mk (some 25) (.indexAddr 119 (.tmp 22) (.tmp 23)) (some (21, true)),
  .mk (some 26) (.fieldAddr 123 (.tmp 25) 1) (some (21, true)),
  .mk (some 27) (.indexAddr 121 (.tmp 26) (.tmp 24)) (some (21, true)),
  .mk (some 28) (.load 3 (.tmp 27)) (some (21, true)),
  .mk (some 29) (.move (.tmp 0)) (some (21, true)),
  .mk (some 30) (.binOp .eql 3 (.tmp 28) (.tmp 29) 3) (some (21, true)),
  .mk (some 31) (.pick (.tmp 21) (.tmp 30) (.const (.bool false))) none]
def r40_7 : List PS := [.mk (some 32) (.move (.tmp 5)) none,
  .mk (some 33) (.move (.tmp 6)) none,
  .mk (some 34) (.indexAddr 119 (.tmp 32) (.tmp 33)) none,
  .mk (some 35) (.fieldAddr 123 (.tmp 34) 0) none,
  .mk (some 36) (.load 3 (.tmp 35)) none,
  .mk (some 37) (.move (.tmp 7)) none,
  .mk (some 38) (.binOp .add 3 (.tmp 37) (.const (.int .i64 1)) 3) none,
  .mk (some 2) (.assign (.tmp 36)) none,
  .mk (some 3) (.assign (.tmp 38)) none,
  .mk (some 4) (.assign (.const (.bool true))) none]
def r40_8 : List PS := [.mk (some 17) (.move (.tmp 7)) none,
  .mk (some 18) (.binOp .add 3 (.tmp 17) (.const (.int .i64 1)) 3) none,
  .mk (some 7) (.assign (.tmp 18)) none]
def r40_9 : List PS := [.mk (some 13) (.move (.tmp 6)) none,
  .mk (some 14) (.binOp .add 3 (.tmp 13) (.const (.int .i64 1)) 3) none,
  .mk (some 6) (.assign (.tmp 14)) none]
def r40_10 : List PS := [.mk (some 2) (.assign (.const (.int .i64 0))) none,
  .mk (some 3) (.assign (.const (.int .i64 0))) none,
  .mk (some 4) (.assign (.const (.bool false))) none]
def c40 : PC := (.seq (.reg false r40_0) (.seq (.reg false r40_1) (.seq (.seq (.reg false r40_2) (.block 0 (.loop (.seq (.seq (.reg false r40_3) (.cond (.tmp 12) .skip (.exit 0))) (.seq (.block 1 (.seq (.reg false r40_4) (.block 2 (.loop (.seq (.seq (.reg false r40_5) (.cond (.tmp 16) .skip (.exit 2))) (.seq (.block 3 (.seq (.reg false r40_6) (.cond (.tmp 31) (.seq (.reg false r40_7) .ret) .skip))) (.reg false r40_8))))))) (.reg false r40_9)))))) (.seq (.reg false r40_10) .ret))))
theorem e40 (hl : args.length = 1) (s : pwp Tryz.prog [] c40 (fin Tryz.prog [.tmp 2, .tmp 3, .tmp 4] h K) (slots0 (olds args)) h) : CanP Tryz.prog 40 args h K :=
  can_of2 (n := 39) mixed Tryz.func40 rfl (by kernel_rfl) (by rw [hl]; kernel_rfl) rfl (by kernel_rfl) s
/-! ### naskh.naskhref09.Parted: function 41 -/
def r41_0 : List PS := [.mk (some 2) (.assign (.const (.int .i64 0))) none,
  .mk (some 3) (.assign (.const (.int .i64 0))) none,
  .mk (some 4) (.assign (.const (.bool false))) none]
def r41_1 : List PS := [.mk (some 7) (.call ⟨(.value (.func 81)), #[], #[]⟩) none,
  .mk (some 5) (.assign (.tmp 7)) none]
def r41_2 : List PS := [.mk (some 6) (.assign (.const (.int .i64 0))) none]
def r41_3 : List PS := [.mk (some 8) (.move (.tmp 6)) none,
  .mk (some 9) (.move (.tmp 5)) none,
  .mk (some 10) (.call ⟨(.builtin .len), #[(.tmp 9)], #[124]⟩) none,
  .mk (some 11) (.binOp .lss 3 (.tmp 8) (.tmp 10) 3) none]
def r41_4 : List PS := [.mk (some 14) (.move (.tmp 5)) none,
  .mk (some 15) (.move (.tmp 6)) none,
  .mk (some 16) (.indexAddr 124 (.tmp 14) (.tmp 15)) none,
  .mk (some 17) (.fieldAddr 127 (.tmp 16) 1) none,
  .mk (some 18) (.load 3 (.tmp 17)) none,
  .mk (some 19) (.move (.tmp 0)) none,
  .mk (some 20) (.binOp .eql 3 (.tmp 18) (.tmp 19) 3) none]
def r41_5 : List PS := [.mk (some 21) (.move (.tmp 5)) none,
  .mk (some 22) (.move (.tmp 6)) none,
  .mk (some 23) (.indexAddr 124 (.tmp 21) (.tmp 22)) none,
  .mk (some 24) (.fieldAddr 127 (.tmp 23) 0) none,
  .mk (some 25) (.load 3 (.tmp 24)) none,
  .mk (some 2) (.assign (.tmp 25)) none,
  .mk (some 3) (.assign (.const (.int .i64 1))) none,
  .mk (some 4) (.assign (.const (.bool true))) none]
def r41_6 : List PS := [.mk (some 26) (.move (.tmp 5)) none,
  .mk (some 27) (.move (.tmp 6)) none,
  .mk (some 28) (.indexAddr 124 (.tmp 26) (.tmp 27)) none,
  .mk (some 29) (.fieldAddr 127 (.tmp 28) 2) none,
  .mk (some 30) (.load 3 (.tmp 29)) none,
  .mk (some 31) (.move (.tmp 0)) none,
  .mk (some 32) (.binOp .eql 3 (.tmp 30) (.tmp 31) 3) none]
def r41_7 : List PS := [.mk (some 33) (.move (.tmp 5)) none,
  .mk (some 34) (.move (.tmp 6)) none,
  .mk (some 35) (.indexAddr 124 (.tmp 33) (.tmp 34)) none,
  .mk (some 36) (.fieldAddr 127 (.tmp 35) 0) none,
  .mk (some 37) (.load 3 (.tmp 36)) none,
  .mk (some 2) (.assign (.tmp 37)) none,
  .mk (some 3) (.assign (.const (.int .i64 2))) none,
  .mk (some 4) (.assign (.const (.bool true))) none]
def r41_8 : List PS := [.mk (some 12) (.move (.tmp 6)) none,
  .mk (some 13) (.binOp .add 3 (.tmp 12) (.const (.int .i64 1)) 3) none,
  .mk (some 6) (.assign (.tmp 13)) none]
def r41_9 : List PS := [.mk (some 2) (.assign (.const (.int .i64 0))) none,
  .mk (some 3) (.assign (.const (.int .i64 0))) none,
  .mk (some 4) (.assign (.const (.bool false))) none]
def c41 : PC := (.seq (.reg false r41_0) (.seq (.reg false r41_1) (.seq (.seq (.reg false r41_2) (.block 0 (.loop (.seq (.seq (.reg false r41_3) (.cond (.tmp 11) .skip (.exit 0))) (.seq (.block 1 (.seq (.seq (.reg false r41_4) (.cond (.tmp 20) (.seq (.reg false r41_5) .ret) .skip)) (.seq (.reg false r41_6) (.cond (.tmp 32) (.seq (.reg false r41_7) .ret) .skip)))) (.reg false r41_8)))))) (.seq (.reg false r41_9) .ret))))
theorem e41 (hl : args.length = 1) (s : pwp Tryz.prog [] c41 (fin Tryz.prog [.tmp 2, .tmp 3, .tmp 4] h K) (slots0 (olds args)) h) : CanP Tryz.prog 41 args h K :=
  can_of2 (n := 38) mixed Tryz.func41 rfl (by kernel_rfl) (by rw [hl]; kernel_rfl) rfl (by kernel_rfl) s
/-! ### naskh.naskhref09.Mark: function 42 -/
def r42_0 : List PS := [.mk (some 2) (.assign (.const (.int .i64 0))) none,
  .mk (some 3) (.assign (.const (.bool false))) none,
  .mk (some 4) (.assign (.const (.bool false))) none]
def r42_1 : List PS := [.mk (some 7) (.call ⟨(.value (.func 82)), #[], #[]⟩) none,
  .mk (some 5) (.assign (.tmp 7)) none]
def r42_2 : List PS := [.mk (some 6) (.assign (.const (.int .i64 0))) none]
def r42_3 : List PS := [.mk (some 8) (.move (.tmp 6)) none,
  .mk (some 9) (.move (.tmp 5)) none,
  .mk (some 10) (.call ⟨(.builtin .len), #[(.tmp 9)], #[128]⟩) none,
  .mk (some 11) (.binOp .lss 3 (.tmp 8) (.tmp 10) 3) none]
def r42_4 : List PS := [.mk (some 14) (.move (.tmp 5)) none,
  .mk (some 15) (.move (.tmp 6)) none,
  .mk (some 16) (.indexAddr 128 (.tmp 14) (.tmp 15)) none,
  .mk (some 17) (.fieldAddr 131 (.tmp 16) 1) none,
  .mk (some 18) (.load 3 (.tmp 17)) none,
  .mk (some 19) (.move (.tmp 0)) none,
  .mk (some 20) (.binOp .eql 3 (.tmp 18) (.tmp 19) 3) none]
def r42_5 : List PS := [.mk (some 21) (.move (.tmp 5)) none,
  .mk (some 22) (.move (.tmp 6)) none,
  .mk (some 23) (.indexAddr 128 (.tmp 21) (.tmp 22)) none,
  .mk (some 24) (.fieldAddr 131 (.tmp 23) 0) none,
  .mk (some 25) (.load 3 (.tmp 24)) none,
  .mk (some 2) (.assign (.tmp 25)) none,
  .mk (some 3) (.assign (.const (.bool false))) none,
  .mk (some 4) (.assign (.const (.bool true))) none]
def r42_6 : List PS := [.mk (some 26) (.move (.tmp 0)) none,
  .mk (some 27) (.binOp .neq 3 (.tmp 26) (.const (.int .i64 0)) 3) none,
  .mk (some 28) (.move (.tmp 27)) none,
  .mk (some 29) (.move (.tmp 5)) (some (28, true)),
  .mk (some 30) (.move (.tmp 6)) (some (28, true)),
  .mk (some 31) (.indexAddr 128 (.tmp 29) (.tmp 30)) (some (28, true)),
  .mk (some 32) (.fieldAddr 131 (.tmp 31) 2) (some (28, true)),
  .mk (some 33) (.load 3 (.tmp 32)) (some (28, true)),
  .mk (some 34) (.move (.tmp 0)) (some (28, true)),
  .mk (some 35) (.binOp .eql 3 (.tmp 33) (.tmp 34) 3) (some (28, true)),
  .mk (some 36) (.pick (.tmp 28) (.tmp 35) (.const (.bool false))) none]
def r42_7 : List PS := [.mk (some 37) (.move (.tmp 5)) none,
  .mk (some 38) (.move (.tmp 6)) none,
  .mk (some 39) (.indexAddr 128 (.tmp 37) (.tmp 38)) none,
  .mk (some 40) (.fieldAddr 131 (.tmp 39) 0) none,
  .mk (some 41) (.load 3 (.tmp 40)) none,
  .mk (some 2) (.assign (.tmp 41)) none,
  .mk (some 3) (.assign (.const (.bool true))) none,
  .mk (some 4) (.assign (.const (.bool true))) none]
def r42_8 : List PS := [.mk (some 12) (.move (.tmp 6)) none,
  .mk (some 13) (.binOp .add 3 (.tmp 12) (.const (.int .i64 1)) 3) none,
  .mk (some 6) (.assign (.tmp 13)) none]
def r42_9 : List PS := [.mk (some 2) (.assign (.const (.int .i64 0))) none,
  .mk (some 3) (.assign (.const (.bool false))) none,
  .mk (some 4) (.assign (.const (.bool false))) none]
def c42 : PC := (.seq (.reg false r42_0) (.seq (.reg false r42_1) (.seq (.seq (.reg false r42_2) (.block 0 (.loop (.seq (.seq (.reg false r42_3) (.cond (.tmp 11) .skip (.exit 0))) (.seq (.block 1 (.seq (.seq (.reg false r42_4) (.cond (.tmp 20) (.seq (.reg false r42_5) .ret) .skip)) (.seq (.reg false r42_6) (.cond (.tmp 36) (.seq (.reg false r42_7) .ret) .skip)))) (.reg false r42_8)))))) (.seq (.reg false r42_9) .ret))))
theorem e42 (hl : args.length = 1) (s : pwp Tryz.prog [] c42 (fin Tryz.prog [.tmp 2, .tmp 3, .tmp 4] h K) (slots0 (olds args)) h) : CanP Tryz.prog 42 args h K :=
  can_of2 (n := 42) mixed Tryz.func42 rfl (by kernel_rfl) (by rw [hl]; kernel_rfl) rfl (by kernel_rfl) s
/-! ### naskh.naskhref09.Unpile: function 43 -/
def r43_0 : List PS := [.mk (some 2) (.assign (.const (.int .i64 0))) none,
  .mk (some 3) (.assign (.const (.bool false))) none]
def r43_1 : List PS := [.mk (some 6) (.call ⟨(.value (.func 83)), #[], #[]⟩) none,
  .mk (some 4) (.assign (.tmp 6)) none]
def r43_2 : List PS := [.mk (some 5) (.assign (.const (.int .i64 0))) none]
def r43_3 : List PS := [.mk (some 7) (.move (.tmp 5)) none,
  .mk (some 8) (.move (.tmp 4)) none,
  .mk (some 9) (.call ⟨(.builtin .len), #[(.tmp 8)], #[132]⟩) none,
  .mk (some 10) (.binOp .lss 3 (.tmp 7) (.tmp 9) 3) none]
def r43_4 : List PS := [.mk (some 13) (.move (.tmp 4)) none,
  .mk (some 14) (.move (.tmp 5)) none,
  .mk (some 15) (.indexAddr 132 (.tmp 13) (.tmp 14)) none,
  .mk (some 16) (.fieldAddr 135 (.tmp 15) 1) none,
  .mk (some 17) (.load 3 (.tmp 16)) none,
  .mk (some 18) (.move (.tmp 0)) none,
  .mk (some 19) (.binOp .eql 3 (.tmp 17) (.tmp 18) 3) none]
def r43_5 : List PS := [.mk (some 20) (.move (.tmp 4)) none,
  .mk (some 21) (.move (.tmp 5)) none,
  .mk (some 22) (.indexAddr 132 (.tmp 20) (.tmp 21)) none,
  .mk (some 23) (.fieldAddr 135 (.tmp 22) 0) none,
  .mk (some 24) (.load 3 (.tmp 23)) none,
  .mk (some 2) (.assign (.tmp 24)) none,
  .mk (some 3) (.assign (.const (.bool true))) none]
def r43_6 : List PS := [.mk (some 11) (.move (.tmp 5)) none,
  .mk (some 12) (.binOp .add 3 (.tmp 11) (.const (.int .i64 1)) 3) none,
  .mk (some 5) (.assign (.tmp 12)) none]
def r43_7 : List PS := [.mk (some 2) (.assign (.const (.int .i64 0))) none,
  .mk (some 3) (.assign (.const (.bool false))) none]
def c43 : PC := (.seq (.reg false r43_0) (.seq (.reg false r43_1) (.seq (.seq (.reg false r43_2) (.block 0 (.loop (.seq (.seq (.reg false r43_3) (.cond (.tmp 10) .skip (.exit 0))) (.seq (.block 1 (.seq (.reg false r43_4) (.cond (.tmp 19) (.seq (.reg false r43_5) .ret) .skip))) (.reg false r43_6)))))) (.seq (.reg false r43_7) .ret))))
theorem e43 (hl : args.length = 1) (s : pwp Tryz.prog [] c43 (fin Tryz.prog [.tmp 2, .tmp 3] h K) (slots0 (olds args)) h) : CanP Tryz.prog 43 args h K :=
  can_of2 (n := 25) mixed Tryz.func43 rfl (by kernel_rfl) (by rw [hl]; kernel_rfl) rfl (by kernel_rfl) s
/-! ### naskh.naskhref18.parts: function 75 -/
def r75_0 : List PS := [.mk (some 2) (.assign (.const (.slice none 0 0))) none]
def r75_1 : List PS := [.mk (some 15) (.move (.tmp 0)) none,
  .mk (some 16) (.call ⟨(.value (.func 40)), #[(.tmp 15)], #[3]⟩) none,
  .mk (some 14) (.move (.tmp 16)) none,
  .mk (some 17) (.extract (.tmp 14) 0) none,
  .mk (some 18) (.extract (.tmp 14) 1) none,
  .mk (some 19) (.extract (.tmp 14) 2) none,
  .mk (some 3) (.assign (.tmp 17)) none,
  .mk (some 4) (.assign (.tmp 18)) none,
  .mk (some 5) (.assign (.tmp 19)) none]
def r75_2 : List PS := [.mk (some 20) (.move (.tmp 5)) none]
def r75_3 : List PS := [.mk (some 21) (.move (.tmp 3)) none,
  .mk (some 22) (.buildSlice 22 1 #[(0, (.tmp 21))]) none,
  .mk (some 2) (.assign (.tmp 22)) none]
def r75_4 : List PS := [.mk (some 24) (.move (.tmp 0)) none,
  .mk (some 25) (.call ⟨(.value (.func 41)), #[(.tmp 24)], #[3]⟩) none,
  .mk (some 23) (.move (.tmp 25)) none,
  .mk (some 26) (.extract (.tmp 23) 0) none,
  .mk (some 27) (.extract (.tmp 23) 1) none,
  .mk (some 28) (.extract (.tmp 23) 2) none,
  .mk (some 6) (.assign (.tmp 26)) none,
  .mk (some 7) (.assign (.tmp 27)) none,
  .mk (some 8) (.assign (.tmp 28)) none]
def r75_5 : List PS := [.mk (some 29) (.move (.tmp 8)) none]
def r75_6 : List PS := [.mk (some 30) (.move (.tmp 6)) none,
  .mk (some 31) (.buildSlice 22 2 #[(0, (.const (.int .i64 1604))), (1, (.tmp 30))]) none,
  .mk (some 2) (.assign (.tmp 31)) none]
def r75_7 : List PS := [.mk (some 33) (.move (.tmp 0)) none,
  .mk (some 34) (.call ⟨(.value (.func 42)), #[(.tmp 33)], #[3]⟩) none,
  .mk (some 32) (.move (.tmp 34)) none,
  .mk (some 35) (.extract (.tmp 32) 0) none,
  .mk (some 36) (.extract (.tmp 32) 1) none,
  .mk (some 37) (.extract (.tmp 32) 2) none,
  .mk (some 9) (.assign (.tmp 35)) none,
  .mk (some 10) (.assign (.tmp 36)) none,
  .mk (some 11) (.assign (.tmp 37)) none]
def r75_8 : List PS := [.mk (some 38) (.move (.tmp 11)) none]
def r75_9 : List PS := [.mk (some 39) (.move (.tmp 9)) none,
  .mk (some 40) (.buildSlice 22 1 #[(0, (.tmp 39))]) none,
  .mk (some 2) (.assign (.tmp 40)) none]
def r75_10 : List PS := [.mk (some 42) (.move (.tmp 0)) none,
  .mk (some 43) (.call ⟨(.value (.func 43)), #[(.tmp 42)], #[3]⟩) none,
  .mk (some 41) (.move (.tmp 43)) none,
  .mk (some 44) (.extract (.tmp 41) 0) none,
  .mk (some 45) (.extract (.tmp 41) 1) none,
  .mk (some 12) (.assign (.tmp 44)) none,
  .mk (some 13) (.assign (.tmp 45)) none]
def r75_11 : List PS := [.mk (some 46) (.move (.tmp 13)) none]
def r75_12 : List PS := [.mk (some 47) (.move (.tmp 12)) none,
  .mk (some 48) (.buildSlice 22 2 #[(0, (.const (.int .i64 1617))), (1, (.tmp 47))]) none,
  .mk (some 2) (.assign (.tmp 48)) none]
def r75_13 : List PS := [.mk (some 49) (.move (.tmp 0)) none,
  .mk (some 50) (.buildSlice 22 1 #[(0, (.tmp 49))]) none,
  .mk (some 2) (.assign (.tmp 50)) none]
def c75 : PC := (.seq (.reg false r75_0) (.seq (.seq (.reg false r75_1) (.seq (.reg false r75_2) (.cond (.tmp 20) (.seq (.reg false r75_3) .ret) .skip))) (.seq (.seq (.reg false r75_4) (.seq (.reg false r75_5) (.cond (.tmp 29) (.seq (.reg false r75_6) .ret) .skip))) (.seq (.seq (.reg false r75_7) (.seq (.reg false r75_8) (.cond (.tmp 38) (.seq (.reg false r75_9) .ret) .skip))) (.seq (.seq (.reg false r75_10) (.seq (.reg false r75_11) (.cond (.tmp 46) (.seq (.reg false r75_12) .ret) .skip))) (.seq (.reg false r75_13) .ret))))))
theorem e75 (hl : args.length = 1) (s : pwp Tryz.prog [] c75 (fin Tryz.prog [.tmp 2] h K) (slots0 (olds args)) h) : CanP Tryz.prog 75 args h K :=
  can_of2 (n := 51) mixed Tryz.func75 rfl (by kernel_rfl) (by rw [hl]; kernel_rfl) rfl (by kernel_rfl) s
/-! ### naskh.naskhref18.Back: function 35 -/
def r35_0 : List PS := [.mk (some 2) (.assign (.const (.pointer none))) none,
  .mk (some 3) (.assign (.const (.int .i64 0))) none]
def r35_1 : List PS := [.mk (some 7) (.move (.tmp 0)) none,
  .mk (some 8) (.call ⟨(.builtin .len), #[(.tmp 7)], #[22]⟩) none,
  .mk (some 9) (.binOp .gtr 3 (.tmp 8) (.const (.int .i64 16777216)) 3) none]
def r35_2 : List PS := [.mk (some 2) (.assign (.const (.pointer none))) none,
  .mk (some 3) (.assign (.const (.int .i64 6))) none]
def r35_3 : List PS := [.mk (some 11) (.move (.tmp 0)) none,
  .mk (some 12) (.call ⟨(.builtin .len), #[(.tmp 11)], #[22]⟩) none,
  .mk (some 13) (.call ⟨(.value (.func 73)), #[(.tmp 12)], #[3]⟩) none,
  .mk (some 10) (.move (.tmp 13)) none,
  .mk (some 14) (.extract (.tmp 10) 0) none,
  .mk (some 15) (.extract (.tmp 10) 1) none,
  .mk (some 4) (.assign (.tmp 14)) none,
  .mk (some 5) (.assign (.tmp 15)) none]
def r35_4 : List PS := [.mk (some 6) (.assign (.const (.int .i64 0))) none]
def r35_5 : List PS := [.mk (some 16) (.move (.tmp 6)) none,
  .mk (some 17) (.move (.tmp 0)) none,
  .mk (some 18) (.call ⟨(.builtin .len), #[(.tmp 17)], #[22]⟩) none,
  .mk (some 19) (.binOp .lss 3 (.tmp 16) (.tmp 18) 3) none]
def r35_6 : List PS := [.mk (some 22) (.move (.tmp 4)) none,
  .mk (some 23) (.move (.tmp 6)) none,
  .mk (some 24) (.move (.tmp 0)) none,
  .mk (some 25) (.move (.tmp 6)) none,
  .mk (some 26) (.indexAddr 22 (.tmp 24) (.tmp 25)) none,
  .mk (some 27) (.load 3 (.tmp 26)) none,
  .mk (some 28) (.call ⟨(.value (.func 75)), #[(.tmp 27)], #[3]⟩) none,
  .mk (some 29) (.call ⟨(.value (.func 74)), #[(.tmp 22), (.tmp 23), (.tmp 28)], #[75, 3, 22]⟩) none]
def r35_7 : List PS := [.mk (some 20) (.move (.tmp 6)) none,
  .mk (some 21) (.binOp .add 3 (.tmp 20) (.const (.int .i64 1)) 3) none,
  .mk (some 6) (.assign (.tmp 21)) none]
def r35_8 : List PS := [.mk (some 30) (.move (.tmp 4)) none,
  .mk (some 2) (.assign (.tmp 30)) none,
  .mk (some 3) (.assign (.const (.int .i64 0))) none]
def c35 : PC := (.seq (.reg false r35_0) (.seq (.seq (.reg false r35_1) (.cond (.tmp 9) (.seq (.reg false r35_2) .ret) .skip)) (.seq (.reg false r35_3) (.seq (.seq (.reg false r35_4) (.block 0 (.loop (.seq (.seq (.reg false r35_5) (.cond (.tmp 19) .skip (.exit 0))) (.seq (.block 1 (.reg false r35_6)) (.reg false r35_7)))))) (.seq (.reg false r35_8) .ret)))))
theorem e35 (hl : args.length = 1) (s : pwp Tryz.prog [] c35 (fin Tryz.prog [.tmp 2, .tmp 3] h K) (slots0 (olds args)) h) : CanP Tryz.prog 35 args h K :=
  can_of2 (n := 31) mixed Tryz.func35 rfl (by kernel_rfl) (by rw [hl]; kernel_rfl) rfl (by kernel_rfl) s
/-! ### naskh.naskhref06.Get: function 97 -/
def r97_0 : List PS := [.mk (some 6) (.assign (.const (.int .i64 0))) none]
def r97_1 : List PS := [.mk (some 7) (.assign (.const (.int .i64 0))) none]
def r97_2 : List PS := [.mk (some 8) (.move (.tmp 7)) none,
  .mk (some 9) (.move (.tmp 0)) none,
  .mk (some 10) (.call ⟨(.builtin .len), #[(.tmp 9)], #[57]⟩) none,
  .mk (some 11) (.binOp .lss 3 (.tmp 8) (.tmp 10) 3) none]
def r97_3 : List PS := [.mk (some 14) (.move (.tmp 2)) none,
  .mk (some 15) (.move (.tmp 0)) none,
  .mk (some 16) (.move (.tmp 7)) none,
  .mk (some 17) (.indexAddr 57 (.tmp 15) (.tmp 16)) none,
  .mk (some 18) (.fieldAddr 99 (.tmp 17) 0) none,
  .mk (some 19) (.load 3 (.tmp 18)) none,
  .mk (some 20) (.binOp .geq 3 (.tmp 14) (.tmp 19) 3) none,
  .mk (some 21) (.move (.tmp 20)) none,
  .mk (some 22) (.move (.tmp 2)) (some (21, true)),
  .mk (some 23) (.move (.tmp 0)) (some (21, true)),
  .mk (some 24) (.move (.tmp 7)) (some (21, true)),
  .mk (some 25) (.indexAddr 57 (.tmp 23) (.tmp 24)) (some (21, true)),
  .mk (some 26) (.fieldAddr 99 (.tmp 25) 1) (some (21, true)),
  .mk (some 27) (.load 3 (.tmp 26)) (some (21, true)),
  .mk (some 28) (.binOp .leq 3 (.tmp 22) (.tmp 27) 3) (some (21, true)),
  .mk (some 29) (.pick (.tmp 21) (.tmp 28) (.const (.bool false))) none]
def r97_4 : List PS := [.mk (some 30) (.move (.tmp 0)) none,
  .mk (some 31) (.move (.tmp 7)) none,
  .mk (some 32) (.indexAddr 57 (.tmp 30) (.tmp 31)) none,
  .mk (some 33) (.fieldAddr 99 (.tmp 32) 2) none,
  .mk (some 34) (.load 3 (.tmp 33)) none,
  .mk (some 6) (.assign (.tmp 34)) none]
def r97_5 : List PS := [.mk (some 12) (.move (.tmp 7)) none,
  .mk (some 13) (.binOp .add 3 (.tmp 12) (.const (.int .i64 1)) 3) none,
  .mk (some 7) (.assign (.tmp 13)) none]
def r97_6 : List PS := [.mk (some 35) (.move (.tmp 1)) none,
  .mk (some 6) (.assign (.tmp 35)) none]
def c97 : PC := (.seq (.reg false r97_0) (.seq (.seq (.reg false r97_1) (.block 0 (.loop (.seq (.seq (.reg false r97_2) (.cond (.tmp 11) .skip (.exit 0))) (.seq (.block 1 (.seq (.reg false r97_3) (.cond (.tmp 29) (.seq (.reg false r97_4) .ret) .skip))) (.reg false r97_5)))))) (.seq (.reg false r97_6) .ret)))
theorem e97 (hl : args.length = 3) (s : pwp Tryz.prog [] c97 (fin Tryz.prog [.tmp 6] h K) (slots0 (olds args)) h) : CanP Tryz.prog 97 args h K :=
  can_of2 (n := 36) mixed Tryz.func97 rfl (by kernel_rfl) (by rw [hl]; kernel_rfl) rfl (by kernel_rfl) s
/-! ### naskh.naskhref07.Class: function 58 -/
def r58_0 : List PS := [.mk (some 2) (.assign (.const (.int .i64 0))) none]
def r58_1 : List PS := [.mk (some 3) (.move (.tmp 0)) none,
  .mk (some 4) (.binOp .lss 3 (.tmp 3) (.const (.int .i64 0)) 3) none,
  .mk (some 5) (.move (.tmp 4)) none,
  .mk (some 6) (.move (.tmp 0)) (some (5, false)),
  .mk (some 7) (.binOp .gtr 3 (.tmp 6) (.const (.int .i64 1114111)) 3) (some (5, false)),
  .mk (some 8) (.pick (.tmp 5) (.const (.bool true)) (.tmp 7)) none]
def r58_2 : List PS := [.mk (some 2) (.assign (.const (.int .i64 13))) none]
def r58_3 : List PS := [.mk (some 9) (.call ⟨(.value (.func 22)), #[], #[]⟩) none,
  .mk (some 10) (.move (.tmp 0)) none,
  .mk (some 11) (.call ⟨(.value (.func 97)), #[(.tmp 9), (.const (.int .i64 0)), (.tmp 10)], #[57, 3, 3]⟩) none,
  .mk (some 2) (.assign (.tmp 11)) none]
def c58 : PC := (.seq (.reg false r58_0) (.seq (.seq (.reg false r58_1) (.cond (.tmp 8) (.seq (.reg false r58_2) .ret) .skip)) (.seq (.reg false r58_3) .ret)))
theorem e58 (hl : args.length = 1) (s : pwp Tryz.prog [] c58 (fin Tryz.prog [.tmp 2] h K) (slots0 (olds args)) h) : CanP Tryz.prog 58 args h K :=
  can_of2 (n := 12) mixed Tryz.func58 rfl (by kernel_rfl) (by rw [hl]; kernel_rfl) rfl (by kernel_rfl) s
/-! ### naskh.naskhref20.Split: function 25 -/
def r25_0 : List PS := [.mk (some 2) (.assign (.const (.slice none 0 0))) none]
def r25_1 : List PS := [.mk (some 3) (.assign (.const (.slice none 0 0))) none]
def r25_2 : List PS := [.mk (some 4) (.assign (.const (.int .i64 0))) none]
def r25_3 : List PS := [.mk (some 5) (.assign (.const (.int .i64 0))) none]
def r25_4 : List PS := [.mk (some 7) (.move (.tmp 5)) none,
  .mk (some 8) (.move (.tmp 0)) none,
  .mk (some 9) (.call ⟨(.builtin .len), #[(.tmp 8)], #[22]⟩) none,
  .mk (some 10) (.binOp .lss 3 (.tmp 7) (.tmp 9) 3) none]
def r25_5 : List PS := [.mk (some 13) (.move (.tmp 0)) none,
  .mk (some 14) (.move (.tmp 5)) none,
  .mk (some 15) (.indexAddr 22 (.tmp 13) (.tmp 14)) none,
  .mk (some 16) (.load 3 (.tmp 15)) none,
  .mk (some 17) (.binOp .eql 3 (.tmp 16) (.const (.int .i64 13)) 3) none,
  .mk (some 18) (.move (.tmp 17)) none,
  .mk (some 19) (.move (.tmp 5)) (some (18, true)),
  .mk (some 20) (.binOp .add 3 (.tmp 19) (.const (.int .i64 1)) 3) (some (18, true)),
  .mk (some 21) (.move (.tmp 0)) (some (18, true)),
  .mk (some 22) (.call ⟨(.builtin .len), #[(.tmp 21)], #[22]⟩) (some (18, true)),
  .mk (some 23) (.binOp .lss 3 (.tmp 20) (.tmp 22) 3) (some (18, true)),
  .mk (some 24) (.pick (.tmp 18) (.tmp 23) (.const (.bool false))) none,
  .mk (some 25) (.move (.tmp 24)) none,
  .mk (some 26) (.move (.tmp 0)) (some (25, true)),
  .mk (some 27) (.move (.tmp 5)) (some (25, true)),
  .mk (some 28) (.binOp .add 3 (.tmp 27) (.const (.int .i64 1)) 3) (some (25, true)),
  .mk (some 29) (.indexAddr 22 (.tmp 26) (.tmp 28)) (some (25, true)),
  .mk (some 30) (.load 3 (.tmp 29)) (some (25, true)),
  .mk (some 31) (.binOp .eql 3 (.tmp 30) (.const (.int .i64 10)) 3) (some (25, true)),
  .mk (some 32) (.pick (.tmp 25) (.tmp 31) (.const (.bool false))) none,
  .mk (some 6) (.assign (.tmp 32)) none]
def r25_6 : List PS := [.mk (some 33) (.move (.tmp 0)) none,
  .mk (some 34) (.move (.tmp 5)) none,
  .mk (some 35) (.indexAddr 22 (.tmp 33) (.tmp 34)) none,
  .mk (some 36) (.load 3 (.tmp 35)) none,
  .mk (some 37) (.call ⟨(.value (.func 58)), #[(.tmp 36)], #[3]⟩) none,
  .mk (some 38) (.binOp .eql 3 (.tmp 37) (.const (.int .i64 10)) 3) none,
  .mk (some 39) (.move (.tmp 38)) none,
  .mk (some 40) (.move (.tmp 6)) (some (39, true)),
  .mk (some 41) (.unOp .not 4 (.tmp 40)) (some (39, true)),
  .mk (some 42) (.pick (.tmp 39) (.tmp 41) (.const (.bool false))) none,
  .mk (some 43) (.move (.tmp 42)) none,
  .mk (some 44) (.move (.tmp 5)) (some (43, false)),
  .mk (some 45) (.binOp .add 3 (.tmp 44) (.const (.int .i64 1)) 3) (some (43, false)),
  .mk (some 46) (.move (.tmp 0)) (some (43, false)),
  .mk (some 47) (.call ⟨(.builtin .len), #[(.tmp 46)], #[22]⟩) (some (43, false)),
  .mk (some 48) (.binOp .eql 3 (.tmp 45) (.tmp 47) 3) (some (43, false)),
  .mk (some 49) (.pick (.tmp 43) (.const (.bool true)) (.tmp 48)) none]
def r25_7 : List PS := [.mk (some 50) (.move (.tmp 3)) none,
  .mk (some 51) (.move (.tmp 4)) none,
  .mk (some 52) (.move (.tmp 5)) none,
  .mk (some 53) (.binOp .add 3 (.tmp 52) (.const (.int .i64 1)) 3) none,
  .mk (some 54) (.build 49 #[(0, (.tmp 51)), (1, (.tmp 53))]) none,
  .mk (some 55) (.buildSlice 46 1 #[(0, (.tmp 54))]) none,
  .mk (some 56) (.call ⟨(.builtin .append), #[(.tmp 50), (.tmp 55)], #[46, 46]⟩) none,
  .mk (some 3) (.assign (.tmp 56)) none]
def r25_8 : List PS := [.mk (some 57) (.move (.tmp 5)) none,
  .mk (some 58) (.binOp .add 3 (.tmp 57) (.const (.int .i64 1)) 3) none,
  .mk (some 4) (.assign (.tmp 58)) none]
def r25_9 : List PS := [.mk (some 11) (.move (.tmp 5)) none,
  .mk (some 12) (.binOp .add 3 (.tmp 11) (.const (.int .i64 1)) 3) none,
  .mk (some 5) (.assign (.tmp 12)) none]
def r25_10 : List PS := [.mk (some 59) (.move (.tmp 3)) none,
  .mk (some 2) (.assign (.tmp 59)) none]
def c25 : PC := (.seq (.reg false r25_0) (.seq (.reg false r25_1) (.seq (.reg false r25_2) (.seq (.seq (.reg false r25_3) (.block 0 (.loop (.seq (.seq (.reg false r25_4) (.cond (.tmp 10) .skip (.exit 0))) (.seq (.block 1 (.seq (.reg false r25_5) (.seq (.reg false r25_6) (.cond (.tmp 49) (.seq (.reg false r25_7) (.reg false r25_8)) .skip)))) (.reg false r25_9)))))) (.seq (.reg false r25_10) .ret)))))
theorem e25 (hl : args.length = 1) (s : pwp Tryz.prog [] c25 (fin Tryz.prog [.tmp 2] h K) (slots0 (olds args)) h) : CanP Tryz.prog 25 args h K :=
  can_of2 (n := 60) mixed Tryz.func25 rfl (by kernel_rfl) (by rw [hl]; kernel_rfl) rfl (by kernel_rfl) s
/-! ### naskh.naskhref07.Classes: function 26 -/
def r26_0 : List PS := [.mk (some 2) (.assign (.const (.slice none 0 0))) none]
def r26_1 : List PS := [.mk (some 3) (.assign (.const (.slice none 0 0))) none]
def r26_2 : List PS := [.mk (some 4) (.assign (.const (.int .i64 0))) none]
def r26_3 : List PS := [.mk (some 5) (.move (.tmp 4)) none,
  .mk (some 6) (.move (.tmp 0)) none,
  .mk (some 7) (.call ⟨(.builtin .len), #[(.tmp 6)], #[22]⟩) none,
  .mk (some 8) (.binOp .lss 3 (.tmp 5) (.tmp 7) 3) none]
def r26_4 : List PS := [.mk (some 11) (.move (.tmp 3)) none,
  .mk (some 12) (.move (.tmp 0)) none,
  .mk (some 13) (.move (.tmp 4)) none,
  .mk (some 14) (.indexAddr 22 (.tmp 12) (.tmp 13)) none,
  .mk (some 15) (.load 3 (.tmp 14)) none,
  .mk (some 16) (.call ⟨(.value (.func 58)), #[(.tmp 15)], #[3]⟩) none,
  .mk (some 17) (.buildSlice 22 1 #[(0, (.tmp 16))]) none,
  .mk (some 18) (.call ⟨(.builtin .append), #[(.tmp 11), (.tmp 17)], #[22, 22]⟩) none,
  .mk (some 3) (.assign (.tmp 18)) none]
def r26_5 : List PS := [.mk (some 9) (.move (.tmp 4)) none,
  .mk (some 10) (.binOp .add 3 (.tmp 9) (.const (.int .i64 1)) 3) none,
  .mk (some 4) (.assign (.tmp 10)) none]
def r26_6 : List PS := [.mk (some 19) (.move (.tmp 3)) none,
  .mk (some 2) (.assign (.tmp 19)) none]
def c26 : PC := (.seq (.reg false r26_0) (.seq (.reg false r26_1) (.seq (.seq (.reg false r26_2) (.block 0 (.loop (.seq (.seq (.reg false r26_3) (.cond (.tmp 8) .skip (.exit 0))) (.seq (.block 1 (.reg false r26_4)) (.reg false r26_5)))))) (.seq (.reg false r26_6) .ret))))
theorem e26 (hl : args.length = 1) (s : pwp Tryz.prog [] c26 (fin Tryz.prog [.tmp 2] h K) (slots0 (olds args)) h) : CanP Tryz.prog 26 args h K :=
  can_of2 (n := 20) mixed Tryz.func26 rfl (by kernel_rfl) (by rw [hl]; kernel_rfl) rfl (by kernel_rfl) s
/-! ### naskh.naskhref47.Embeds: function 98 -/
def r98_0 : List PS := [.mk (some 2) (.assign (.const (.bool false))) none]
def r98_1 : List PS := [.mk (some 3) (.move (.tmp 0)) none,
  .mk (some 4) (.binOp .eql 3 (.tmp 3) (.const (.int .i64 14)) 3) none,
  .mk (some 5) (.move (.tmp 4)) none,
  .mk (some 6) (.move (.tmp 0)) (some (5, false)),
  .mk (some 7) (.binOp .eql 3 (.tmp 6) (.const (.int .i64 15)) 3) (some (5, false)),
  .mk (some 8) (.pick (.tmp 5) (.const (.bool true)) (.tmp 7)) none,
  .mk (some 9) (.move (.tmp 8)) none,
  .mk (some 10) (.move (.tmp 0)) (some (9, false)),
  .mk (some 11) (.binOp .eql 3 (.tmp 10) (.const (.int .i64 16)) 3) (some (9, false)),
  .mk (some 12) (.pick (.tmp 9) (.const (.bool true)) (.tmp 11)) none,
  .mk (some 13) (.move (.tmp 12)) none,
  .mk (some 14) (.move (.tmp 0)) (some (13, false)),
  .mk (some 15) (.binOp .eql 3 (.tmp 14) (.const (.int .i64 17)) 3) (some (13, false)),
  .mk (some 16) (.pick (.tmp 13) (.const (.bool true)) (.tmp 15)) none,
  .mk (some 2) (.assign (.tmp 16)) none]
def c98 : PC := (.seq (.reg false r98_0) (.seq (.reg false r98_1) .ret))
theorem e98 (hl : args.length = 1) (s : pwp Tryz.prog [] c98 (fin Tryz.prog [.tmp 2] h K) (slots0 (olds args)) h) : CanP Tryz.prog 98 args h K :=
  can_of2 (n := 17) mixed Tryz.func98 rfl (by kernel_rfl) (by rw [hl]; kernel_rfl) rfl (by kernel_rfl) s
/-! ### naskh.naskhref20.Opens: function 99 -/
def r99_0 : List PS := [.mk (some 2) (.assign (.const (.bool false))) none]
def r99_1 : List PS := [.mk (some 3) (.move (.tmp 0)) none,
  .mk (some 4) (.binOp .eql 3 (.tmp 3) (.const (.int .i64 19)) 3) none,
  .mk (some 5) (.move (.tmp 4)) none,
  .mk (some 6) (.move (.tmp 0)) (some (5, false)),
  .mk (some 7) (.binOp .eql 3 (.tmp 6) (.const (.int .i64 20)) 3) (some (5, false)),
  .mk (some 8) (.pick (.tmp 5) (.const (.bool true)) (.tmp 7)) none,
  .mk (some 9) (.move (.tmp 8)) none,
  .mk (some 10) (.move (.tmp 0)) (some (9, false)),
  .mk (some 11) (.binOp .eql 3 (.tmp 10) (.const (.int .i64 21)) 3) (some (9, false)),
  .mk (some 12) (.pick (.tmp 9) (.const (.bool true)) (.tmp 11)) none,
  .mk (some 2) (.assign (.tmp 12)) none]
def c99 : PC := (.seq (.reg false r99_0) (.seq (.reg false r99_1) .ret))
theorem e99 (hl : args.length = 1) (s : pwp Tryz.prog [] c99 (fin Tryz.prog [.tmp 2] h K) (slots0 (olds args)) h) : CanP Tryz.prog 99 args h K :=
  can_of2 (n := 13) mixed Tryz.func99 rfl (by kernel_rfl) (by rw [hl]; kernel_rfl) rfl (by kernel_rfl) s
/-! ### naskh.naskhref47.walk: function 59 -/
def r59_0 : List PS := [.mk (some 2) (.assign (.const (.slice none 0 0))) none,
  .mk (some 3) (.assign (.const (.slice none 0 0))) none,
  .mk (some 4) (.assign (.const (.slice none 0 0))) none]
def r59_1 : List PS := [.mk (some 5) (.assign (.const (.slice none 0 0))) none,
  .mk (some 6) (.assign (.const (.slice none 0 0))) none,
  .mk (some 7) (.assign (.const (.slice none 0 0))) none]
def r59_2 : List PS := [.mk (some 8) (.assign (.const (.int .i64 0))) none]
def r59_3 : List PS := [.mk (some 12) (.move (.tmp 8)) none,
  .mk (some 13) (.move (.tmp 0)) none,
  .mk (some 14) (.call ⟨(.builtin .len), #[(.tmp 13)], #[22]⟩) none,
  .mk (some 15) (.binOp .lss 3 (.tmp 12) (.tmp 14) 3) none]
def r59_4 : List PS := [.mk (some 18) (.move (.tmp 0)) none,
  .mk (some 19) (.move (.tmp 8)) none,
  .mk (some 20) (.indexAddr 22 (.tmp 18) (.tmp 19)) none,
  .mk (some 21) (.load 3 (.tmp 20)) none,
  .mk (some 9) (.assign (.tmp 21)) none]
def r59_5 : List PS := [.mk (some 22) (.move (.tmp 5)) none,
  .mk (some 23) (.call ⟨(.builtin .len), #[(.tmp 22)], #[22]⟩) none,
  .mk (some 10) (.assign (.tmp 23)) none]
def r59_6 : List PS := [.mk (some 25) (.move (.tmp 9)) none,
  .mk (some 26) (.call ⟨(.value (.func 98)), #[(.tmp 25)], #[3]⟩) none,
  .mk (some 27) (.move (.tmp 26)) none,
  .mk (some 28) (.move (.tmp 9)) (some (27, false)),
  .mk (some 29) (.call ⟨(.value (.func 99)), #[(.tmp 28)], #[3]⟩) (some (27, false)),
  .mk (some 30) (.pick (.tmp 27) (.const (.bool true)) (.tmp 29)) none,
  .mk (some 24) (.assign (.tmp 30)) none]
def r59_7 : List PS := [.mk (some 31) (.move (.tmp 5)) none,
  .mk (some 32) (.move (.tmp 8)) none,
  .mk (some 33) (.buildSlice 22 1 #[(0, (.tmp 32))]) none,
  .mk (some 34) (.call ⟨(.builtin .append), #[(.tmp 31), (.tmp 33)], #[22, 22]⟩) none,
  .mk (some 5) (.assign (.tmp 34)) none]
def r59_8 : List PS := [.mk (some 36) (.move (.tmp 9)) none,
  .mk (some 37) (.binOp .eql 3 (.tmp 36) (.const (.int .i64 18)) 3) none,
  .mk (some 38) (.move (.tmp 37)) none,
  .mk (some 39) (.move (.tmp 10)) (some (38, true)),
  .mk (some 40) (.binOp .gtr 3 (.tmp 39) (.const (.int .i64 0)) 3) (some (38, true)),
  .mk (some 41) (.pick (.tmp 38) (.tmp 40) (.const (.bool false))) none,
  .mk (some 42) (.move (.tmp 41)) none,
  .mk (some 43) (.move (.tmp 0)) (some (42, true)),
  .mk (some 44) (.move (.tmp 5)) (some (42, true)),
  .mk (some 45) (.move (.tmp 10)) (some (42, true)),
  .mk (some 46) (.binOp .sub 3 (.tmp 45) (.const (.int .i64 1)) 3) (some (42, true)),
  .mk (some 47) (.indexAddr 22 (.tmp 44) (.tmp 46)) (some (42, true)),
  .mk (some 48) (.load 3 (.tmp 47)) (some (42, true)),
  .mk (some 49) (.indexAddr 22 (.tmp 43) (.tmp 48)) (some (42, true)),
  .mk (some 50) (.load 3 (.tmp 49)) (some (42, true)),
  .mk (some 51) (.call ⟨(.value (.func 98)), #[(.tmp 50)], #[3]⟩) (some (42, true)),
  .mk (some 52) (.pick (.tmp 42) (.tmp 51) (.const (.bool false))) none,
  .mk (some 35) (.assign (.tmp 52)) none]
def r59_9 : List PS := [.mk (some 53) (.move (.tmp 5)) none,
  .mk (some 54) (.move (.tmp 10)) none,
  .mk (some 55) (.binOp .sub 3 (.tmp 54) (.const (.int .i64 1)) 3) none,
  .mk (some 56) (.slice 22 (.tmp 53) none (some (.tmp 55)) none) none,
  .mk (some 5) (.assign (.tmp 56)) none]
def r59_10 : List PS := [.mk (some 58) (.move (.tmp 9)) none,
  .mk (some 59) (.binOp .eql 3 (.tmp 58) (.const (.int .i64 18)) 3) none,
  .mk (some 57) (.assign (.tmp 59)) none]
def r59_11 : List PS := [.mk (some 60) (.move (.tmp 7)) none,
  .mk (some 61) (.move (.tmp 8)) none,
  .mk (some 62) (.buildSlice 22 1 #[(0, (.tmp 61))]) none,
  .mk (some 63) (.call ⟨(.builtin .append), #[(.tmp 60), (.tmp 62)], #[22, 22]⟩) none,
  .mk (some 7) (.assign (.tmp 63)) none]
def r59_12 : List PS := [.mk (some 65) (.move (.tmp 9)) none,
  .mk (some 66) (.binOp .eql 3 (.tmp 65) (.const (.int .i64 22)) 3) none,
  .mk (some 64) (.assign (.tmp 66)) none]
def r59_13 : List PS := [.mk (some 67) (.move (.tmp 10)) none,
  .mk (some 68) (.binOp .sub 3 (.tmp 67) (.const (.int .i64 1)) 3) none,
  .mk (some 11) (.assign (.tmp 68)) none]
def r59_14 : List PS := [.mk (some 69) (.move (.tmp 11)) none,
  .mk (some 70) (.binOp .geq 3 (.tmp 69) (.const (.int .i64 0)) 3) none,
  .mk (some 71) (.move (.tmp 70)) none,
  .mk (some 72) (.move (.tmp 0)) (some (71, true)),
  .mk (some 73) (.move (.tmp 5)) (some (71, true)),
  .mk (some 74) (.move (.tmp 11)) (some (71, true)),
  .mk (some 75) (.indexAddr 22 (.tmp 73) (.tmp 74)) (some (71, true)),
  .mk (some 76) (.load 3 (.tmp 75)) (some (71, true)),
  .mk (some 77) (.indexAddr 22 (.tmp 72) (.tmp 76)) (some (71, true)),
  .mk (some 78) (.load 3 (.tmp 77)) (some (71, true)),
  .mk (some 79) (.call ⟨(.value (.func 98)), #[(.tmp 78)], #[3]⟩) (some (71, true)),
  .mk (some 80) (.pick (.tmp 71) (.tmp 79) (.const (.bool false))) none]
def r59_15 : List PS := [.mk (some 81) (.move (.tmp 11)) none,
  .mk (some 82) (.binOp .sub 3 (.tmp 81) (.const (.int .i64 1)) 3) none,
  .mk (some 11) (.assign (.tmp 82)) none]
def r59_16 : List PS := [.mk (some 83) (.move (.tmp 11)) none,
  .mk (some 84) (.binOp .lss 3 (.tmp 83) (.const (.int .i64 0)) 3) none]
def r59_17 : List PS := [.mk (some 85) (.move (.tmp 7)) none,
  .mk (some 86) (.move (.tmp 8)) none,
  .mk (some 87) (.buildSlice 22 1 #[(0, (.tmp 86))]) none,
  .mk (some 88) (.call ⟨(.builtin .append), #[(.tmp 85), (.tmp 87)], #[22, 22]⟩) none,
  .mk (some 7) (.assign (.tmp 88)) none]
def r59_18 : List PS := [.mk (some 89) (.move (.tmp 6)) none,
  .mk (some 90) (.move (.tmp 5)) none,
  .mk (some 91) (.move (.tmp 11)) none,
  .mk (some 92) (.binOp .add 3 (.tmp 91) (.const (.int .i64 1)) 3) none,
  .mk (some 93) (.slice 22 (.tmp 90) (some (.tmp 92)) none none) none,
  .mk (some 94) (.call ⟨(.builtin .append), #[(.tmp 89), (.tmp 93)], #[22, 22]⟩) none,
  .mk (some 6) (.assign (.tmp 94)) none]
def r59_19 : List PS := [.mk (some 95) (.move (.tmp 5)) none,
  .mk (some 96) (.move (.tmp 11)) none,
  .mk (some 97) (.slice 22 (.tmp 95) none (some (.tmp 96)) none) none,
  .mk (some 5) (.assign (.tmp 97)) none]
def r59_20 : List PS := [.mk (some 16) (.move (.tmp 8)) none,
  .mk (some 17) (.binOp .add 3 (.tmp 16) (.const (.int .i64 1)) 3) none,
  .mk (some 8) (.assign (.tmp 17)) none]
def r59_21 : List PS := [.mk (some 98) (.move (.tmp 5)) none,
  .mk (some 99) (.move (.tmp 6)) none,
  .mk (some 100) (.move (.tmp 7)) none,
  .mk (some 2) (.assign (.tmp 98)) none,
  .mk (some 3) (.assign (.tmp 99)) none,
  .mk (some 4) (.assign (.tmp 100)) none]
def c59 : PC := (.seq (.reg false r59_0) (.seq (.reg false r59_1) (.seq (.seq (.reg false r59_2) (.block 0 (.loop (.seq (.seq (.reg false r59_3) (.cond (.tmp 15) .skip (.exit 0))) (.seq (.block 1 (.seq (.reg false r59_4) (.seq (.reg false r59_5) (.block 2 (.seq (.reg false r59_6) (.cond (.tmp 24) (.reg false r59_7) (.seq (.reg false r59_8) (.cond (.tmp 35) (.reg false r59_9) (.seq (.reg false r59_10) (.cond (.tmp 57) (.reg false r59_11) (.seq (.reg false r59_12) (.cond (.tmp 64) (.seq (.reg false r59_13) (.seq (.block 3 (.loop (.seq (.seq (.reg false r59_14) (.cond (.tmp 80) .skip (.exit 3))) (.block 4 (.reg false r59_15))))) (.seq (.seq (.reg false r59_16) (.cond (.tmp 84) (.seq (.reg false r59_17) (.exit 1)) .skip)) (.seq (.reg false r59_18) (.reg false r59_19))))) .skip)))))))))))) (.reg false r59_20)))))) (.seq (.reg false r59_21) .ret))))
theorem e59 (hl : args.length = 1) (s : pwp Tryz.prog [] c59 (fin Tryz.prog [.tmp 2, .tmp 3, .tmp 4] h K) (slots0 (olds args)) h) : CanP Tryz.prog 59 args h K :=
  can_of2 (n := 101) mixed Tryz.func59 rfl (by kernel_rfl) (by rw [hl]; kernel_rfl) rfl (by kernel_rfl) s
/-! ### naskh.naskhref47.Loose: function 28 -/
def r28_0 : List PS := [.mk (some 2) (.assign (.const (.slice none 0 0))) none]
def r28_1 : List PS := [.mk (some 7) (.move (.tmp 0)) none,
  .mk (some 8) (.call ⟨(.value (.func 59)), #[(.tmp 7)], #[22]⟩) none,
  .mk (some 6) (.move (.tmp 8)) none,
  .mk (some 9) (.extract (.tmp 6) 0) none,
  .mk (some 10) (.extract (.tmp 6) 1) none,
  .mk (some 11) (.extract (.tmp 6) 2) none,
  .mk (some 3) (.assign (.tmp 9)) none,
  .mk (some 4) (.assign (.tmp 10)) none,
  .mk (some 5) (.assign (.tmp 11)) none]
def r28_2 : List PS := [.mk (some 12) (.move (.tmp 5)) none,
  .mk (some 2) (.assign (.tmp 12)) none]
def c28 : PC := (.seq (.reg false r28_0) (.seq (.reg false r28_1) (.seq (.reg false r28_2) .ret)))
theorem e28 (hl : args.length = 1) (s : pwp Tryz.prog [] c28 (fin Tryz.prog [.tmp 2] h K) (slots0 (olds args)) h) : CanP Tryz.prog 28 args h K :=
  can_of2 (n := 13) mixed Tryz.func28 rfl (by kernel_rfl) (by rw [hl]; kernel_rfl) rfl (by kernel_rfl) s
/-! ### naskh.naskhref47.body: function 76 -/
def r76_0 : List PS := [.mk (some 2) (.assign (.const (.int .i64 0))) none]
def r76_1 : List PS := [.mk (some 4) (.move (.tmp 0)) none,
  .mk (some 5) (.call ⟨(.builtin .len), #[(.tmp 4)], #[22]⟩) none,
  .mk (some 3) (.assign (.tmp 5)) none]
def r76_2 : List PS := [.mk (some 6) (.move (.tmp 3)) none,
  .mk (some 7) (.binOp .gtr 3 (.tmp 6) (.const (.int .i64 0)) 3) none,
  .mk (some 8) (.move (.tmp 7)) none,
  .mk (some 9) (.move (.tmp 0)) (some (8, true)),
  .mk (some 10) (.move (.tmp 3)) (some (8, true)),
  .mk (some 11) (.binOp .sub 3 (.tmp 10) (.const (.int .i64 1)) 3) (some (8, true)),
  .mk (some 12) (.indexAddr 22 (.tmp 9) (.tmp 11)) (some (8, true)),
  .mk (some 13) (.load 3 (.tmp 12)) (some (8, true)),
  .mk (some 14) (.call ⟨(.value (.func 58)), #[(.tmp 13)], #[3]⟩) (some (8, true)),
  .mk (some 15) (.binOp .eql 3 (.tmp 14) (.const (.int .i64 10)) 3) (some (8, true)),
  .mk (some 16) (.pick (.tmp 8) (.tmp 15) (.const (.bool false))) none]
def r76_3 : List PS := [.mk (some 17) (.move (.tmp 3)) none,
  .mk (some 18) (.binOp .sub 3 (.tmp 17) (.const (.int .i64 1)) 3) none,
  .mk (some 3) (.assign (.tmp 18)) none]
def r76_4 : List PS := [.mk (some 19) (.move (.tmp 3)) none,
  .mk (some 20) (.binOp .gtr 3 (.tmp 19) (.const (.int .i64 0)) 3) none,
  .mk (some 21) (.move (.tmp 20)) none,
  .mk (some 22) (.move (.tmp 0)) (some (21, true)),
  .mk (some 23) (.move (.tmp 3)) (some (21, true)),
  .mk (some 24) (.indexAddr 22 (.tmp 22) (.tmp 23)) (some (21, true)),
  .mk (some 25) (.load 3 (.tmp 24)) (some (21, true)),
  .mk (some 26) (.binOp .eql 3 (.tmp 25) (.const (.int .i64 10)) 3) (some (21, true)),
  .mk (some 27) (.pick (.tmp 21) (.tmp 26) (.const (.bool false))) none,
  .mk (some 28) (.move (.tmp 27)) none,
  .mk (some 29) (.move (.tmp 0)) (some (28, true)),
  .mk (some 30) (.move (.tmp 3)) (some (28, true)),
  .mk (some 31) (.binOp .sub 3 (.tmp 30) (.const (.int .i64 1)) 3) (some (28, true)),
  .mk (some 32) (.indexAddr 22 (.tmp 29) (.tmp 31)) (some (28, true)),
  .mk (some 33) (.load 3 (.tmp 32)) (some (28, true)),
  .mk (some 34) (.binOp .eql 3 (.tmp 33) (.const (.int .i64 13)) 3) (some (28, true)),
  .mk (some 35) (.pick (.tmp 28) (.tmp 34) (.const (.bool false))) none]
def r76_5 : List PS := [.mk (some 36) (.move (.tmp 3)) none,
  .mk (some 37) (.binOp .sub 3 (.tmp 36) (.const (.int .i64 1)) 3) none,
  .mk (some 3) (.assign (.tmp 37)) none]
def r76_6 : List PS := [.mk (some 38) (.move (.tmp 3)) none,
  .mk (some 2) (.assign (.tmp 38)) none]
def c76 : PC := (.seq (.reg false r76_0) (.seq (.reg false r76_1) (.seq (.seq (.reg false r76_2) (.cond (.tmp 16) (.seq (.reg false r76_3) (.seq (.reg false r76_4) (.cond (.tmp 35) (.reg false r76_5) .skip))) .skip)) (.seq (.reg false r76_6) .ret))))
theorem e76 (hl : args.length = 1) (s : pwp Tryz.prog [] c76 (fin Tryz.prog [.tmp 2] h K) (slots0 (olds args)) h) : CanP Tryz.prog 76 args h K :=
  can_of2 (n := 39) mixed Tryz.func76 rfl (by kernel_rfl) (by rw [hl]; kernel_rfl) rfl (by kernel_rfl) s
/-! ### naskh.naskhref47.Close: function 77 -/
def r77_0 : List PS := [.mk (some 2) (.assign (.const (.slice none 0 0))) none]
def r77_1 : List PS := [.mk (some 9) (.move (.tmp 0)) none,
  .mk (some 10) (.call ⟨(.value (.func 59)), #[(.tmp 9)], #[22]⟩) none,
  .mk (some 8) (.move (.tmp 10)) none,
  .mk (some 11) (.extract (.tmp 8) 0) none,
  .mk (some 12) (.extract (.tmp 8) 1) none,
  .mk (some 13) (.extract (.tmp 8) 2) none,
  .mk (some 3) (.assign (.tmp 11)) none,
  .mk (some 4) (.assign (.tmp 12)) none,
  .mk (some 5) (.assign (.tmp 13)) none]
def r77_2 : List PS := [.mk (some 6) (.assign (.const (.slice none 0 0))) none]
def r77_3 : List PS := [.mk (some 14) (.move (.tmp 3)) none,
  .mk (some 15) (.call ⟨(.builtin .len), #[(.tmp 14)], #[22]⟩) none,
  .mk (some 16) (.binOp .sub 3 (.tmp 15) (.const (.int .i64 1)) 3) none,
  .mk (some 7) (.assign (.tmp 16)) none]
def r77_4 : List PS := [.mk (some 17) (.move (.tmp 7)) none,
  .mk (some 18) (.binOp .geq 3 (.tmp 17) (.const (.int .i64 0)) 3) none]
def r77_5 : List PS := [.mk (some 21) (.move (.tmp 0)) none,
  .mk (some 22) (.move (.tmp 3)) none,
  .mk (some 23) (.move (.tmp 7)) none,
  .mk (some 24) (.indexAddr 22 (.tmp 22) (.tmp 23)) none,
  .mk (some 25) (.load 3 (.tmp 24)) none,
  .mk (some 26) (.indexAddr 22 (.tmp 21) (.tmp 25)) none,
  .mk (some 27) (.load 3 (.tmp 26)) none,
  .mk (some 28) (.call ⟨(.value (.func 99)), #[(.tmp 27)], #[3]⟩) none]
def r77_6 : List PS := [.mk (some 29) (.move (.tmp 6)) none,
  .mk (some 30) (.buildSlice 22 1 #[(0, (.const (.int .i64 8297)))]) none,
  .mk (some 31) (.call ⟨(.builtin .append), #[(.tmp 29), (.tmp 30)], #[22, 22]⟩) none,
  .mk (some 6) (.assign (.tmp 31)) none]
def r77_7 : List PS := [.mk (some 32) (.move (.tmp 6)) none,
  .mk (some 33) (.buildSlice 22 1 #[(0, (.const (.int .i64 8236)))]) none,
  .mk (some 34) (.call ⟨(.builtin .append), #[(.tmp 32), (.tmp 33)], #[22, 22]⟩) none,
  .mk (some 6) (.assign (.tmp 34)) none]
def r77_8 : List PS := [.mk (some 19) (.move (.tmp 7)) none,
  .mk (some 20) (.binOp .sub 3 (.tmp 19) (.const (.int .i64 1)) 3) none,
  .mk (some 7) (.assign (.tmp 20)) none]
def r77_9 : List PS := [.mk (some 35) (.move (.tmp 6)) none,
  .mk (some 2) (.assign (.tmp 35)) none]
def c77 : PC := (.seq (.reg false r77_0) (.seq (.reg false r77_1) (.seq (.reg false r77_2) (.seq (.seq (.reg false r77_3) (.block 0 (.loop (.seq (.seq (.reg false r77_4) (.cond (.tmp 18) .skip (.exit 0))) (.seq (.block 1 (.seq (.reg false r77_5) (.cond (.tmp 28) (.reg false r77_6) (.reg false r77_7)))) (.reg false r77_8)))))) (.seq (.reg false r77_9) .ret)))))
theorem e77 (hl : args.length = 1) (s : pwp Tryz.prog [] c77 (fin Tryz.prog [.tmp 2] h K) (slots0 (olds args)) h) : CanP Tryz.prog 77 args h K :=
  can_of2 (n := 36) mixed Tryz.func77 rfl (by kernel_rfl) (by rw [hl]; kernel_rfl) rfl (by kernel_rfl) s
/-! ### naskh.naskhref47.has: function 78 -/
def r78_0 : List PS := [.mk (some 4) (.assign (.const (.bool false))) none]
def r78_1 : List PS := [.mk (some 5) (.assign (.const (.int .i64 0))) none]
def r78_2 : List PS := [.mk (some 6) (.move (.tmp 5)) none,
  .mk (some 7) (.move (.tmp 0)) none,
  .mk (some 8) (.call ⟨(.builtin .len), #[(.tmp 7)], #[22]⟩) none,
  .mk (some 9) (.binOp .lss 3 (.tmp 6) (.tmp 8) 3) none]
def r78_3 : List PS := [.mk (some 12) (.move (.tmp 0)) none,
  .mk (some 13) (.move (.tmp 5)) none,
  .mk (some 14) (.indexAddr 22 (.tmp 12) (.tmp 13)) none,
  .mk (some 15) (.load 3 (.tmp 14)) none,
  .mk (some 16) (.move (.tmp 1)) none,
  .mk (some 17) (.binOp .eql 3 (.tmp 15) (.tmp 16) 3) none]
def r78_4 : List PS := [.mk (some 4) (.assign (.const (.bool true))) none]
def r78_5 : List PS := [.mk (some 10) (.move (.tmp 5)) none,
  .mk (some 11) (.binOp .add 3 (.tmp 10) (.const (.int .i64 1)) 3) none,
  .mk (some 5) (.assign (.tmp 11)) none]
def r78_6 : List PS := [.mk (some 4) (.assign (.const (.bool false))) none]
def c78 : PC := (.seq (.reg false r78_0) (.seq (.seq (.reg false r78_1) (.block 0 (.loop (.seq (.seq (.reg false r78_2) (.cond (.tmp 9) .skip (.exit 0))) (.seq (.block 1 (.seq (.reg false r78_3) (.cond (.tmp 17) (.seq (.reg false r78_4) .ret) .skip))) (.reg false r78_5)))))) (.seq (.reg false r78_6) .ret)))
theorem e78 (hl : args.length = 2) (s : pwp Tryz.prog [] c78 (fin Tryz.prog [.tmp 4] h K) (slots0 (olds args)) h) : CanP Tryz.prog 78 args h K :=
  can_of2 (n := 18) mixed Tryz.func78 rfl (by kernel_rfl) (by rw [hl]; kernel_rfl) rfl (by kernel_rfl) s
/-! ### naskh.naskhref47.Even: function 36 -/
def r36_0 : List PS := [.mk (some 2) (.assign (.const (.slice none 0 0))) none]
def r36_1 : List PS := [.mk (some 3) (.assign (.const (.slice none 0 0))) none]
def r36_2 : List PS := [.mk (some 11) (.move (.tmp 0)) none,
  .mk (some 12) (.call ⟨(.value (.func 25)), #[(.tmp 11)], #[22]⟩) none,
  .mk (some 4) (.assign (.tmp 12)) none]
def r36_3 : List PS := [.mk (some 5) (.assign (.const (.int .i64 0))) none]
def r36_4 : List PS := [.mk (some 13) (.move (.tmp 5)) none,
  .mk (some 14) (.move (.tmp 4)) none,
  .mk (some 15) (.call ⟨(.builtin .len), #[(.tmp 14)], #[46]⟩) none,
  .mk (some 16) (.binOp .lss 3 (.tmp 13) (.tmp 15) 3) none]
def r36_5 : List PS := [.mk (some 19) (.move (.tmp 0)) none,
  .mk (some 20) (.move (.tmp 4)) none,
  .mk (some 21) (.move (.tmp 5)) none,
  .mk (some 22) (.indexAddr 46 (.tmp 20) (.tmp 21)) none,
  .mk (some 23) (.fieldAddr 49 (.tmp 22) 0) none,
  .mk (some 24) (.load 3 (.tmp 23)) none,
  .mk (some 25) (.move (.tmp 4)) none,
  .mk (some 26) (.move (.tmp 5)) none,
  .mk (some 27) (.indexAddr 46 (.tmp 25) (.tmp 26)) none,
  .mk (some 28) (.fieldAddr 49 (.tmp 27) 1) none,
  .mk (some 29) (.load 3 (.tmp 28)) none,
  .mk (some 30) (.slice 22 (.tmp 19) (some (.tmp 24)) (some (.tmp 29)) none) none,
  .mk (some 6) (.assign (.tmp 30)) none]
def r36_6 : List PS := [.mk (some 31) (.move (.tmp 6)) none,
  .mk (some 32) (.call ⟨(.value (.func 26)), #[(.tmp 31)], #[22]⟩) none,
  .mk (some 7) (.assign (.tmp 32)) none]
def r36_7 : List PS := [.mk (some 33) (.move (.tmp 7)) none,
  .mk (some 34) (.call ⟨(.value (.func 28)), #[(.tmp 33)], #[22]⟩) none,
  .mk (some 35) (.move (.tmp 6)) none,
  .mk (some 36) (.call ⟨(.value (.func 76)), #[(.tmp 35)], #[22]⟩) none,
  .mk (some 8) (.assign (.tmp 34)) none,
  .mk (some 9) (.assign (.tmp 36)) none]
def r36_8 : List PS := [.mk (some 10) (.assign (.const (.int .i64 0))) none]
def r36_9 : List PS := [.mk (some 37) (.move (.tmp 10)) none,
  .mk (some 38) (.move (.tmp 6)) none,
  .mk (some 39) (.call ⟨(.builtin .len), #[(.tmp 38)], #[22]⟩) none,
  .mk (some 40) (.binOp .lss 3 (.tmp 37) (.tmp 39) 3) none]
def r36_10 : List PS := [.mk (some 43) (.move (.tmp 10)) none,
  .mk (some 44) (.move (.tmp 9)) none,
  .mk (some 45) (.binOp .eql 3 (.tmp 43) (.tmp 44) 3) none]
def r36_11 : List PS := [.mk (some 46) (.move (.tmp 3)) none,
  .mk (some 47) (.move (.tmp 7)) none,
  .mk (some 48) (.call ⟨(.value (.func 77)), #[(.tmp 47)], #[22]⟩) none,
  .mk (some 49) (.call ⟨(.builtin .append), #[(.tmp 46), (.tmp 48)], #[22, 22]⟩) none,
  .mk (some 3) (.assign (.tmp 49)) none]
def r36_12 : List PS := [.mk (some 50) (.move (.tmp 8)) none,
  .mk (some 51) (.move (.tmp 10)) none,
  .mk (some 52) (.call ⟨(.value (.func 78)), #[(.tmp 50), (.tmp 51)], #[22, 3]⟩) none,
  .mk (some 53) (.unOp .not 4 (.tmp 52)) none]
def r36_13 : List PS := [.mk (some 54) (.move (.tmp 3)) none,
  .mk (some 55) (.move (.tmp 6)) none,
  .mk (some 56) (.move (.tmp 10)) none,
  .mk (some 57) (.indexAddr 22 (.tmp 55) (.tmp 56)) none,
  .mk (some 58) (.load 3 (.tmp 57)) none,
  .mk (some 59) (.buildSlice 22 1 #[(0, (.tmp 58))]) none,
  .mk (some 60) (.call ⟨(.builtin .append), #[(.tmp 54), (.tmp 59)], #[22, 22]⟩) none,
  .mk (some 3) (.assign (.tmp 60)) none]
def r36_14 : List PS := [.mk (some 41) (.move (.tmp 10)) none,
  .mk (some 42) (.binOp .add 3 (.tmp 41) (.const (.int .i64 1)) 3) none,
  .mk (some 10) (.assign (.tmp 42)) none]
def r36_15 : List PS := [.mk (some 61) (.move (.tmp 9)) none,
  .mk (some 62) (.move (.tmp 6)) none,
  .mk (some 63) (.call ⟨(.builtin .len), #[(.tmp 62)], #[22]⟩) none,
  .mk (some 64) (.binOp .eql 3 (.tmp 61) (.tmp 63) 3) none]
def r36_16 : List PS := [.mk (some 65) (.move (.tmp 3)) none,
  .mk (some 66) (.move (.tmp 7)) none,
  .mk (some 67) (.call ⟨(.value (.func 77)), #[(.tmp 66)], #[22]⟩) none,
  .mk (some 68) (.call ⟨(.builtin .append), #[(.tmp 65), (.tmp 67)], #[22, 22]⟩) none,
  .mk (some 3) (.assign (.tmp 68)) none]
def r36_17 : List PS := [.mk (some 17) (.move (.tmp 5)) none,
  .mk (some 18) (.binOp .add 3 (.tmp 17) (.const (.int .i64 1)) 3) none,
  .mk (some 5) (.assign (.tmp 18)) none]
def r36_18 : List PS := [.mk (some 69) (.move (.tmp 3)) none,
  .mk (some 2) (.assign (.tmp 69)) none]
def c36 : PC := (.seq (.reg false r36_0) (.seq (.reg false r36_1) (.seq (.reg false r36_2) (.seq (.seq (.reg false r36_3) (.block 0 (.loop (.seq (.seq (.reg false r36_4) (.cond (.tmp 16) .skip (.exit 0))) (.seq (.block 1 (.seq (.reg true r36_5) (.seq (.reg false r36_6) (.seq (.reg false r36_7) (.seq (.seq (.reg false r36_8) (.block 2 (.loop (.seq (.seq (.reg false r36_9) (.cond (.tmp 40) .skip (.exit 2))) (.seq (.block 3 (.seq (.seq (.reg false r36_10) (.cond (.tmp 45) (.reg false r36_11) .skip)) (.seq (.reg false r36_12) (.cond (.tmp 53) (.reg false r36_13) .skip)))) (.reg false r36_14)))))) (.seq (.reg false r36_15) (.cond (.tmp 64) (.reg false r36_16) .skip))))))) (.reg false r36_17)))))) (.seq (.reg false r36_18) .ret)))))
theorem e36 (hl : args.length = 1) (s : pwp Tryz.prog [] c36 (fin Tryz.prog [.tmp 2] h K) (slots0 (olds args)) h) : CanP Tryz.prog 36 args h K :=
  can_of2 (n := 70) mixed Tryz.func36 rfl (by kernel_rfl) (by rw [hl]; kernel_rfl) rfl (by kernel_rfl) s
/-! ### naskh.naskhref37.Of: function 63 -/
def r63_0 : List PS := [.mk (some 2) (.assign (.const (.int .i64 0))) none]
def r63_1 : List PS := [.mk (some 3) (.call ⟨(.value (.func 24)), #[], #[]⟩) none,
  .mk (some 4) (.move (.tmp 0)) none,
  .mk (some 5) (.call ⟨(.value (.func 97)), #[(.tmp 3), (.const (.int .i64 0)), (.tmp 4)], #[57, 3, 3]⟩) none,
  .mk (some 2) (.assign (.tmp 5)) none]
def c63 : PC := (.seq (.reg false r63_0) (.seq (.reg false r63_1) .ret))
theorem e63 (hl : args.length = 1) (s : pwp Tryz.prog [] c63 (fin Tryz.prog [.tmp 2] h K) (slots0 (olds args)) h) : CanP Tryz.prog 63 args h K :=
  can_of2 (n := 6) mixed Tryz.func63 rfl (by kernel_rfl) (by rw [hl]; kernel_rfl) rfl (by kernel_rfl) s
/-! ### naskh.naskhref37.Places: function 79 -/
def r79_0 : List PS := [.mk (some 2) (.assign (.const (.slice none 0 0))) none]
def r79_1 : List PS := [.mk (some 3) (.assign (.const (.slice none 0 0))) none]
def r79_2 : List PS := [.mk (some 4) (.assign (.const (.int .i64 0))) none]
def r79_3 : List PS := [.mk (some 6) (.move (.tmp 4)) none,
  .mk (some 7) (.move (.tmp 0)) none,
  .mk (some 8) (.call ⟨(.builtin .len), #[(.tmp 7)], #[22]⟩) none,
  .mk (some 9) (.binOp .lss 3 (.tmp 6) (.tmp 8) 3) none]
def r79_4 : List PS := [.frz 3,
  .mk (some 12) (.move (.tmp 3)) none,
  .mk (some 13) (.call ⟨(.builtin .len), #[(.tmp 12)], #[22]⟩) none,
  .mk (some 5) (.assign (.tmp 13)) none]
def r79_5 : List PS := [.mk (some 14) (.move (.tmp 0)) none,
  .mk (some 15) (.move (.tmp 4)) none,
  .mk (some 16) (.indexAddr 22 (.tmp 14) (.tmp 15)) none,
  .mk (some 17) (.load 3 (.tmp 16)) none,
  .mk (some 18) (.call ⟨(.value (.func 63)), #[(.tmp 17)], #[3]⟩) none,
  .mk (some 19) (.binOp .gtr 3 (.tmp 18) (.const (.int .i64 0)) 3) none,
  .mk (some 20) (.move (.tmp 19)) none,
  .mk (some 21) (.move (.tmp 5)) (some (20, true)),
  .mk (some 22) (.binOp .gtr 3 (.tmp 21) (.const (.int .i64 0)) 3) (some (20, true)),
  .mk (some 23) (.pick (.tmp 20) (.tmp 22) (.const (.bool false))) none,
  .mk (some 24) (.move (.tmp 23)) none,
  .mk (some 25) (.move (.tmp 0)) (some (24, true)),
  .mk (some 26) (.move (.tmp 3)) (some (24, true)),
  .mk (some 27) (.move (.tmp 5)) (some (24, true)),
  .mk (some 28) (.binOp .sub 3 (.tmp 27) (.const (.int .i64 1)) 3) (some (24, true)),
  .mk (some 29) (.indexAddr 22 (.tmp 26) (.tmp 28)) (some (24, true)),
  .mk (some 30) (.load 3 (.tmp 29)) (some (24, true)),
  .mk (some 31) (.indexAddr 22 (.tmp 25) (.tmp 30)) (some (24, true)),
  .mk (some 32) (.load 3 (.tmp 31)) (some (24, true)),
  .mk (some 33) (.call ⟨(.value (.func 63)), #[(.tmp 32)], #[3]⟩) (some (24, true)),
  .mk (some 34) (.move (.tmp 0)) (some (24, true)),
  .mk (some 35) (.move (.tmp 4)) (some (24, true)),
  .mk (some 36) (.indexAddr 22 (.tmp 34) (.tmp 35)) (some (24, true)),
  .mk (some 37) (.load 3 (.tmp 36)) (some (24, true)),
  .mk (some 38) (.call ⟨(.value (.func 63)), #[(.tmp 37)], #[3]⟩) (some (24, true)),
  .mk (some 39) (.binOp .gtr 3 (.tmp 33) (.tmp 38) 3) (some (24, true)),
  .mk (some 40) (.pick (.tmp 24) (.tmp 39) (.const (.bool false))) none]
def r79_6 : List PS := [.mk (some 41) (.move (.tmp 5)) none,
  .mk (some 42) (.binOp .sub 3 (.tmp 41) (.const (.int .i64 1)) 3) none,
  .mk (some 5) (.assign (.tmp 42)) none]
def r79_7 : List PS := [.mk (some 43) (.move (.tmp 3)) none,
  .mk (some 44) (.move (.tmp 5)) none,
  .mk (some 45) (.slice 22 (.tmp 43) none (some (.tmp 44)) none) none,
  .mk (some 46) (.call ⟨(.builtin .append), #[(.const (.slice none 0 0)), (.tmp 45)], #[22, 22]⟩) none,
  .mk (some 47) (.move (.tmp 4)) none,
  .mk (some 48) (.buildSlice 22 1 #[(0, (.tmp 47))]) none,
  .mk (some 49) (.call ⟨(.builtin .append), #[(.tmp 46), (.tmp 48)], #[22, 22]⟩) none,
  .mk (some 50) (.move (.tmp 3)) none,
  .mk (some 51) (.move (.tmp 5)) none,
  .mk (some 52) (.slice 22 (.tmp 50) (some (.tmp 51)) none none) none,
  .mk (some 53) (.call ⟨(.builtin .append), #[(.tmp 49), (.tmp 52)], #[22, 22]⟩) none,
  .mk (some 3) (.assign (.tmp 53)) none]
def r79_8 : List PS := [.mk (some 10) (.move (.tmp 4)) none,
  .mk (some 11) (.binOp .add 3 (.tmp 10) (.const (.int .i64 1)) 3) none,
  .mk (some 4) (.assign (.tmp 11)) none]
def r79_9 : List PS := [.mk (some 54) (.move (.tmp 3)) none,
  .mk (some 2) (.assign (.tmp 54)) none]
def c79 : PC := (.seq (.reg false r79_0) (.seq (.reg false r79_1) (.seq (.seq (.reg false r79_2) (.block 0 (.loop (.seq (.seq (.reg false r79_3) (.cond (.tmp 9) .skip (.exit 0))) (.seq (.block 1 (.seq (.reg false r79_4) (.seq (.block 2 (.loop (.seq (.seq (.reg true r79_5) (.cond (.tmp 40) .skip (.exit 2))) (.block 3 (.reg false r79_6))))) (.reg true r79_7)))) (.reg false r79_8)))))) (.seq (.reg false r79_9) .ret))))
theorem e79 (hl : args.length = 1) (s : pwp Tryz.prog [] c79 (fin Tryz.prog [.tmp 2] h K) (slots0 (olds args)) h) : CanP Tryz.prog 79 args h K :=
  can_of2 (n := 55) mixed Tryz.func79 rfl (by kernel_rfl) (by rw [hl]; kernel_rfl) rfl (by kernel_rfl) s
/-! ### naskh.naskhref37.Order: function 37 -/
def r37_0 : List PS := [.mk (some 2) (.assign (.const (.slice none 0 0))) none]
def r37_1 : List PS := [.mk (some 3) (.assign (.const (.slice none 0 0))) none]
def r37_2 : List PS := [.mk (some 6) (.move (.tmp 0)) none,
  .mk (some 7) (.call ⟨(.value (.func 79)), #[(.tmp 6)], #[22]⟩) none,
  .mk (some 4) (.assign (.tmp 7)) none]
def r37_3 : List PS := [.mk (some 5) (.assign (.const (.int .i64 0))) none]
def r37_4 : List PS := [.mk (some 8) (.move (.tmp 5)) none,
  .mk (some 9) (.move (.tmp 4)) none,
  .mk (some 10) (.call ⟨(.builtin .len), #[(.tmp 9)], #[22]⟩) none,
  .mk (some 11) (.binOp .lss 3 (.tmp 8) (.tmp 10) 3) none]
def r37_5 : List PS := [.mk (some 14) (.move (.tmp 3)) none,
  .mk (some 15) (.move (.tmp 0)) none,
  .mk (some 16) (.move (.tmp 4)) none,
  .mk (some 17) (.move (.tmp 5)) none,
  .mk (some 18) (.indexAddr 22 (.tmp 16) (.tmp 17)) none,
  .mk (some 19) (.load 3 (.tmp 18)) none,
  .mk (some 20) (.indexAddr 22 (.tmp 15) (.tmp 19)) none,
  .mk (some 21) (.load 3 (.tmp 20)) none,
  .mk (some 22) (.buildSlice 22 1 #[(0, (.tmp 21))]) none,
  .mk (some 23) (.call ⟨(.builtin .append), #[(.tmp 14), (.tmp 22)], #[22, 22]⟩) none,
  .mk (some 3) (.assign (.tmp 23)) none]
def r37_6 : List PS := [.mk (some 12) (.move (.tmp 5)) none,
  .mk (some 13) (.binOp .add 3 (.tmp 12) (.const (.int .i64 1)) 3) none,
  .mk (some 5) (.assign (.tmp 13)) none]
def r37_7 : List PS := [.mk (some 24) (.move (.tmp 3)) none,
  .mk (some 2) (.assign (.tmp 24)) none]
def c37 : PC := (.seq (.reg false r37_0) (.seq (.reg false r37_1) (.seq (.reg false r37_2) (.seq (.seq (.reg false r37_3) (.block 0 (.loop (.seq (.seq (.reg false r37_4) (.cond (.tmp 11) .skip (.exit 0))) (.seq (.block 1 (.reg false r37_5)) (.reg false r37_6)))))) (.seq (.reg false r37_7) .ret)))))
theorem e37 (hl : args.length = 1) (s : pwp Tryz.prog [] c37 (fin Tryz.prog [.tmp 2] h K) (slots0 (olds args)) h) : CanP Tryz.prog 37 args h K :=
  can_of2 (n := 25) mixed Tryz.func37 rfl (by kernel_rfl) (by rw [hl]; kernel_rfl) rfl (by kernel_rfl) s
/-! ### (*naskh.naskhref12.Cells).Text: function 38 -/
def r38_0 : List PS := [.mk (some 2) (.assign (.const (.slice none 0 0))) none]
def r38_1 : List PS := [.mk (some 3) (.assign (.const (.slice none 0 0))) none]
def r38_2 : List PS := [.mk (some 4) (.assign (.const (.int .i64 0))) none]
def r38_3 : List PS := [.mk (some 5) (.move (.tmp 4)) none,
  .mk (some 6) (.move (.tmp 0)) none,
  .mk (some 7) (.nilCheck (.tmp 6)) none,
  .mk (some 8) (.fieldAddr 118 (.tmp 7) 0) none,
  .mk (some 9) (.load 109 (.tmp 8)) none,
  .mk (some 10) (.call ⟨(.builtin .len), #[(.tmp 9)], #[109]⟩) none,
  .mk (some 11) (.binOp .lss 3 (.tmp 5) (.tmp 10) 3) none]
def r38_4 : List PS := [.mk (some 14) (.move (.tmp 3)) none,
  .mk (some 15) (.move (.tmp 0)) none,
  .mk (some 16) (.nilCheck (.tmp 15)) none,
  .mk (some 17) (.fieldAddr 118 (.tmp 16) 0) none,
  .mk (some 18) (.load 109 (.tmp 17)) none,
  .mk (some 19) (.move (.tmp 4)) none,
  .mk (some 20) (.indexAddr 109 (.tmp 18) (.tmp 19)) none,
  .mk (some 21) (.load 22 (.tmp 20)) none,
  .mk (some 22) (.call ⟨(.builtin .append), #[(.tmp 14), (.tmp 21)], #[22, 22]⟩) none,
  .mk (some 3) (.assign (.tmp 22)) none]
def r38_5 : List PS := [.mk (some 12) (.move (.tmp 4)) none,
  .mk (some 13) (.binOp .add 3 (.tmp 12) (.const (.int .i64 1)) 3) none,
  .mk (some 4) (.assign (.tmp 13)) none]
def r38_6 : List PS := [.mk (some 23) (.move (.tmp 3)) none,
  .mk (some 2) (.assign (.tmp 23)) none]
def c38 : PC := (.seq (.reg false r38_0) (.seq (.reg false r38_1) (.seq (.seq (.reg false r38_2) (.block 0 (.loop (.seq (.seq (.reg false r38_3) (.cond (.tmp 11) .skip (.exit 0))) (.seq (.block 1 (.reg false r38_4)) (.reg false r38_5)))))) (.seq (.reg false r38_6) .ret))))
theorem e38 (hl : args.length = 1) (s : pwp Tryz.prog [] c38 (fin Tryz.prog [.tmp 2] h K) (slots0 (olds args)) h) : CanP Tryz.prog 38 args h K :=
  can_of2 (n := 24) mixed Tryz.func38 rfl (by kernel_rfl) (by rw [hl]; kernel_rfl) rfl (by kernel_rfl) s
/-! ### naskh.naskhref49.row: function 39 -/
def r39_0 : List PS := [.mk (some 4) (.assign (.const (.bool false))) none]
def r39_1 : List PS := [.mk (some 5) (.move (.tmp 1)) none,
  .mk (some 6) (.binOp .geq 3 (.tmp 5) (.const (.int .i64 2)) 3) none,
  .mk (some 7) (.move (.tmp 6)) none,
  .mk (some 8) (.move (.tmp 0)) (some (7, true)),
  .mk (some 9) (.move (.tmp 1)) (some (7, true)),
  .mk (some 10) (.indexAddr 22 (.tmp 8) (.tmp 9)) (some (7, true)),
  .mk (some 11) (.load 3 (.tmp 10)) (some (7, true)),
  .mk (some 12) (.binOp .eql 3 (.tmp 11) (.const (.int .i64 1600)) 3) (some (7, true)),
  .mk (some 13) (.pick (.tmp 7) (.tmp 12) (.const (.bool false))) none,
  .mk (some 14) (.move (.tmp 13)) none,
  .mk (some 15) (.move (.tmp 0)) (some (14, true)),
  .mk (some 16) (.move (.tmp 1)) (some (14, true)),
  .mk (some 17) (.binOp .sub 3 (.tmp 16) (.const (.int .i64 1)) 3) (some (14, true)),
  .mk (some 18) (.indexAddr 22 (.tmp 15) (.tmp 17)) (some (14, true)),
  .mk (some 19) (.load 3 (.tmp 18)) (some (14, true)),
  .mk (some 20) (.binOp .eql 3 (.tmp 19) (.const (.int .i64 1600)) 3) (some (14, true)),
  .mk (some 21) (.pick (.tmp 14) (.tmp 20) (.const (.bool false))) none,
  .mk (some 22) (.move (.tmp 21)) none,
  .mk (some 23) (.move (.tmp 0)) (some (22, true)),
  .mk (some 24) (.move (.tmp 1)) (some (22, true)),
  .mk (some 25) (.binOp .sub 3 (.tmp 24) (.const (.int .i64 2)) 3) (some (22, true)),
  .mk (some 26) (.indexAddr 22 (.tmp 23) (.tmp 25)) (some (22, true)),
  .mk (some 27) (.load 3 (.tmp 26)) (some (22, true)),
  .mk (some 28) (.binOp .eql 3 (.tmp 27) (.const (.int .i64 1600)) 3) (some (22, true)),
  .mk (some 29) (.pick (.tmp 22) (.tmp 28) (.const (.bool false))) none,
  .mk (some 4) (.assign (.tmp 29)) none]
def c39 : PC := (.seq (.reg false r39_0) (.seq (.reg false r39_1) .ret))
theorem e39 (hl : args.length = 2) (s : pwp Tryz.prog [] c39 (fin Tryz.prog [.tmp 4] h K) (slots0 (olds args)) h) : CanP Tryz.prog 39 args h K :=
  can_of2 (n := 30) mixed Tryz.func39 rfl (by kernel_rfl) (by rw [hl]; kernel_rfl) rfl (by kernel_rfl) s
/-! ### naskh.naskhref49.Mended: function 13 -/
def r13_0 : List PS := [.mk (some 2) (.assign (.const (.slice none 0 0))) none]
def r13_1 : List PS := [.mk (some 9) (.move (.tmp 0)) none,
  .mk (some 10) (.call ⟨(.value (.func 36)), #[(.tmp 9)], #[22]⟩) none,
  .mk (some 11) (.call ⟨(.value (.func 35)), #[(.tmp 10)], #[22]⟩) none,
  .mk (some 8) (.move (.tmp 11)) none,
  .mk (some 12) (.extract (.tmp 8) 0) none,
  .mk (some 13) (.extract (.tmp 8) 1) none,
  .mk (some 3) (.assign (.tmp 12)) none,
  .mk (some 4) (.assign (.tmp 13)) none]
def r13_2 : List PS := [.mk (some 14) (.move (.tmp 4)) none,
  .mk (some 15) (.binOp .neq 54 (.tmp 14) (.const (.int .i64 0)) 54) none]
def r13_3 : List PS := [.mk (some 2) (.assign (.const (.slice none 0 0))) none]
def r13_4 : List PS := [.mk (some 16) (.move (.tmp 3)) none,
  .mk (some 17) (.call ⟨(.value (.func 38)), #[(.tmp 16)], #[75]⟩) none,
  .mk (some 18) (.call ⟨(.value (.func 37)), #[(.tmp 17)], #[22]⟩) none,
  .mk (some 5) (.assign (.tmp 18)) none]
def r13_5 : List PS := [.mk (some 6) (.assign (.const (.slice none 0 0))) none]
def r13_6 : List PS := [.mk (some 7) (.assign (.const (.int .i64 0))) none]
def r13_7 : List PS := [.mk (some 19) (.move (.tmp 7)) none,
  .mk (some 20) (.move (.tmp 5)) none,
  .mk (some 21) (.call ⟨(.builtin .len), #[(.tmp 20)], #[22]⟩) none,
  .mk (some 22) (.binOp .lss 3 (.tmp 19) (.tmp 21) 3) none]
def r13_8 : List PS := [.mk (some 25) (.move (.tmp 5)) none,
  .mk (some 26) (.move (.tmp 7)) none,
  .mk (some 27) (.call ⟨(.value (.func 39)), #[(.tmp 25), (.tmp 26)], #[22, 3]⟩) none,
  .mk (some 28) (.unOp .not 4 (.tmp 27)) none]
def r13_9 : List PS := [.mk (some 29) (.move (.tmp 6)) none,
  .mk (some 30) (.move (.tmp 5)) none,
  .mk (some 31) (.move (.tmp 7)) none,
  .mk (some 32) (.indexAddr 22 (.tmp 30) (.tmp 31)) none,
  .mk (some 33) (.load 3 (.tmp 32)) none,
  .mk (some 34) (.buildSlice 22 1 #[(0, (.tmp 33))]) none,
  .mk (some 35) (.call ⟨(.builtin .append), #[(.tmp 29), (.tmp 34)], #[22, 22]⟩) none,
  .mk (some 6) (.assign (.tmp 35)) none]
def r13_10 : List PS := [.mk (some 23) (.move (.tmp 7)) none,
  .mk (some 24) (.binOp .add 3 (.tmp 23) (.const (.int .i64 1)) 3) none,
  .mk (some 7) (.assign (.tmp 24)) none]
def r13_11 : List PS := [.mk (some 36) (.move (.tmp 6)) none,
  .mk (some 2) (.assign (.tmp 36)) none]
def c13 : PC := (.seq (.reg false r13_0) (.seq (.reg false r13_1) (.seq (.seq (.reg false r13_2) (.cond (.tmp 15) (.seq (.reg false r13_3) .ret) .skip)) (.seq (.reg false r13_4) (.seq (.reg false r13_5) (.seq (.seq (.reg false r13_6) (.block 0 (.loop (.seq (.seq (.reg false r13_7) (.cond (.tmp 22) .skip (.exit 0))) (.seq (.block 1 (.seq (.reg false r13_8) (.cond (.tmp 28) (.reg false r13_9) .skip))) (.reg false r13_10)))))) (.seq (.reg false r13_11) .ret)))))))
theorem e13 (hl : args.length = 1) (s : pwp Tryz.prog [] c13 (fin Tryz.prog [.tmp 2] h K) (slots0 (olds args)) h) : CanP Tryz.prog 13 args h K :=
  can_of2 (n := 37) mixed Tryz.func13 rfl (by kernel_rfl) (by rw [hl]; kernel_rfl) rfl (by kernel_rfl) s
/-! ### naskh.naskhlaw49.LintMends: function 4 -/
def r4_0 : List PS := [.mk (some 2) (.assign (.const (.bool false))) none]
def r4_1 : List PS := [.mk (some 3) (.move (.tmp 0)) none,
  .mk (some 4) (.call ⟨(.builtin .len), #[(.tmp 3)], #[22]⟩) none,
  .mk (some 5) (.binOp .gtr 3 (.tmp 4) (.const (.int .i64 60)) 3) none]
def r4_2 : List PS := [.mk (some 6) (.call ⟨(.value (.func 6)), #[], #[]⟩) none,
  .mk (some 2) (.assign (.tmp 6)) none]
def r4_3 : List PS := [.mk (some 7) (.call ⟨(.value (.func 8)), #[], #[]⟩) none,
  .mk (some 8) (.call ⟨(.value (.func 9)), #[], #[]⟩) none,
  .mk (some 9) (.move (.tmp 0)) none,
  .mk (some 10) (.call ⟨(.value (.func 12)), #[(.tmp 7), (.tmp 8), (.tmp 9)], #[26, 28, 22]⟩) none,
  .mk (some 11) (.move (.tmp 0)) none,
  .mk (some 12) (.call ⟨(.value (.func 13)), #[(.tmp 11)], #[22]⟩) none,
  .mk (some 13) (.call ⟨(.value (.func 11)), #[(.tmp 10), (.tmp 12)], #[22, 22]⟩) none,
  .mk (some 14) (.move (.tmp 13)) none,
  .mk (some 15) (.call ⟨(.value (.func 6)), #[], #[]⟩) (some (14, true)),
  .mk (some 16) (.pick (.tmp 14) (.tmp 15) (.const (.bool false))) none,
  .mk (some 2) (.assign (.tmp 16)) none]
def c4 : PC := (.seq (.reg false r4_0) (.seq (.seq (.reg false r4_1) (.cond (.tmp 5) (.seq (.reg false r4_2) .ret) .skip)) (.seq (.reg false r4_3) .ret)))
theorem e4 (hl : args.length = 1) (s : pwp Tryz.prog [] c4 (fin Tryz.prog [.tmp 2] h K) (slots0 (olds args)) h) : CanP Tryz.prog 4 args h K :=
  can_of2 (n := 17) mixed Tryz.func4 rfl (by kernel_rfl) (by rw [hl]; kernel_rfl) rfl (by kernel_rfl) s
/-! ### naskh.naskhref09.Presented: function 14 -/
def r14_0 : List PS := [.mk (some 2) (.assign (.const (.bool false))) none]
def r14_1 : List PS := [.mk (some 15) (.move (.tmp 0)) none,
  .mk (some 16) (.call ⟨(.value (.func 40)), #[(.tmp 15)], #[3]⟩) none,
  .mk (some 14) (.move (.tmp 16)) none,
  .mk (some 17) (.extract (.tmp 14) 0) none,
  .mk (some 18) (.extract (.tmp 14) 1) none,
  .mk (some 19) (.extract (.tmp 14) 2) none,
  .mk (some 3) (.assign (.tmp 17)) none,
  .mk (some 4) (.assign (.tmp 18)) none,
  .mk (some 5) (.assign (.tmp 19)) none]
def r14_2 : List PS := [.mk (some 21) (.move (.tmp 0)) none,
  .mk (some 22) (.call ⟨(.value (.func 41)), #[(.tmp 21)], #[3]⟩) none,
  .mk (some 20) (.move (.tmp 22)) none,
  .mk (some 23) (.extract (.tmp 20) 0) none,
  .mk (some 24) (.extract (.tmp 20) 1) none,
  .mk (some 25) (.extract (.tmp 20) 2) none,
  .mk (some 6) (.assign (.tmp 23)) none,
  .mk (some 7) (.assign (.tmp 24)) none,
  .mk (some 8) (.assign (.tmp 25)) none]
def r14_3 : List PS := [.mk (some 27) (.move (.tmp 0)) none,
  .mk (some 28) (.call ⟨(.value (.func 42)), #[(.tmp 27)], #[3]⟩) none,
  .mk (some 26) (.move (.tmp 28)) none,
  .mk (some 29) (.extract (.tmp 26) 0) none,
  .mk (some 30) (.extract (.tmp 26) 1) none,
  .mk (some 31) (.extract (.tmp 26) 2) none,
  .mk (some 9) (.assign (.tmp 29)) none,
  .mk (some 10) (.assign (.tmp 30)) none,
  .mk (some 11) (.assign (.tmp 31)) none]
def r14_4 : List PS := [.mk (some 33) (.move (.tmp 0)) none,
  .mk (some 34) (.call ⟨(.value (.func 43)), #[(.tmp 33)], #[3]⟩) none,
  .mk (some 32) (.move (.tmp 34)) none,
  .mk (some 35) (.extract (.tmp 32) 0) none,
  .mk (some 36) (.extract (.tmp 32) 1) none,
  .mk (some 12) (.assign (.tmp 35)) none,
  .mk (some 13) (.assign (.tmp 36)) none]
def r14_5 : List PS := [.mk (some 37) (.move (.tmp 5)) none,
  .mk (some 38) (.move (.tmp 37)) none,
  .mk (some 39) (.move (.tmp 8)) (some (38, false)),
  .mk (some 40) (.pick (.tmp 38) (.const (.bool true)) (.tmp 39)) none,
  .mk (some 41) (.move (.tmp 40)) none,
  .mk (some 42) (.move (.tmp 11)) (some (41, false)),
  .mk (some 43) (.pick (.tmp 41) (.const (.bool true)) (.tmp 42)) none,
  .mk (some 44) (.move (.tmp 43)) none,
  .mk (some 45) (.move (.tmp 13)) (some (44, false)),
  .mk (some 46) (.pick (.tmp 44) (.const (.bool true)) (.tmp 45)) none,
  .mk (some 47) (.move (.tmp 46)) none,
  .mk (some 48) (.move (.tmp 0)) (some (47, false)),
  .mk (some 49) (.binOp .eql 3 (.tmp 48) (.const (.int .i64 65139)) 3) (some (47, false)),
  .mk (some 50) (.pick (.tmp 47) (.const (.bool true)) (.tmp 49)) none,
  .mk (some 2) (.assign (.tmp 50)) none]
def c14 : PC := (.seq (.reg false r14_0) (.seq (.reg false r14_1) (.seq (.reg false r14_2) (.seq (.reg false r14_3) (.seq (.reg false r14_4) (.seq (.reg false r14_5) .ret))))))
theorem e14 (hl : args.length = 1) (s : pwp Tryz.prog [] c14 (fin Tryz.prog [.tmp 2] h K) (slots0 (olds args)) h) : CanP Tryz.prog 14 args h K :=
  can_of2 (n := 51) mixed Tryz.func14 rfl (by kernel_rfl) (by rw [hl]; kernel_rfl) rfl (by kernel_rfl) s
/-! ### naskh.lint.Count: function 15 -/
def r15_0 : List PS := [.mk (some 4) (.assign (.const (.int .i64 0))) none]
def r15_1 : List PS := [.mk (some 5) (.assign (.const (.int .i64 0))) none]
def r15_2 : List PS := [.mk (some 8) (.move (.tmp 0)) none,
  .mk (some 9) (.call ⟨(.builtin .len), #[(.tmp 8)], #[24]⟩) none,
  .mk (some 10) (.move (.const (.int .i64 0))) none]
def r15_3 : List PS := [.mk (some 11) (.binOp .lss 3 (.tmp 10) (.tmp 9) 3) none]
def r15_4 : List PS := [.mk (some 12) (.indexAddr 24 (.tmp 8) (.tmp 10)) none,
  .mk (some 13) (.load 33 (.tmp 12)) none,
  .mk (some 7) (.alloc 33) none,
  .mk none (.store 33 (.tmp 7) (.tmp 13)) none,
  .frz 7]
def r15_5 : List PS := [.mk (some 14) (.move (.tmp 1)) none,
  .mk (some 15) (.call ⟨(.builtin .len), #[(.tmp 14)], #[22]⟩) none,
  .mk (some 16) (.binOp .eql 3 (.tmp 15) (.const (.int .i64 0)) 3) none,
  .mk (some 17) (.move (.tmp 16)) none,
  .mk (some 18) (.move (.tmp 1)) (some (17, false)),
  .mk (some 19) (.fieldAddr 33 (.tmp 7) 1) (some (17, false)),
  .mk (some 20) (.load 3 (.tmp 19)) (some (17, false)),
  .mk (some 21) (.call ⟨(.value (.func 44)), #[(.tmp 18), (.tmp 20)], #[22, 3]⟩) (some (17, false)),
  .mk (some 22) (.pick (.tmp 17) (.const (.bool true)) (.tmp 21)) none]
def r15_6 : List PS := [.mk (some 23) (.move (.tmp 5)) none,
  .mk (some 24) (.binOp .add 3 (.tmp 23) (.const (.int .i64 1)) 3) none,
  .mk (some 5) (.assign (.tmp 24)) none]
def r15_7 : List PS := [.mk (some 25) (.binOp .add 3 (.tmp 10) (.const (.int .i64 1)) 3) none,
  .mk (some 10) (.move (.tmp 25)) none]
def r15_8 : List PS := [.mk (some 26) (.move (.tmp 5)) none,
  .mk (some 4) (.assign (.tmp 26)) none]
def c15 : PC := (.seq (.reg false r15_0) (.seq (.reg false r15_1) (.seq (.seq (.reg false r15_2) (.block 0 (.loop (.seq (.reg false r15_3) (.seq (.cond (.tmp 11) .skip (.exit 0)) (.seq (.block 1 (.seq (.reg false r15_4) (.seq (.reg false r15_5) (.cond (.tmp 22) (.reg false r15_6) .skip)))) (.reg false r15_7))))))) (.seq (.reg false r15_8) .ret))))
theorem e15 (hl : args.length = 2) (s : pwp Tryz.prog [7] c15 (fin Tryz.prog [.tmp 4] h K) (slots0 (olds args)) h) : CanP Tryz.prog 15 args h K :=
  can_of2 (n := 27) mixed Tryz.func15 rfl (by kernel_rfl) (by rw [hl]; kernel_rfl) rfl (by kernel_rfl) s
/-! ### naskh.naskhlaw49.LintDone: function 5 -/
def r5_0 : List PS := [.mk (some 2) (.assign (.const (.bool false))) none]
def r5_1 : List PS := [.mk (some 8) (.move (.tmp 0)) none,
  .mk (some 9) (.call ⟨(.builtin .len), #[(.tmp 8)], #[22]⟩) none,
  .mk (some 10) (.binOp .gtr 3 (.tmp 9) (.const (.int .i64 60)) 3) none]
def r5_2 : List PS := [.mk (some 11) (.call ⟨(.value (.func 6)), #[], #[]⟩) none,
  .mk (some 2) (.assign (.tmp 11)) none]
def r5_3 : List PS := [.mk (some 12) (.call ⟨(.value (.func 8)), #[], #[]⟩) none,
  .mk (some 13) (.call ⟨(.value (.func 9)), #[], #[]⟩) none,
  .mk (some 3) (.assign (.tmp 12)) none,
  .mk (some 4) (.assign (.tmp 13)) none]
def r5_4 : List PS := [.mk (some 14) (.move (.tmp 3)) none,
  .mk (some 15) (.move (.tmp 4)) none,
  .mk (some 16) (.move (.tmp 0)) none,
  .mk (some 17) (.call ⟨(.value (.func 12)), #[(.tmp 14), (.tmp 15), (.tmp 16)], #[26, 28, 22]⟩) none,
  .mk (some 5) (.assign (.tmp 17)) none]
def r5_5 : List PS := [.mk (some 18) (.move (.tmp 5)) none,
  .mk (some 19) (.call ⟨(.builtin .len), #[(.tmp 18)], #[22]⟩) none,
  .mk (some 20) (.move (.const (.int .i64 0))) none]
def r5_6 : List PS := [.mk (some 21) (.binOp .lss 3 (.tmp 20) (.tmp 19) 3) none]
def r5_7 : List PS := [.mk (some 22) (.indexAddr 22 (.tmp 18) (.tmp 20)) none,
  .mk (some 23) (.load 3 (.tmp 22)) none,
  .mk (some 7) (.assign (.tmp 23)) none]
def r5_8 : List PS := [.mk (some 24) (.move (.tmp 7)) none,
  .mk (some 25) (.call ⟨(.value (.func 14)), #[(.tmp 24)], #[3]⟩) none,
  .mk (some 26) (.move (.tmp 25)) none,
  .mk (some 27) (.move (.tmp 7)) (some (26, true)),
  .mk (some 28) (.binOp .neq 3 (.tmp 27) (.const (.int .i64 65139)) 3) (some (26, true)),
  .mk (some 29) (.pick (.tmp 26) (.tmp 28) (.const (.bool false))) none]
def r5_9 : List PS := [.mk (some 2) (.assign (.const (.bool false))) none]
def r5_10 : List PS := [.mk (some 30) (.binOp .add 3 (.tmp 20) (.const (.int .i64 1)) 3) none,
  .mk (some 20) (.move (.tmp 30)) none]
def r5_11 : List PS := [.mk (some 31) (.move (.tmp 3)) none,
  .mk (some 32) (.move (.tmp 4)) none,
  .mk (some 33) (.move (.tmp 5)) none,
  .mk (some 34) (.call ⟨(.value (.func 7)), #[(.tmp 31), (.tmp 32), (.tmp 33)], #[26, 28, 22]⟩) none,
  .mk (some 35) (.buildSlice 22 3 #[(0, (.const (.int .i64 3))), (1, (.const (.int .i64 6))), (2, (.const (.int .i64 8)))]) none,
  .mk (some 36) (.call ⟨(.value (.func 15)), #[(.tmp 34), (.tmp 35)], #[24, 22]⟩) none,
  .mk (some 37) (.binOp .eql 3 (.tmp 36) (.const (.int .i64 0)) 3) none,
  .mk (some 38) (.move (.tmp 37)) none,
  .mk (some 39) (.call ⟨(.value (.func 6)), #[], #[]⟩) (some (38, true)),
  .mk (some 40) (.pick (.tmp 38) (.tmp 39) (.const (.bool false))) none,
  .mk (some 2) (.assign (.tmp 40)) none]
def c5 : PC := (.seq (.reg false r5_0) (.seq (.seq (.reg false r5_1) (.cond (.tmp 10) (.seq (.reg false r5_2) .ret) .skip)) (.seq (.reg false r5_3) (.seq (.reg false r5_4) (.seq (.seq (.reg false r5_5) (.block 0 (.loop (.seq (.reg false r5_6) (.seq (.cond (.tmp 21) .skip (.exit 0)) (.seq (.block 1 (.seq (.reg false r5_7) (.seq (.reg false r5_8) (.cond (.tmp 29) (.seq (.reg false r5_9) .ret) .skip)))) (.reg false r5_10))))))) (.seq (.reg false r5_11) .ret))))))
theorem e5 (hl : args.length = 1) (s : pwp Tryz.prog [] c5 (fin Tryz.prog [.tmp 2] h K) (slots0 (olds args)) h) : CanP Tryz.prog 5 args h K :=
  can_of2 (n := 41) mixed Tryz.func5 rfl (by kernel_rfl) (by rw [hl]; kernel_rfl) rfl (by kernel_rfl) s
end Go.Proofs.YtcgaphmndnmfdaaGreat
