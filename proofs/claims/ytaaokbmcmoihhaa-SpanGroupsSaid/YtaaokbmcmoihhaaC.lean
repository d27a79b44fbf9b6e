/-
  The functions that the statements of this seat reach, told in short, and facts on their types. Printed by this project's own program.
  Conditions: none.
-/
import Derived.Test.YtaaokbmcmoihhaaPmO
import Derived.Test.YtaaokbmcmoihhaaProg
import Derived.KernelRfl
namespace Go.Proofs.Ytaaokbmcmoihhaa
open Go.Pm
set_option maxRecDepth 100000
set_option linter.unusedVariables false
theorem mixed : Try.prog.follows .mixedOrders = true := by kernel_rfl
theorem tag3 : tag Try.prog 3 = some false := by kernel_rfl
theorem tsz3 : tsz Try.prog 3 = some 1 := by kernel_rfl
theorem und3 : und Try.prog 3 = true := by kernel_rfl
theorem ik3 : ik Try.prog 3 = some .i64 := by kernel_rfl
theorem kd3 : kd Try.prog 3 = none := by kernel_rfl
theorem esz3 : esz Try.prog 3 = none := by kernel_rfl
theorem zc3 : zc Try.prog 3 = some [.int .i64 0] := by kernel_rfl
theorem ars3 : ars Try.prog 3 = none := by kernel_rfl
theorem tag4 : tag Try.prog 4 = some false := by kernel_rfl
theorem tsz4 : tsz Try.prog 4 = some 1 := by kernel_rfl
theorem und4 : und Try.prog 4 = true := by kernel_rfl
theorem ik4 : ik Try.prog 4 = none := by kernel_rfl
theorem kd4 : kd Try.prog 4 = some 3 := by kernel_rfl
theorem esz4 : esz Try.prog 4 = none := by kernel_rfl
theorem zc4 : zc Try.prog 4 = some [.bool false] := by kernel_rfl
theorem ars4 : ars Try.prog 4 = none := by kernel_rfl
theorem tag22 : tag Try.prog 22 = some false := by kernel_rfl
theorem tsz22 : tsz Try.prog 22 = some 1 := by kernel_rfl
theorem und22 : und Try.prog 22 = true := by kernel_rfl
theorem ik22 : ik Try.prog 22 = none := by kernel_rfl
theorem kd22 : kd Try.prog 22 = some 1 := by kernel_rfl
theorem esz22 : esz Try.prog 22 = some 2 := by kernel_rfl
theorem elt22 : elt Try.prog 22 = some 26 := by kernel_rfl
theorem zc22 : zc Try.prog 22 = some [.nils] := by kernel_rfl
theorem ars22 : ars Try.prog 22 = none := by kernel_rfl
theorem eli22 : eli Try.prog 22 = some (2, 16, [.int .i64 0, .int .i64 0]) := by kernel_rfl
theorem tag26 : tag Try.prog 26 = some true := by kernel_rfl
theorem tsz26 : tsz Try.prog 26 = some 2 := by kernel_rfl
theorem und26 : und Try.prog 26 = true := by kernel_rfl
theorem ik26 : ik Try.prog 26 = none := by kernel_rfl
theorem kd26 : kd Try.prog 26 = some 12 := by kernel_rfl
theorem esz26 : esz Try.prog 26 = none := by kernel_rfl
theorem zc26 : zc Try.prog 26 = some [.int .i64 0, .int .i64 0] := by kernel_rfl
theorem ars26 : ars Try.prog 26 = none := by kernel_rfl
theorem fld26_0 : fld Try.prog 26 0 = some (0, false, 1) := by kernel_rfl
theorem fld26_1 : fld Try.prog 26 1 = some (1, false, 1) := by kernel_rfl
theorem plc26 : plc Try.prog 26 = some fun i => [(0, 1), (1, 1)][i]? := by kernel_rfl
theorem tag27 : tag Try.prog 27 = some false := by kernel_rfl
theorem tsz27 : tsz Try.prog 27 = some 1 := by kernel_rfl
theorem und27 : und Try.prog 27 = true := by kernel_rfl
theorem ik27 : ik Try.prog 27 = none := by kernel_rfl
theorem kd27 : kd Try.prog 27 = some 1 := by kernel_rfl
theorem esz27 : esz Try.prog 27 = some 1 := by kernel_rfl
theorem elt27 : elt Try.prog 27 = some 3 := by kernel_rfl
theorem zc27 : zc Try.prog 27 = some [.nils] := by kernel_rfl
theorem ars27 : ars Try.prog 27 = none := by kernel_rfl
theorem eli27 : eli Try.prog 27 = some (1, 8, [.int .i64 0]) := by kernel_rfl
theorem tag28 : tag Try.prog 28 = some false := by kernel_rfl
theorem tsz28 : tsz Try.prog 28 = some 1 := by kernel_rfl
theorem und28 : und Try.prog 28 = true := by kernel_rfl
theorem ik28 : ik Try.prog 28 = some .i64 := by kernel_rfl
theorem kd28 : kd Try.prog 28 = none := by kernel_rfl
theorem esz28 : esz Try.prog 28 = none := by kernel_rfl
theorem zc28 : zc Try.prog 28 = some [.int .i64 0] := by kernel_rfl
theorem ars28 : ars Try.prog 28 = none := by kernel_rfl
theorem tag34 : tag Try.prog 34 = some false := by kernel_rfl
theorem tsz34 : tsz Try.prog 34 = some 1 := by kernel_rfl
theorem und34 : und Try.prog 34 = true := by kernel_rfl
theorem ik34 : ik Try.prog 34 = none := by kernel_rfl
theorem kd34 : kd Try.prog 34 = none := by kernel_rfl
theorem esz34 : esz Try.prog 34 = none := by kernel_rfl
theorem zc34 : zc Try.prog 34 = some [.nilf] := by kernel_rfl
theorem ars34 : ars Try.prog 34 = none := by kernel_rfl
theorem ft : (tag Try.prog 3 = some false) ∧
    (tsz Try.prog 3 = some 1) ∧
    (und Try.prog 3 = true) ∧
    (ik Try.prog 3 = some .i64) ∧
    (kd Try.prog 3 = none) ∧
    (esz Try.prog 3 = none) ∧
    (zc Try.prog 3 = some [.int .i64 0]) ∧
    (ars Try.prog 3 = none) ∧
    (tag Try.prog 4 = some false) ∧
    (tsz Try.prog 4 = some 1) ∧
    (und Try.prog 4 = true) ∧
    (ik Try.prog 4 = none) ∧
    (kd Try.prog 4 = some 3) ∧
    (esz Try.prog 4 = none) ∧
    (zc Try.prog 4 = some [.bool false]) ∧
    (ars Try.prog 4 = none) ∧
    (tag Try.prog 22 = some false) ∧
    (tsz Try.prog 22 = some 1) ∧
    (und Try.prog 22 = true) ∧
    (ik Try.prog 22 = none) ∧
    (kd Try.prog 22 = some 1) ∧
    (esz Try.prog 22 = some 2) ∧
    (elt Try.prog 22 = some 26) ∧
    (zc Try.prog 22 = some [.nils]) ∧
    (ars Try.prog 22 = none) ∧
    (eli Try.prog 22 = some (2, 16, [.int .i64 0, .int .i64 0])) ∧
    (tag Try.prog 26 = some true) ∧
    (tsz Try.prog 26 = some 2) ∧
    (und Try.prog 26 = true) ∧
    (ik Try.prog 26 = none) ∧
    (kd Try.prog 26 = some 12) ∧
    (esz Try.prog 26 = none) ∧
    (zc Try.prog 26 = some [.int .i64 0, .int .i64 0]) ∧
    (ars Try.prog 26 = none) ∧
    (fld Try.prog 26 0 = some (0, false, 1)) ∧
    (fld Try.prog 26 1 = some (1, false, 1)) ∧
    (plc Try.prog 26 = some fun i => [(0, 1), (1, 1)][i]?) ∧
    (tag Try.prog 27 = some false) ∧
    (tsz Try.prog 27 = some 1) ∧
    (und Try.prog 27 = true) ∧
    (ik Try.prog 27 = none) ∧
    (kd Try.prog 27 = some 1) ∧
    (esz Try.prog 27 = some 1) ∧
    (elt Try.prog 27 = some 3) ∧
    (zc Try.prog 27 = some [.nils]) ∧
    (ars Try.prog 27 = none) ∧
    (eli Try.prog 27 = some (1, 8, [.int .i64 0])) ∧
    (tag Try.prog 28 = some false) ∧
    (tsz Try.prog 28 = some 1) ∧
    (und Try.prog 28 = true) ∧
    (ik Try.prog 28 = some .i64) ∧
    (kd Try.prog 28 = none) ∧
    (esz Try.prog 28 = none) ∧
    (zc Try.prog 28 = some [.int .i64 0]) ∧
    (ars Try.prog 28 = none) ∧
    (tag Try.prog 34 = some false) ∧
    (tsz Try.prog 34 = some 1) ∧
    (und Try.prog 34 = true) ∧
    (ik Try.prog 34 = none) ∧
    (kd Try.prog 34 = none) ∧
    (esz Try.prog 34 = none) ∧
    (zc Try.prog 34 = some [.nilf]) ∧
    (ars Try.prog 34 = none) :=
  ⟨tag3, tsz3, und3, ik3, kd3, esz3, zc3, ars3, tag4, tsz4, und4, ik4, kd4, esz4, zc4, ars4, tag22, tsz22, und22, ik22, kd22, esz22, elt22, zc22, ars22, eli22, tag26, tsz26, und26, ik26, kd26, esz26, zc26, ars26, fld26_0, fld26_1, plc26, tag27, tsz27, und27, ik27, kd27, esz27, elt27, zc27, ars27, eli27, tag28, tsz28, und28, ik28, kd28, esz28, zc28, ars28, tag34, tsz34, und34, ik34, kd34, esz34, zc34, ars34⟩
/-! ### naskh.span.Right: function 13 -/
def r13_0 : List PS := [.mk (some 1) (.box 26 (.tmp 0)) none,
  .mk (some 2) (.assign (.const (.bool false))) none]
def r13_1 : List PS := [.mk (some 3) (.fieldAddr 26 (.tmp 1) 0) none,
  .mk (some 4) (.load 3 (.tmp 3)) none,
  .mk (some 5) (.binOp .leq 3 (.const (.int .i64 0)) (.tmp 4) 3) none,
  .mk (some 6) (.move (.tmp 5)) none,
  .mk (some 7) (.fieldAddr 26 (.tmp 1) 0) (some (6, true)),
  .mk (some 8) (.load 3 (.tmp 7)) (some (6, true)),
  .mk (some 9) (.fieldAddr 26 (.tmp 1) 1) (some (6, true)),
  .mk (some 10) (.load 3 (.tmp 9)) (some (6, true)),
  .mk (some 11) (.binOp .lss 3 (.tmp 8) (.tmp 10) 3) (some (6, true)),
  .mk (some 12) (.pick (.tmp 6) (.tmp 11) (.const (.bool false))) none,
  .mk (some 2) (.assign (.tmp 12)) none]
def c13 : PC := (.seq (.reg false r13_0) (.seq (.reg false r13_1) .ret))
theorem e13 {args : List PV} {h : Heap} {K : PV → Heap → Prop} (hl : args.length = 1) (s : pwp Try.prog [] c13 (fin Try.prog [.tmp 2] h K) (slots0 (olds args)) h) : CanP Try.prog 13 args h K :=
  can_of2 (n := 13) mixed Try.func13 rfl (by kernel_rfl) (by rw [hl]; kernel_rfl) rfl (by kernel_rfl) s
/-! ### naskh.span.Parts: function 7 -/
def r7_0 : List PS := [.mk (some 4) (.assign (.const (.bool false))) none]
def r7_1 : List PS := [.mk (some 5) (.assign (.const (.int .i64 0))) none]
def r7_2 : List PS := [.mk (some 8) (.move (.tmp 0)) none,
  .mk (some 9) (.call ⟨(.builtin .len), #[(.tmp 8)], #[22]⟩) none,
  .mk (some 10) (.move (.const (.int .i64 0))) none]
def r7_3 : List PS := [.mk (some 11) (.binOp .lss 3 (.tmp 10) (.tmp 9) 3) none]
def r7_4 : List PS := [.mk (some 12) (.indexAddr 22 (.tmp 8) (.tmp 10)) none,
  .mk (some 13) (.load 26 (.tmp 12)) none,
  .mk (some 7) (.alloc 26) none,
  .mk none (.store 26 (.tmp 7) (.tmp 13)) none,
  .frz 7]
def r7_5 : List PS := [.mk (some 14) (.fieldAddr 26 (.tmp 7) 0) none,
  .mk (some 15) (.load 3 (.tmp 14)) none,
  .mk (some 16) (.move (.tmp 5)) none,
  .mk (some 17) (.binOp .neq 3 (.tmp 15) (.tmp 16) 3) none,
  .mk (some 18) (.move (.tmp 17)) none,
  .mk (some 19) (.load 26 (.tmp 7)) (some (18, false)),
  .mk (some 20) (.call ⟨(.value (.func 13)), #[(.tmp 19)], #[26]⟩) (some (18, false)),
  .mk (some 21) (.unOp .not 4 (.tmp 20)) (some (18, false)),
  .mk (some 22) (.pick (.tmp 18) (.const (.bool true)) (.tmp 21)) none]
def r7_6 : List PS := [.mk (some 4) (.assign (.const (.bool false))) none]
def r7_7 : List PS := [.mk (some 23) (.fieldAddr 26 (.tmp 7) 1) none,
  .mk (some 24) (.load 3 (.tmp 23)) none,
  .mk (some 5) (.assign (.tmp 24)) none]
def r7_8 : List PS := [.mk (some 25) (.binOp .add 3 (.tmp 10) (.const (.int .i64 1)) 3) none,
  .mk (some 10) (.move (.tmp 25)) none]
def r7_9 : List PS := [.mk (some 26) (.move (.tmp 5)) none,
  .mk (some 27) (.move (.tmp 1)) none,
  .mk (some 28) (.binOp .eql 3 (.tmp 26) (.tmp 27) 3) none,
  .mk (some 4) (.assign (.tmp 28)) none]
def c7 : PC := (.seq (.reg false r7_0) (.seq (.reg false r7_1) (.seq (.seq (.reg false r7_2) (.block 0 (.loop (.seq (.reg false r7_3) (.seq (.cond (.tmp 11) .skip (.exit 0)) (.seq (.block 1 (.seq (.reg false r7_4) (.seq (.seq (.reg false r7_5) (.cond (.tmp 22) (.seq (.reg false r7_6) .ret) .skip)) (.reg false r7_7)))) (.reg false r7_8))))))) (.seq (.reg false r7_9) .ret))))
theorem e7 {args : List PV} {h : Heap} {K : PV → Heap → Prop} (hl : args.length = 2) (s : pwp Try.prog [7] c7 (fin Try.prog [.tmp 4] h K) (slots0 (olds args)) h) : CanP Try.prog 7 args h K :=
  can_of2 (n := 29) mixed Try.func7 rfl (by kernel_rfl) (by rw [hl]; kernel_rfl) rfl (by kernel_rfl) s
/-! ### naskh.naskhref03.Right: function 14 -/
def r14_0 : List PS := [.mk (some 1) (.box 26 (.tmp 0)) none,
  .mk (some 2) (.assign (.const (.bool false))) none]
def r14_1 : List PS := [.mk (some 3) (.fieldAddr 26 (.tmp 1) 0) none,
  .mk (some 4) (.load 3 (.tmp 3)) none,
  .mk (some 5) (.binOp .geq 3 (.tmp 4) (.const (.int .i64 0)) 3) none,
  .mk (some 6) (.move (.tmp 5)) none,
  .mk (some 7) (.fieldAddr 26 (.tmp 1) 0) (some (6, true)),
  .mk (some 8) (.load 3 (.tmp 7)) (some (6, true)),
  .mk (some 9) (.fieldAddr 26 (.tmp 1) 1) (some (6, true)),
  .mk (some 10) (.load 3 (.tmp 9)) (some (6, true)),
  .mk (some 11) (.binOp .lss 3 (.tmp 8) (.tmp 10) 3) (some (6, true)),
  .mk (some 12) (.pick (.tmp 6) (.tmp 11) (.const (.bool false))) none,
  .mk (some 2) (.assign (.tmp 12)) none]
def c14 : PC := (.seq (.reg false r14_0) (.seq (.reg false r14_1) .ret))
theorem e14 {args : List PV} {h : Heap} {K : PV → Heap → Prop} (hl : args.length = 1) (s : pwp Try.prog [] c14 (fin Try.prog [.tmp 2] h K) (slots0 (olds args)) h) : CanP Try.prog 14 args h K :=
  can_of2 (n := 13) mixed Try.func14 rfl (by kernel_rfl) (by rw [hl]; kernel_rfl) rfl (by kernel_rfl) s
/-! ### naskh.naskhref03.Parts: function 8 -/
def r8_0 : List PS := [.mk (some 4) (.assign (.const (.bool false))) none]
def r8_1 : List PS := [.mk (some 5) (.assign (.const (.int .i64 0))) none]
def r8_2 : List PS := [.mk (some 6) (.assign (.const (.int .i64 0))) none]
def r8_3 : List PS := [.mk (some 7) (.move (.tmp 6)) none,
  .mk (some 8) (.move (.tmp 0)) none,
  .mk (some 9) (.call ⟨(.builtin .len), #[(.tmp 8)], #[22]⟩) none,
  .mk (some 10) (.binOp .lss 3 (.tmp 7) (.tmp 9) 3) none]
def r8_4 : List PS := [.mk (some 13) (.move (.tmp 0)) none,
  .mk (some 14) (.move (.tmp 6)) none,
  .mk (some 15) (.indexAddr 22 (.tmp 13) (.tmp 14)) none,
  .mk (some 16) (.load 26 (.tmp 15)) none,
  .mk (some 17) (.call ⟨(.value (.func 14)), #[(.tmp 16)], #[26]⟩) none,
  .mk (some 18) (.unOp .not 4 (.tmp 17)) none,
  .mk (some 19) (.move (.tmp 18)) none,
  .mk (some 20) (.move (.tmp 0)) (some (19, false)),
  .mk (some 21) (.move (.tmp 6)) (some (19, false)),
  .mk (some 22) (.indexAddr 22 (.tmp 20) (.tmp 21)) (some (19, false)),
  .mk (some 23) (.fieldAddr 26 (.tmp 22) 0) (some (19, false)),
  .mk (some 24) (.load 3 (.tmp 23)) (some (19, false)),
  .mk (some 25) (.move (.tmp 5)) (some (19, false)),
  .mk (some 26) (.binOp .neq 3 (.tmp 24) (.tmp 25) 3) (some (19, false)),
  .mk (some 27) (.pick (.tmp 19) (.const (.bool true)) (.tmp 26)) none]
def r8_5 : List PS := [.mk (some 4) (.assign (.const (.bool false))) none]
def r8_6 : List PS := [.mk (some 28) (.move (.tmp 0)) none,
  .mk (some 29) (.move (.tmp 6)) none,
  .mk (some 30) (.indexAddr 22 (.tmp 28) (.tmp 29)) none,
  .mk (some 31) (.fieldAddr 26 (.tmp 30) 1) none,
  .mk (some 32) (.load 3 (.tmp 31)) none,
  .mk (some 5) (.assign (.tmp 32)) none]
def r8_7 : List PS := [.mk (some 11) (.move (.tmp 6)) none,
  .mk (some 12) (.binOp .add 3 (.tmp 11) (.const (.int .i64 1)) 3) none,
  .mk (some 6) (.assign (.tmp 12)) none]
def r8_8 : List PS := [.mk (some 33) (.move (.tmp 5)) none,
  .mk (some 34) (.move (.tmp 1)) none,
  .mk (some 35) (.binOp .eql 3 (.tmp 33) (.tmp 34) 3) none,
  .mk (some 4) (.assign (.tmp 35)) none]
def c8 : PC := (.seq (.reg false r8_0) (.seq (.reg false r8_1) (.seq (.seq (.reg false r8_2) (.block 0 (.loop (.seq (.seq (.reg false r8_3) (.cond (.tmp 10) .skip (.exit 0))) (.seq (.block 1 (.seq (.seq (.reg false r8_4) (.cond (.tmp 27) (.seq (.reg false r8_5) .ret) .skip)) (.reg false r8_6))) (.reg false r8_7)))))) (.seq (.reg false r8_8) .ret))))
theorem e8 {args : List PV} {h : Heap} {K : PV → Heap → Prop} (hl : args.length = 2) (s : pwp Try.prog [] c8 (fin Try.prog [.tmp 4] h K) (slots0 (olds args)) h) : CanP Try.prog 8 args h K :=
  can_of2 (n := 36) mixed Try.func8 rfl (by kernel_rfl) (by rw [hl]; kernel_rfl) rfl (by kernel_rfl) s
/-! ### naskh.span.rises: function 27 -/
def r27_0 : List PS := [.mk (some 2) (.box 26 (.tmp 0)) none,
  .mk (some 4) (.assign (.const (.bool false))) none]
def r27_1 : List PS := [.mk (some 8) (.fieldAddr 26 (.tmp 2) 0) none,
  .mk (some 9) (.load 3 (.tmp 8)) none,
  .mk (some 5) (.assign (.tmp 9)) none]
def r27_2 : List PS := [.mk (some 10) (.move (.tmp 1)) none,
  .mk (some 11) (.call ⟨(.builtin .len), #[(.tmp 10)], #[27]⟩) none,
  .mk (some 12) (.move (.const (.int .i64 0))) none]
def r27_3 : List PS := [.mk (some 13) (.binOp .lss 3 (.tmp 12) (.tmp 11) 3) none]
def r27_4 : List PS := [.mk (some 14) (.indexAddr 27 (.tmp 10) (.tmp 12)) none,
  .mk (some 15) (.load 3 (.tmp 14)) none,
  .mk (some 7) (.assign (.tmp 15)) none]
def r27_5 : List PS := [.mk (some 16) (.move (.tmp 7)) none,
  .mk (some 17) (.move (.tmp 5)) none,
  .mk (some 18) (.binOp .leq 3 (.tmp 16) (.tmp 17) 3) none,
  .mk (some 19) (.move (.tmp 18)) none,
  .mk (some 20) (.move (.tmp 7)) (some (19, false)),
  .mk (some 21) (.fieldAddr 26 (.tmp 2) 1) (some (19, false)),
  .mk (some 22) (.load 3 (.tmp 21)) (some (19, false)),
  .mk (some 23) (.binOp .geq 3 (.tmp 20) (.tmp 22) 3) (some (19, false)),
  .mk (some 24) (.pick (.tmp 19) (.const (.bool true)) (.tmp 23)) none]
def r27_6 : List PS := [.mk (some 4) (.assign (.const (.bool false))) none]
def r27_7 : List PS := [.mk (some 25) (.move (.tmp 7)) none,
  .mk (some 5) (.assign (.tmp 25)) none]
def r27_8 : List PS := [.mk (some 26) (.binOp .add 3 (.tmp 12) (.const (.int .i64 1)) 3) none,
  .mk (some 12) (.move (.tmp 26)) none]
def r27_9 : List PS := [.mk (some 4) (.assign (.const (.bool true))) none]
def c27 : PC := (.seq (.reg false r27_0) (.seq (.reg false r27_1) (.seq (.seq (.reg false r27_2) (.block 0 (.loop (.seq (.reg false r27_3) (.seq (.cond (.tmp 13) .skip (.exit 0)) (.seq (.block 1 (.seq (.reg false r27_4) (.seq (.seq (.reg false r27_5) (.cond (.tmp 24) (.seq (.reg false r27_6) .ret) .skip)) (.reg false r27_7)))) (.reg false r27_8))))))) (.seq (.reg false r27_9) .ret))))
theorem e27 {args : List PV} {h : Heap} {K : PV → Heap → Prop} (hl : args.length = 2) (s : pwp Try.prog [] c27 (fin Try.prog [.tmp 4] h K) (slots0 (olds args)) h) : CanP Try.prog 27 args h K :=
  can_of2 (n := 27) mixed Try.func27 rfl (by kernel_rfl) (by rw [hl]; kernel_rfl) rfl (by kernel_rfl) s
/-! ### naskh.span.Cut: function 10 -/
def r10_0 : List PS := [.mk (some 2) (.box 26 (.tmp 0)) none,
  .mk (some 4) (.assign (.const (.slice none 0 0))) none,
  .mk (some 5) (.assign (.const (.int .i64 0))) none]
def r10_1 : List PS := [.mk (some 9) (.load 26 (.tmp 2)) none,
  .mk (some 10) (.call ⟨(.value (.func 13)), #[(.tmp 9)], #[26]⟩) none,
  .mk (some 11) (.unOp .not 4 (.tmp 10)) none]
def r10_2 : List PS := [.mk (some 4) (.assign (.const (.slice none 0 0))) none,
  .mk (some 5) (.assign (.const (.int .i64 1))) none]
def r10_3 : List PS := [.mk (some 12) (.load 26 (.tmp 2)) none,
  .mk (some 13) (.move (.tmp 1)) none,
  .mk (some 14) (.call ⟨(.value (.func 27)), #[(.tmp 12), (.tmp 13)], #[26, 27]⟩) none,
  .mk (some 15) (.unOp .not 4 (.tmp 14)) none]
def r10_4 : List PS := [.mk (some 4) (.assign (.const (.slice none 0 0))) none,
  .mk (some 5) (.assign (.const (.int .i64 10))) none]
def r10_5 : List PS := [.mk (some 16) (.move (.tmp 1)) none,
  .mk (some 17) (.call ⟨(.builtin .len), #[(.tmp 16)], #[27]⟩) none,
  .mk (some 18) (.binOp .add 3 (.tmp 17) (.const (.int .i64 1)) 3) none,
  .mk (some 19) (.makeSlice 22 (.const (.int .i64 0)) (.tmp 18)) none,
  .mk (some 6) (.assign (.tmp 19)) none]
def r10_6 : List PS := [.mk (some 20) (.move (.tmp 1)) none,
  .mk (some 21) (.call ⟨(.builtin .len), #[(.tmp 20)], #[27]⟩) none,
  .mk (some 22) (.move (.const (.int .i64 0))) none]
def r10_7 : List PS := [.mk (some 23) (.binOp .lss 3 (.tmp 22) (.tmp 21) 3) none]
def r10_8 : List PS := [.mk (some 24) (.indexAddr 27 (.tmp 20) (.tmp 22)) none,
  .mk (some 25) (.load 3 (.tmp 24)) none,
  .mk (some 8) (.assign (.tmp 25)) none]
def r10_9 : List PS := [.mk (some 26) (.move (.tmp 6)) none,
  .mk (some 27) (.fieldAddr 26 (.tmp 2) 0) none,
  .mk (some 28) (.load 3 (.tmp 27)) none,
  .mk (some 29) (.move (.tmp 8)) none,
  .mk (some 30) (.build 26 #[(0, (.tmp 28)), (1, (.tmp 29))]) none,
  .mk (some 31) (.buildSlice 22 1 #[(0, (.tmp 30))]) none,
  .mk (some 32) (.call ⟨(.builtin .append), #[(.tmp 26), (.tmp 31)], #[22, 22]⟩) none,
  .mk (some 6) (.assign (.tmp 32)) none]
def r10_10 : List PS := [.mk (some 33) (.move (.tmp 8)) none,
  .mk (some 34) (.fieldAddr 26 (.tmp 2) 0) none,
  .mk none (.store 3 (.tmp 34) (.tmp 33)) none]
def r10_11 : List PS := [.mk (some 35) (.binOp .add 3 (.tmp 22) (.const (.int .i64 1)) 3) none,
  .mk (some 22) (.move (.tmp 35)) none]
def r10_12 : List PS := [.mk (some 36) (.move (.tmp 6)) none,
  .mk (some 37) (.load 26 (.tmp 2)) none,
  .mk (some 38) (.buildSlice 22 1 #[(0, (.tmp 37))]) none,
  .mk (some 39) (.call ⟨(.builtin .append), #[(.tmp 36), (.tmp 38)], #[22, 22]⟩) none,
  .mk (some 4) (.assign (.tmp 39)) none,
  .mk (some 5) (.assign (.const (.int .i64 0))) none]
def c10 : PC := (.seq (.reg false r10_0) (.seq (.seq (.reg false r10_1) (.cond (.tmp 11) (.seq (.reg false r10_2) .ret) .skip)) (.seq (.seq (.reg false r10_3) (.cond (.tmp 15) (.seq (.reg false r10_4) .ret) .skip)) (.seq (.reg false r10_5) (.seq (.seq (.reg false r10_6) (.block 0 (.loop (.seq (.reg false r10_7) (.seq (.cond (.tmp 23) .skip (.exit 0)) (.seq (.block 1 (.seq (.reg false r10_8) (.seq (.reg false r10_9) (.reg false r10_10)))) (.reg false r10_11))))))) (.seq (.reg false r10_12) .ret))))))
theorem e10 {args : List PV} {h : Heap} {K : PV → Heap → Prop} (hl : args.length = 2) (s : pwp Try.prog [2] c10 (fin Try.prog [.tmp 4, .tmp 5] h K) (slots0 (olds args)) h) : CanP Try.prog 10 args h K :=
  can_of2 (n := 40) mixed Try.func10 rfl (by kernel_rfl) (by rw [hl]; kernel_rfl) rfl (by kernel_rfl) s
/-! ### naskh.span.Size: function 15 -/
def r15_0 : List PS := [.mk (some 1) (.box 26 (.tmp 0)) none,
  .mk (some 2) (.assign (.const (.int .i64 0))) none]
def r15_1 : List PS := [.mk (some 3) (.load 26 (.tmp 1)) none,
  .mk (some 4) (.call ⟨(.value (.func 13)), #[(.tmp 3)], #[26]⟩) none]
def r15_2 : List PS := [.mk (some 5) (.fieldAddr 26 (.tmp 1) 1) none,
  .mk (some 6) (.load 3 (.tmp 5)) none,
  .mk (some 7) (.fieldAddr 26 (.tmp 1) 0) none,
  .mk (some 8) (.load 3 (.tmp 7)) none,
  .mk (some 9) (.binOp .sub 3 (.tmp 6) (.tmp 8) 3) none,
  .mk (some 2) (.assign (.tmp 9)) none]
def r15_3 : List PS := [.mk (some 2) (.assign (.const (.int .i64 0))) none]
def c15 : PC := (.seq (.reg false r15_0) (.seq (.seq (.reg false r15_1) (.cond (.tmp 4) (.seq (.reg false r15_2) .ret) .skip)) (.seq (.reg false r15_3) .ret)))
theorem e15 {args : List PV} {h : Heap} {K : PV → Heap → Prop} (hl : args.length = 1) (s : pwp Try.prog [] c15 (fin Try.prog [.tmp 2] h K) (slots0 (olds args)) h) : CanP Try.prog 15 args h K :=
  can_of2 (n := 10) mixed Try.func15 rfl (by kernel_rfl) (by rw [hl]; kernel_rfl) rfl (by kernel_rfl) s
/-! ### naskh.span.Has: function 17 -/
def r17_0 : List PS := [.mk (some 2) (.box 26 (.tmp 0)) none,
  .mk (some 4) (.assign (.const (.bool false))) none]
def r17_1 : List PS := [.mk (some 5) (.fieldAddr 26 (.tmp 2) 0) none,
  .mk (some 6) (.load 3 (.tmp 5)) none,
  .mk (some 7) (.move (.tmp 1)) none,
  .mk (some 8) (.binOp .leq 3 (.tmp 6) (.tmp 7) 3) none,
  .mk (some 9) (.move (.tmp 8)) none,
  .mk (some 10) (.move (.tmp 1)) (some (9, true)),
  .mk (some 11) (.fieldAddr 26 (.tmp 2) 1) (some (9, true)),
  .mk (some 12) (.load 3 (.tmp 11)) (some (9, true)),
  .mk (some 13) (.binOp .lss 3 (.tmp 10) (.tmp 12) 3) (some (9, true)),
  .mk (some 14) (.pick (.tmp 9) (.tmp 13) (.const (.bool false))) none,
  .mk (some 4) (.assign (.tmp 14)) none]
def c17 : PC := (.seq (.reg false r17_0) (.seq (.reg false r17_1) .ret))
theorem e17 {args : List PV} {h : Heap} {K : PV → Heap → Prop} (hl : args.length = 2) (s : pwp Try.prog [] c17 (fin Try.prog [.tmp 4] h K) (slots0 (olds args)) h) : CanP Try.prog 17 args h K :=
  can_of2 (n := 15) mixed Try.func17 rfl (by kernel_rfl) (by rw [hl]; kernel_rfl) rfl (by kernel_rfl) s
/-! ### naskh.naskhlaw03.awake: function 9 -/
def r9_0 : List PS := [.mk (some 0) (.assign (.const (.bool false))) none]
def r9_1 : List PS := [.mk (some 4) (.build 26 #[(1, (.const (.int .i64 5)))]) none,
  .mk (some 5) (.buildSlice 27 2 #[(0, (.const (.int .i64 2))), (1, (.const (.int .i64 3)))]) none,
  .mk (some 6) (.call ⟨(.value (.func 10)), #[(.tmp 4), (.tmp 5)], #[26, 27]⟩) none,
  .mk (some 3) (.move (.tmp 6)) none,
  .mk (some 7) (.extract (.tmp 3) 0) none,
  .mk (some 8) (.extract (.tmp 3) 1) none,
  .mk (some 1) (.assign (.tmp 7)) none,
  .mk (some 2) (.assign (.tmp 8)) none]
def r9_2 : List PS := [.mk (some 9) (.move (.tmp 2)) none,
  .mk (some 10) (.binOp .eql 28 (.tmp 9) (.const (.int .i64 0)) 28) none,
  .mk (some 11) (.move (.tmp 10)) none,
  .mk (some 12) (.move (.tmp 1)) (some (11, true)),
  .mk (some 13) (.call ⟨(.builtin .len), #[(.tmp 12)], #[22]⟩) (some (11, true)),
  .mk (some 14) (.binOp .eql 3 (.tmp 13) (.const (.int .i64 3)) 3) (some (11, true)),
  .mk (some 15) (.pick (.tmp 11) (.tmp 14) (.const (.bool false))) none,
  .mk (some 16) (.move (.tmp 15)) none,
  .mk (some 17) (.move (.tmp 1)) (some (16, true)),
  .mk (some 18) (.call ⟨(.value (.func 7)), #[(.tmp 17), (.const (.int .i64 5))], #[22, 3]⟩) (some (16, true)),
  .mk (some 19) (.pick (.tmp 16) (.tmp 18) (.const (.bool false))) none,
  .mk (some 20) (.move (.tmp 19)) none,
  .mk (some 21) (.move (.tmp 1)) (some (20, true)),
  .mk (some 22) (.indexAddr 22 (.tmp 21) (.const (.int .i64 1))) (some (20, true)),
  .mk (some 23) (.load 26 (.tmp 22)) (some (20, true)),
  .mk (some 24) (.call ⟨(.value (.func 17)), #[(.tmp 23), (.const (.int .i64 2))], #[26, 3]⟩) (some (20, true)),
  .mk (some 25) (.pick (.tmp 20) (.tmp 24) (.const (.bool false))) none,
  .mk (some 26) (.move (.tmp 25)) none,
  .mk (some 27) (.move (.tmp 1)) (some (26, true)),
  .mk (some 28) (.indexAddr 22 (.tmp 27) (.const (.int .i64 2))) (some (26, true)),
  .mk (some 29) (.load 26 (.tmp 28)) (some (26, true)),
  .mk (some 30) (.call ⟨(.value (.func 15)), #[(.tmp 29)], #[26]⟩) (some (26, true)),
  .mk (some 31) (.binOp .eql 3 (.tmp 30) (.const (.int .i64 2)) 3) (some (26, true)),
  .mk (some 32) (.pick (.tmp 26) (.tmp 31) (.const (.bool false))) none,
  .mk (some 0) (.assign (.tmp 32)) none]
def c9 : PC := (.seq (.reg false r9_0) (.seq (.reg false r9_1) (.seq (.reg false r9_2) .ret)))
theorem e9 {args : List PV} {h : Heap} {K : PV → Heap → Prop} (hl : args.length = 0) (s : pwp Try.prog [] c9 (fin Try.prog [.tmp 0] h K) (slots0 (olds args)) h) : CanP Try.prog 9 args h K :=
  can_of2 (n := 33) mixed Try.func9 rfl (by kernel_rfl) (by rw [hl]; kernel_rfl) rfl (by kernel_rfl) s
/-! ### naskh.naskhlaw03.SpanParts: function 3 -/
def r3_0 : List PS := [.mk (some 4) (.assign (.const (.bool false))) none]
def r3_1 : List PS := [.mk (some 5) (.move (.tmp 0)) none,
  .mk (some 6) (.move (.tmp 1)) none,
  .mk (some 7) (.call ⟨(.value (.func 7)), #[(.tmp 5), (.tmp 6)], #[22, 3]⟩) none,
  .mk (some 8) (.move (.tmp 0)) none,
  .mk (some 9) (.move (.tmp 1)) none,
  .mk (some 10) (.call ⟨(.value (.func 8)), #[(.tmp 8), (.tmp 9)], #[22, 3]⟩) none,
  .mk (some 11) (.binOp .eql 4 (.tmp 7) (.tmp 10) 4) none,
  .mk (some 12) (.move (.tmp 11)) none,
  .mk (some 13) (.call ⟨(.value (.func 9)), #[], #[]⟩) (some (12, true)),
  .mk (some 14) (.pick (.tmp 12) (.tmp 13) (.const (.bool false))) none,
  .mk (some 4) (.assign (.tmp 14)) none]
def c3 : PC := (.seq (.reg false r3_0) (.seq (.reg false r3_1) .ret))
theorem e3 {args : List PV} {h : Heap} {K : PV → Heap → Prop} (hl : args.length = 2) (s : pwp Try.prog [] c3 (fin Try.prog [.tmp 4] h K) (slots0 (olds args)) h) : CanP Try.prog 3 args h K :=
  can_of2 (n := 15) mixed Try.func3 rfl (by kernel_rfl) (by rw [hl]; kernel_rfl) rfl (by kernel_rfl) s
/-! ### naskh.naskhref03.Cut: function 11 -/
def r11_0 : List PS := [.mk (some 2) (.box 26 (.tmp 0)) none,
  .mk (some 4) (.assign (.const (.slice none 0 0))) none,
  .mk (some 5) (.assign (.const (.int .i64 0))) none]
def r11_1 : List PS := [.mk (some 9) (.load 26 (.tmp 2)) none,
  .mk (some 10) (.call ⟨(.value (.func 14)), #[(.tmp 9)], #[26]⟩) none,
  .mk (some 11) (.unOp .not 4 (.tmp 10)) none]
def r11_2 : List PS := [.mk (some 4) (.assign (.const (.slice none 0 0))) none,
  .mk (some 5) (.assign (.const (.int .i64 1))) none]
def r11_3 : List PS := [.mk (some 6) (.assign (.const (.slice none 0 0))) none]
def r11_4 : List PS := [.mk (some 12) (.fieldAddr 26 (.tmp 2) 0) none,
  .mk (some 13) (.load 3 (.tmp 12)) none,
  .mk (some 7) (.assign (.tmp 13)) none]
def r11_5 : List PS := [.mk (some 8) (.assign (.const (.int .i64 0))) none]
def r11_6 : List PS := [.mk (some 14) (.move (.tmp 8)) none,
  .mk (some 15) (.move (.tmp 1)) none,
  .mk (some 16) (.call ⟨(.builtin .len), #[(.tmp 15)], #[27]⟩) none,
  .mk (some 17) (.binOp .lss 3 (.tmp 14) (.tmp 16) 3) none]
def r11_7 : List PS := [.mk (some 20) (.move (.tmp 1)) none,
  .mk (some 21) (.move (.tmp 8)) none,
  .mk (some 22) (.indexAddr 27 (.tmp 20) (.tmp 21)) none,
  .mk (some 23) (.load 3 (.tmp 22)) none,
  .mk (some 24) (.move (.tmp 7)) none,
  .mk (some 25) (.binOp .leq 3 (.tmp 23) (.tmp 24) 3) none,
  .mk (some 26) (.move (.tmp 25)) none,
  .mk (some 27) (.move (.tmp 1)) (some (26, false)),
  .mk (some 28) (.move (.tmp 8)) (some (26, false)),
  .mk (some 29) (.indexAddr 27 (.tmp 27) (.tmp 28)) (some (26, false)),
  .mk (some 30) (.load 3 (.tmp 29)) (some (26, false)),
  .mk (some 31) (.fieldAddr 26 (.tmp 2) 1) (some (26, false)),
  .mk (some 32) (.load 3 (.tmp 31)) (some (26, false)),
  .mk (some 33) (.binOp .geq 3 (.tmp 30) (.tmp 32) 3) (some (26, false)),
  .mk (some 34) (.pick (.tmp 26) (.const (.bool true)) (.tmp 33)) none]
def r11_8 : List PS := [.mk (some 4) (.assign (.const (.slice none 0 0))) none,
  .mk (some 5) (.assign (.const (.int .i64 10))) none]
def r11_9 : List PS := [.mk (some 35) (.move (.tmp 6)) none,
  .mk (some 36) (.move (.tmp 7)) none,
  .mk (some 37) (.move (.tmp 1)) none,
  .mk (some 38) (.move (.tmp 8)) none,
  .mk (some 39) (.indexAddr 27 (.tmp 37) (.tmp 38)) none,
  .mk (some 40) (.load 3 (.tmp 39)) none,
  .mk (some 41) (.build 26 #[(0, (.tmp 36)), (1, (.tmp 40))]) none,
  .mk (some 42) (.buildSlice 22 1 #[(0, (.tmp 41))]) none,
  .mk (some 43) (.call ⟨(.builtin .append), #[(.tmp 35), (.tmp 42)], #[22, 22]⟩) none,
  .mk (some 6) (.assign (.tmp 43)) none]
def r11_10 : List PS := [.mk (some 44) (.move (.tmp 1)) none,
  .mk (some 45) (.move (.tmp 8)) none,
  .mk (some 46) (.indexAddr 27 (.tmp 44) (.tmp 45)) none,
  .mk (some 47) (.load 3 (.tmp 46)) none,
  .mk (some 7) (.assign (.tmp 47)) none]
def r11_11 : List PS := [.mk (some 18) (.move (.tmp 8)) none,
  .mk (some 19) (.binOp .add 3 (.tmp 18) (.const (.int .i64 1)) 3) none,
  .mk (some 8) (.assign (.tmp 19)) none]
def r11_12 : List PS := [.mk (some 48) (.move (.tmp 6)) none,
  .mk (some 49) (.move (.tmp 7)) none,
  .mk (some 50) (.fieldAddr 26 (.tmp 2) 1) none,
  .mk (some 51) (.load 3 (.tmp 50)) none,
  .mk (some 52) (.build 26 #[(0, (.tmp 49)), (1, (.tmp 51))]) none,
  .mk (some 53) (.buildSlice 22 1 #[(0, (.tmp 52))]) none,
  .mk (some 54) (.call ⟨(.builtin .append), #[(.tmp 48), (.tmp 53)], #[22, 22]⟩) none,
  .mk (some 4) (.assign (.tmp 54)) none,
  .mk (some 5) (.assign (.const (.int .i64 0))) none]
def c11 : PC := (.seq (.reg false r11_0) (.seq (.seq (.reg false r11_1) (.cond (.tmp 11) (.seq (.reg false r11_2) .ret) .skip)) (.seq (.reg false r11_3) (.seq (.reg false r11_4) (.seq (.seq (.reg false r11_5) (.block 0 (.loop (.seq (.seq (.reg false r11_6) (.cond (.tmp 17) .skip (.exit 0))) (.seq (.block 1 (.seq (.seq (.reg true r11_7) (.cond (.tmp 34) (.seq (.reg false r11_8) .ret) .skip)) (.seq (.reg false r11_9) (.reg false r11_10)))) (.reg false r11_11)))))) (.seq (.reg false r11_12) .ret))))))
theorem e11 {args : List PV} {h : Heap} {K : PV → Heap → Prop} (hl : args.length = 2) (s : pwp Try.prog [] c11 (fin Try.prog [.tmp 4, .tmp 5] h K) (slots0 (olds args)) h) : CanP Try.prog 11 args h K :=
  can_of2 (n := 55) mixed Try.func11 rfl (by kernel_rfl) (by rw [hl]; kernel_rfl) rfl (by kernel_rfl) s
/-! ### slices.Equal[[]naskh.api.Span,naskh.api.Span]: function 12 -/
def r12_0 : List PS := [.mk (some 4) (.assign (.const (.bool false))) none]
def r12_1 : List PS := [.mk (some 6) (.move (.tmp 0)) none,
  .mk (some 7) (.call ⟨(.builtin .len), #[(.tmp 6)], #[22]⟩) none,
  .mk (some 8) (.move (.tmp 1)) none,
  .mk (some 9) (.call ⟨(.builtin .len), #[(.tmp 8)], #[22]⟩) none,
  .mk (some 10) (.binOp .neq 3 (.tmp 7) (.tmp 9) 3) none]
def r12_2 : List PS := [.mk (some 4) (.assign (.const (.bool false))) none]
def r12_3 : List PS := [.mk (some 11) (.move (.tmp 0)) none,
  .mk (some 12) (.call ⟨(.builtin .len), #[(.tmp 11)], #[22]⟩) none,
  .mk (some 13) (.move (.const (.int .i64 0))) none]
def r12_4 : List PS := [.mk (some 14) (.binOp .lss 3 (.tmp 13) (.tmp 12) 3) none]
def r12_5 : List PS := [.mk (some 15) (.move (.tmp 13)) none,
  .mk (some 5) (.assign (.tmp 15)) none]
def r12_6 : List PS := [.mk (some 16) (.move (.tmp 0)) none,
  .mk (some 17) (.move (.tmp 5)) none,
  .mk (some 18) (.indexAddr 22 (.tmp 16) (.tmp 17)) none,
  .mk (some 19) (.load 26 (.tmp 18)) none,
  .mk (some 20) (.move (.tmp 1)) none,
  .mk (some 21) (.move (.tmp 5)) none,
  .mk (some 22) (.indexAddr 22 (.tmp 20) (.tmp 21)) none,
  .mk (some 23) (.load 26 (.tmp 22)) none,
  .mk (some 24) (.binOp .neq 26 (.tmp 19) (.tmp 23) 26) none]
def r12_7 : List PS := [.mk (some 4) (.assign (.const (.bool false))) none]
def r12_8 : List PS := [.mk (some 25) (.binOp .add 3 (.tmp 13) (.const (.int .i64 1)) 3) none,
  .mk (some 13) (.move (.tmp 25)) none]
def r12_9 : List PS := [.mk (some 4) (.assign (.const (.bool true))) none]
def c12 : PC := (.seq (.reg false r12_0) (.seq (.seq (.reg false r12_1) (.cond (.tmp 10) (.seq (.reg false r12_2) .ret) .skip)) (.seq (.seq (.reg false r12_3) (.block 0 (.loop (.seq (.reg false r12_4) (.seq (.cond (.tmp 14) .skip (.exit 0)) (.seq (.block 1 (.seq (.reg false r12_5) (.seq (.reg true r12_6) (.cond (.tmp 24) (.seq (.reg false r12_7) .ret) .skip)))) (.reg false r12_8))))))) (.seq (.reg false r12_9) .ret))))
theorem e12 {args : List PV} {h : Heap} {K : PV → Heap → Prop} (hl : args.length = 2) (s : pwp Try.prog [] c12 (fin Try.prog [.tmp 4] h K) (slots0 (olds args)) h) : CanP Try.prog 12 args h K :=
  can_of2 (n := 26) mixed Try.func12 rfl (by kernel_rfl) (by rw [hl]; kernel_rfl) rfl (by kernel_rfl) s
/-! ### naskh.naskhlaw03.SpanCuts: function 4 -/
def r4_0 : List PS := [.mk (some 2) (.box 26 (.tmp 0)) none,
  .mk (some 4) (.assign (.const (.bool false))) none]
def r4_1 : List PS := [.mk (some 9) (.move (.tmp 1)) none,
  .mk (some 10) (.call ⟨(.builtin .len), #[(.tmp 9)], #[27]⟩) none,
  .mk (some 11) (.binOp .gtr 3 (.tmp 10) (.const (.int .i64 200)) 3) none]
def r4_2 : List PS := [.mk (some 12) (.call ⟨(.value (.func 9)), #[], #[]⟩) none,
  .mk (some 4) (.assign (.tmp 12)) none]
def r4_3 : List PS := [.mk (some 14) (.load 26 (.tmp 2)) none,
  .mk (some 15) (.move (.tmp 1)) none,
  .mk (some 16) (.call ⟨(.value (.func 10)), #[(.tmp 14), (.tmp 15)], #[26, 27]⟩) none,
  .mk (some 13) (.move (.tmp 16)) none,
  .mk (some 17) (.extract (.tmp 13) 0) none,
  .mk (some 18) (.extract (.tmp 13) 1) none,
  .mk (some 5) (.assign (.tmp 17)) none,
  .mk (some 6) (.assign (.tmp 18)) none]
def r4_4 : List PS := [.mk (some 20) (.load 26 (.tmp 2)) none,
  .mk (some 21) (.move (.tmp 1)) none,
  .mk (some 22) (.call ⟨(.value (.func 11)), #[(.tmp 20), (.tmp 21)], #[26, 27]⟩) none,
  .mk (some 19) (.move (.tmp 22)) none,
  .mk (some 23) (.extract (.tmp 19) 0) none,
  .mk (some 24) (.extract (.tmp 19) 1) none,
  .mk (some 7) (.assign (.tmp 23)) none,
  .mk (some 8) (.assign (.tmp 24)) none]
def r4_5 : List PS := [.mk (some 25) (.move (.tmp 6)) none,
  .mk (some 26) (.move (.tmp 8)) none,
  .mk (some 27) (.binOp .neq 28 (.tmp 25) (.tmp 26) 28) none,
  .mk (some 28) (.move (.tmp 27)) none,
  .mk (some 29) (.move (.tmp 5)) (some (28, false)),
  .mk (some 30) (.move (.tmp 7)) (some (28, false)),
  .mk (some 31) (.call ⟨(.value (.func 12)), #[(.tmp 29), (.tmp 30)], #[22, 22]⟩) (some (28, false)),
  .mk (some 32) (.unOp .not 4 (.tmp 31)) (some (28, false)),
  .mk (some 33) (.pick (.tmp 28) (.const (.bool true)) (.tmp 32)) none]
def r4_6 : List PS := [.mk (some 4) (.assign (.const (.bool false))) none]
def r4_7 : List PS := [.mk (some 34) (.move (.tmp 6)) none,
  .mk (some 35) (.binOp .neq 28 (.tmp 34) (.const (.int .i64 0)) 28) none,
  .mk (some 36) (.move (.tmp 35)) none,
  .mk (some 37) (.fieldAddr 26 (.tmp 2) 0) (some (36, false)),
  .mk (some 38) (.load 3 (.tmp 37)) (some (36, false)),
  .mk (some 39) (.binOp .neq 3 (.tmp 38) (.const (.int .i64 0)) 3) (some (36, false)),
  .mk (some 40) (.pick (.tmp 36) (.const (.bool true)) (.tmp 39)) none,
  .mk (some 41) (.move (.tmp 40)) none,
  .mk (some 42) (.move (.tmp 5)) (some (41, false)),
  .mk (some 43) (.fieldAddr 26 (.tmp 2) 1) (some (41, false)),
  .mk (some 44) (.load 3 (.tmp 43)) (some (41, false)),
  .mk (some 45) (.call ⟨(.value (.func 7)), #[(.tmp 42), (.tmp 44)], #[22, 3]⟩) (some (41, false)),
  .mk (some 46) (.move (.tmp 45)) (some (41, false)),
  .mk (some 47) (.move (.tmp 5)) (some (46, true)),
  .mk (some 48) (.call ⟨(.builtin .len), #[(.tmp 47)], #[22]⟩) (some (46, true)),
  .mk (some 49) (.move (.tmp 1)) (some (46, true)),
  .mk (some 50) (.call ⟨(.builtin .len), #[(.tmp 49)], #[27]⟩) (some (46, true)),
  .mk (some 51) (.binOp .add 3 (.tmp 50) (.const (.int .i64 1)) 3) (some (46, true)),
  .mk (some 52) (.binOp .eql 3 (.tmp 48) (.tmp 51) 3) (some (46, true)),
  .mk (some 53) (.pick (.tmp 46) (.tmp 52) (.const (.bool false))) (some (41, false)),
  .mk (some 54) (.pick (.tmp 41) (.const (.bool true)) (.tmp 53)) none,
  .mk (some 55) (.move (.tmp 54)) none,
  .mk (some 56) (.call ⟨(.value (.func 9)), #[], #[]⟩) (some (55, true)),
  .mk (some 57) (.pick (.tmp 55) (.tmp 56) (.const (.bool false))) none,
  .mk (some 4) (.assign (.tmp 57)) none]
def c4 : PC := (.seq (.reg false r4_0) (.seq (.seq (.reg false r4_1) (.cond (.tmp 11) (.seq (.reg false r4_2) .ret) .skip)) (.seq (.reg false r4_3) (.seq (.reg false r4_4) (.seq (.seq (.reg false r4_5) (.cond (.tmp 33) (.seq (.reg false r4_6) .ret) .skip)) (.seq (.reg false r4_7) .ret))))))
theorem e4 {args : List PV} {h : Heap} {K : PV → Heap → Prop} (hl : args.length = 2) (s : pwp Try.prog [] c4 (fin Try.prog [.tmp 4] h K) (slots0 (olds args)) h) : CanP Try.prog 4 args h K :=
  can_of2 (n := 58) mixed Try.func4 rfl (by kernel_rfl) (by rw [hl]; kernel_rfl) rfl (by kernel_rfl) s
/-! ### naskh.naskhref03.Size: function 16 -/
def r16_0 : List PS := [.mk (some 1) (.box 26 (.tmp 0)) none,
  .mk (some 2) (.assign (.const (.int .i64 0))) none]
def r16_1 : List PS := [.mk (some 3) (.load 26 (.tmp 1)) none,
  .mk (some 4) (.call ⟨(.value (.func 14)), #[(.tmp 3)], #[26]⟩) none,
  .mk (some 5) (.unOp .not 4 (.tmp 4)) none]
def r16_2 : List PS := [.mk (some 2) (.assign (.const (.int .i64 0))) none]
def r16_3 : List PS := [.mk (some 6) (.fieldAddr 26 (.tmp 1) 1) none,
  .mk (some 7) (.load 3 (.tmp 6)) none,
  .mk (some 8) (.fieldAddr 26 (.tmp 1) 0) none,
  .mk (some 9) (.load 3 (.tmp 8)) none,
  .mk (some 10) (.binOp .sub 3 (.tmp 7) (.tmp 9) 3) none,
  .mk (some 2) (.assign (.tmp 10)) none]
def c16 : PC := (.seq (.reg false r16_0) (.seq (.seq (.reg false r16_1) (.cond (.tmp 5) (.seq (.reg false r16_2) .ret) .skip)) (.seq (.reg false r16_3) .ret)))
theorem e16 {args : List PV} {h : Heap} {K : PV → Heap → Prop} (hl : args.length = 1) (s : pwp Try.prog [] c16 (fin Try.prog [.tmp 2] h K) (slots0 (olds args)) h) : CanP Try.prog 16 args h K :=
  can_of2 (n := 11) mixed Try.func16 rfl (by kernel_rfl) (by rw [hl]; kernel_rfl) rfl (by kernel_rfl) s
/-! ### naskh.naskhref03.Has: function 18 -/
def r18_0 : List PS := [.mk (some 2) (.box 26 (.tmp 0)) none,
  .mk (some 4) (.assign (.const (.bool false))) none]
def r18_1 : List PS := [.mk (some 5) (.move (.tmp 1)) none,
  .mk (some 6) (.fieldAddr 26 (.tmp 2) 0) none,
  .mk (some 7) (.load 3 (.tmp 6)) none,
  .mk (some 8) (.binOp .geq 3 (.tmp 5) (.tmp 7) 3) none,
  .mk (some 9) (.move (.tmp 8)) none,
  .mk (some 10) (.move (.tmp 1)) (some (9, true)),
  .mk (some 11) (.fieldAddr 26 (.tmp 2) 1) (some (9, true)),
  .mk (some 12) (.load 3 (.tmp 11)) (some (9, true)),
  .mk (some 13) (.binOp .lss 3 (.tmp 10) (.tmp 12) 3) (some (9, true)),
  .mk (some 14) (.pick (.tmp 9) (.tmp 13) (.const (.bool false))) none,
  .mk (some 4) (.assign (.tmp 14)) none]
def c18 : PC := (.seq (.reg false r18_0) (.seq (.reg false r18_1) .ret))
theorem e18 {args : List PV} {h : Heap} {K : PV → Heap → Prop} (hl : args.length = 2) (s : pwp Try.prog [] c18 (fin Try.prog [.tmp 4] h K) (slots0 (olds args)) h) : CanP Try.prog 18 args h K :=
  can_of2 (n := 15) mixed Try.func18 rfl (by kernel_rfl) (by rw [hl]; kernel_rfl) rfl (by kernel_rfl) s
/-! ### slices.IndexFunc[[]naskh.api.Span,naskh.api.Span]: function 28 -/
def r28_0 : List PS := [.mk (some 4) (.assign (.const (.int .i64 0))) none]
def r28_1 : List PS := [.mk (some 6) (.move (.tmp 0)) none,
  .mk (some 7) (.call ⟨(.builtin .len), #[(.tmp 6)], #[22]⟩) none,
  .mk (some 8) (.move (.const (.int .i64 0))) none]
def r28_2 : List PS := [.mk (some 9) (.binOp .lss 3 (.tmp 8) (.tmp 7) 3) none]
def r28_3 : List PS := [.mk (some 10) (.move (.tmp 8)) none,
  .mk (some 5) (.assign (.tmp 10)) none]
def r28_4 : List PS := [.mk (some 11) (.move (.tmp 1)) none,
  .mk (some 12) (.move (.tmp 0)) none,
  .mk (some 13) (.move (.tmp 5)) none,
  .mk (some 14) (.indexAddr 22 (.tmp 12) (.tmp 13)) none,
  .mk (some 15) (.load 26 (.tmp 14)) none,
  .mk (some 16) (.call ⟨(.value (.tmp 11)), #[(.tmp 15)], #[26]⟩) none]
def r28_5 : List PS := [.mk (some 17) (.move (.tmp 5)) none,
  .mk (some 4) (.assign (.tmp 17)) none]
def r28_6 : List PS := [.mk (some 18) (.binOp .add 3 (.tmp 8) (.const (.int .i64 1)) 3) none,
  .mk (some 8) (.move (.tmp 18)) none]
def r28_7 : List PS := [.mk (some 4) (.assign (.const (.int .i64 (-1)))) none]
def c28 : PC := (.seq (.reg false r28_0) (.seq (.seq (.reg false r28_1) (.block 0 (.loop (.seq (.reg false r28_2) (.seq (.cond (.tmp 9) .skip (.exit 0)) (.seq (.block 1 (.seq (.reg false r28_3) (.seq (.reg false r28_4) (.cond (.tmp 16) (.seq (.reg false r28_5) .ret) .skip)))) (.reg false r28_6))))))) (.seq (.reg false r28_7) .ret)))
theorem e28 {args : List PV} {h : Heap} {K : PV → Heap → Prop} (hl : args.length = 2) (s : pwp Try.prog [] c28 (fin Try.prog [.tmp 4] h K) (slots0 (olds args)) h) : CanP Try.prog 28 args h K :=
  can_of2 (n := 19) mixed Try.func28 rfl (by kernel_rfl) (by rw [hl]; kernel_rfl) rfl (by kernel_rfl) s
/-! ### naskh.span.Find$1: function 29 -/
def r29_0 : List PS := [.mk (some 2) (.box 26 (.tmp 0)) none,
  .mk (some 3) (.assign (.const (.bool false))) none]
def r29_1 : List PS := [.mk (some 4) (.load 26 (.tmp 2)) none,
  .mk (some 5) (.load 3 (.tmp 1)) none,
  .mk (some 6) (.call ⟨(.value (.func 17)), #[(.tmp 4), (.tmp 5)], #[26, 3]⟩) none,
  .mk (some 3) (.assign (.tmp 6)) none]
def c29 : PC := (.seq (.reg false r29_0) (.seq (.reg false r29_1) .ret))
theorem e29 {args : List PV} {h : Heap} {K : PV → Heap → Prop} (hl : args.length = 2) (s : pwp Try.prog [] c29 (fin Try.prog [.tmp 3] h K) (slots0 (olds args)) h) : CanP Try.prog 29 args h K :=
  can_of2 (n := 7) mixed Try.func29 rfl (by kernel_rfl) (by rw [hl]; kernel_rfl) rfl (by kernel_rfl) s
/-! ### naskh.span.Find: function 19 -/
def r19_0 : List PS := [.mk (some 3) (.box 3 (.tmp 1)) none,
  .mk (some 4) (.assign (.const (.int .i64 0))) none]
def r19_1 : List PS := [.mk (some 5) (.move (.tmp 0)) none,
  .mk (some 6) (.makeFunc (.func 29) #[] #[(.tmp 3)]) none,
  .mk (some 7) (.call ⟨(.value (.func 28)), #[(.tmp 5), (.tmp 6)], #[22, 34]⟩) none,
  .mk (some 4) (.assign (.tmp 7)) none]
def c19 : PC := (.seq (.reg false r19_0) (.seq (.reg false r19_1) .ret))
theorem e19 {args : List PV} {h : Heap} {K : PV → Heap → Prop} (hl : args.length = 2) (s : pwp Try.prog [] c19 (fin Try.prog [.tmp 4] h K) (slots0 (olds args)) h) : CanP Try.prog 19 args h K :=
  can_of2 (n := 8) mixed Try.func19 rfl (by kernel_rfl) (by rw [hl]; kernel_rfl) rfl (by kernel_rfl) s
/-! ### naskh.naskhref03.Find: function 20 -/
def r20_0 : List PS := [.mk (some 4) (.assign (.const (.int .i64 0))) none]
def r20_1 : List PS := [.mk (some 5) (.assign (.const (.int .i64 0))) none]
def r20_2 : List PS := [.mk (some 6) (.move (.tmp 5)) none,
  .mk (some 7) (.move (.tmp 0)) none,
  .mk (some 8) (.call ⟨(.builtin .len), #[(.tmp 7)], #[22]⟩) none,
  .mk (some 9) (.binOp .lss 3 (.tmp 6) (.tmp 8) 3) none]
def r20_3 : List PS := [.mk (some 12) (.move (.tmp 0)) none,
  .mk (some 13) (.move (.tmp 5)) none,
  .mk (some 14) (.indexAddr 22 (.tmp 12) (.tmp 13)) none,
  .mk (some 15) (.load 26 (.tmp 14)) none,
  .mk (some 16) (.move (.tmp 1)) none,
  .mk (some 17) (.call ⟨(.value (.func 18)), #[(.tmp 15), (.tmp 16)], #[26, 3]⟩) none]
def r20_4 : List PS := [.mk (some 18) (.move (.tmp 5)) none,
  .mk (some 4) (.assign (.tmp 18)) none]
def r20_5 : List PS := [.mk (some 10) (.move (.tmp 5)) none,
  .mk (some 11) (.binOp .add 3 (.tmp 10) (.const (.int .i64 1)) 3) none,
  .mk (some 5) (.assign (.tmp 11)) none]
def r20_6 : List PS := [.mk (some 4) (.assign (.const (.int .i64 (-1)))) none]
def c20 : PC := (.seq (.reg false r20_0) (.seq (.seq (.reg false r20_1) (.block 0 (.loop (.seq (.seq (.reg false r20_2) (.cond (.tmp 9) .skip (.exit 0))) (.seq (.block 1 (.seq (.reg false r20_3) (.cond (.tmp 17) (.seq (.reg false r20_4) .ret) .skip))) (.reg false r20_5)))))) (.seq (.reg false r20_6) .ret)))
theorem e20 {args : List PV} {h : Heap} {K : PV → Heap → Prop} (hl : args.length = 2) (s : pwp Try.prog [] c20 (fin Try.prog [.tmp 4] h K) (slots0 (olds args)) h) : CanP Try.prog 20 args h K :=
  can_of2 (n := 19) mixed Try.func20 rfl (by kernel_rfl) (by rw [hl]; kernel_rfl) rfl (by kernel_rfl) s
/-! ### naskh.span.Hull: function 21 -/
def r21_0 : List PS := [.mk (some 2) (.alloc 26) none]
def r21_1 : List PS := [.mk (some 3) (.alloc 26) none]
def r21_2 : List PS := [.mk (some 6) (.move (.tmp 0)) none,
  .mk (some 7) (.call ⟨(.builtin .len), #[(.tmp 6)], #[22]⟩) none,
  .mk (some 8) (.move (.const (.int .i64 0))) none]
def r21_3 : List PS := [.mk (some 9) (.binOp .lss 3 (.tmp 8) (.tmp 7) 3) none]
def r21_4 : List PS := [.mk (some 10) (.indexAddr 22 (.tmp 6) (.tmp 8)) none,
  .mk (some 11) (.load 26 (.tmp 10)) none,
  .mk (some 5) (.alloc 26) none,
  .mk none (.store 26 (.tmp 5) (.tmp 11)) none,
  .frz 5]
def r21_5 : List PS := [.mk (some 25) (.load 26 (.tmp 5)) none,
  .mk (some 26) (.call ⟨(.value (.func 13)), #[(.tmp 25)], #[26]⟩) none,
  .mk (some 27) (.unOp .not 4 (.tmp 26)) none,
  .mk (some 24) (.assign (.tmp 27)) none]
def r21_6 : List PS := [.mk (some 29) (.load 26 (.tmp 3)) none,
  .mk (some 30) (.call ⟨(.value (.func 13)), #[(.tmp 29)], #[26]⟩) none,
  .mk (some 31) (.unOp .not 4 (.tmp 30)) none,
  .mk (some 28) (.assign (.tmp 31)) none]
def r21_7 : List PS := [.mk (some 32) (.load 26 (.tmp 5)) none,
  .mk none (.store 26 (.tmp 3) (.tmp 32)) none]
def r21_8 : List PS := [.mk (some 12) (.fieldAddr 26 (.tmp 3) 0) none,
  .mk (some 13) (.load 3 (.tmp 12)) none,
  .mk (some 14) (.fieldAddr 26 (.tmp 5) 0) none,
  .mk (some 15) (.load 3 (.tmp 14)) none,
  .mk (some 16) (.call ⟨(.builtin .min), #[(.tmp 13), (.tmp 15)], #[3, 3]⟩) none,
  .mk (some 17) (.fieldAddr 26 (.tmp 3) 1) none,
  .mk (some 18) (.load 3 (.tmp 17)) none,
  .mk (some 19) (.fieldAddr 26 (.tmp 5) 1) none,
  .mk (some 20) (.load 3 (.tmp 19)) none,
  .mk (some 21) (.call ⟨(.builtin .max), #[(.tmp 18), (.tmp 20)], #[3, 3]⟩) none,
  .mk (some 22) (.fieldAddr 26 (.tmp 3) 0) none,
  .mk none (.store 3 (.tmp 22) (.tmp 16)) none,
  .mk (some 23) (.fieldAddr 26 (.tmp 3) 1) none,
  .mk none (.store 3 (.tmp 23) (.tmp 21)) none]
def r21_9 : List PS := [.mk (some 33) (.binOp .add 3 (.tmp 8) (.const (.int .i64 1)) 3) none,
  .mk (some 8) (.move (.tmp 33)) none]
def r21_10 : List PS := [.mk (some 34) (.load 26 (.tmp 3)) none,
  .mk none (.store 26 (.tmp 2) (.tmp 34)) none]
def c21 : PC := (.seq (.reg false r21_0) (.seq (.reg false r21_1) (.seq (.seq (.reg false r21_2) (.block 0 (.loop (.seq (.reg false r21_3) (.seq (.cond (.tmp 9) .skip (.exit 0)) (.seq (.block 1 (.seq (.reg false r21_4) (.block 2 (.seq (.reg false r21_5) (.cond (.tmp 24) .skip (.seq (.reg false r21_6) (.cond (.tmp 28) (.reg false r21_7) (.reg true r21_8)))))))) (.reg false r21_9))))))) (.seq (.reg false r21_10) .ret))))
theorem e21 {args : List PV} {h : Heap} {K : PV → Heap → Prop} (hl : args.length = 1) (s : pwp Try.prog [2, 3, 5, 20] c21 (fin Try.prog [.cell 2 26] h K) (slots0 (olds args)) h) : CanP Try.prog 21 args h K :=
  can_of2 (n := 35) mixed Try.func21 rfl (by kernel_rfl) (by rw [hl]; kernel_rfl) rfl (by kernel_rfl) s
/-! ### naskh.naskhref03.Hull: function 22 -/
def r22_0 : List PS := [.mk (some 2) (.alloc 26) none]
def r22_1 : List PS := [.mk (some 3) (.alloc 26) none]
def r22_2 : List PS := [.mk (some 4) (.assign (.const (.int .i64 0))) none]
def r22_3 : List PS := [.mk (some 5) (.move (.tmp 4)) none,
  .mk (some 6) (.move (.tmp 0)) none,
  .mk (some 7) (.call ⟨(.builtin .len), #[(.tmp 6)], #[22]⟩) none,
  .mk (some 8) (.binOp .lss 3 (.tmp 5) (.tmp 7) 3) none]
def r22_4 : List PS := [.mk (some 11) (.move (.tmp 0)) none,
  .mk (some 12) (.move (.tmp 4)) none,
  .mk (some 13) (.indexAddr 22 (.tmp 11) (.tmp 12)) none,
  .mk (some 14) (.load 26 (.tmp 13)) none,
  .mk (some 15) (.call ⟨(.value (.func 14)), #[(.tmp 14)], #[26]⟩) none,
  .mk (some 16) (.unOp .not 4 (.tmp 15)) none]
def r22_5 : List PS := [.mk (some 17) (.load 26 (.tmp 3)) none,
  .mk (some 18) (.call ⟨(.value (.func 14)), #[(.tmp 17)], #[26]⟩) none,
  .mk (some 19) (.unOp .not 4 (.tmp 18)) none]
def r22_6 : List PS := [.mk (some 20) (.move (.tmp 0)) none,
  .mk (some 21) (.move (.tmp 4)) none,
  .mk (some 22) (.indexAddr 22 (.tmp 20) (.tmp 21)) none,
  .mk (some 23) (.load 26 (.tmp 22)) none,
  .mk none (.store 26 (.tmp 3) (.tmp 23)) none]
def r22_7 : List PS := [.mk (some 24) (.fieldAddr 26 (.tmp 3) 0) none,
  .mk (some 25) (.load 3 (.tmp 24)) none,
  .mk (some 26) (.move (.tmp 0)) none,
  .mk (some 27) (.move (.tmp 4)) none,
  .mk (some 28) (.indexAddr 22 (.tmp 26) (.tmp 27)) none,
  .mk (some 29) (.fieldAddr 26 (.tmp 28) 0) none,
  .mk (some 30) (.load 3 (.tmp 29)) none,
  .mk (some 31) (.call ⟨(.builtin .min), #[(.tmp 25), (.tmp 30)], #[3, 3]⟩) none,
  .mk (some 32) (.fieldAddr 26 (.tmp 3) 1) none,
  .mk (some 33) (.load 3 (.tmp 32)) none,
  .mk (some 34) (.move (.tmp 0)) none,
  .mk (some 35) (.move (.tmp 4)) none,
  .mk (some 36) (.indexAddr 22 (.tmp 34) (.tmp 35)) none,
  .mk (some 37) (.fieldAddr 26 (.tmp 36) 1) none,
  .mk (some 38) (.load 3 (.tmp 37)) none,
  .mk (some 39) (.call ⟨(.builtin .max), #[(.tmp 33), (.tmp 38)], #[3, 3]⟩) none,
  .mk (some 40) (.build 26 #[(0, (.tmp 31)), (1, (.tmp 39))]) none,
  .mk none (.store 26 (.tmp 3) (.tmp 40)) none]
def r22_8 : List PS := [.mk (some 9) (.move (.tmp 4)) none,
  .mk (some 10) (.binOp .add 3 (.tmp 9) (.const (.int .i64 1)) 3) none,
  .mk (some 4) (.assign (.tmp 10)) none]
def r22_9 : List PS := [.mk (some 41) (.load 26 (.tmp 3)) none,
  .mk none (.store 26 (.tmp 2) (.tmp 41)) none]
def c22 : PC := (.seq (.reg false r22_0) (.seq (.reg false r22_1) (.seq (.seq (.reg false r22_2) (.block 0 (.loop (.seq (.seq (.reg false r22_3) (.cond (.tmp 8) .skip (.exit 0))) (.seq (.block 1 (.seq (.seq (.reg false r22_4) (.cond (.tmp 16) (.exit 1) .skip)) (.seq (.seq (.reg false r22_5) (.cond (.tmp 19) (.reg false r22_6) .skip)) (.reg true r22_7)))) (.reg false r22_8)))))) (.seq (.reg false r22_9) .ret))))
theorem e22 {args : List PV} {h : Heap} {K : PV → Heap → Prop} (hl : args.length = 1) (s : pwp Try.prog [2, 3] c22 (fin Try.prog [.cell 2 26] h K) (slots0 (olds args)) h) : CanP Try.prog 22 args h K :=
  can_of2 (n := 42) mixed Try.func22 rfl (by kernel_rfl) (by rw [hl]; kernel_rfl) rfl (by kernel_rfl) s
/-! ### naskh.naskhlaw03.SpanTells: function 5 -/
def r5_0 : List PS := [.mk (some 3) (.box 26 (.tmp 0)) none,
  .mk (some 6) (.assign (.const (.bool false))) none]
def r5_1 : List PS := [.mk (some 7) (.move (.tmp 2)) none,
  .mk (some 8) (.call ⟨(.builtin .len), #[(.tmp 7)], #[22]⟩) none,
  .mk (some 9) (.binOp .gtr 3 (.tmp 8) (.const (.int .i64 200)) 3) none]
def r5_2 : List PS := [.mk (some 10) (.call ⟨(.value (.func 9)), #[], #[]⟩) none,
  .mk (some 6) (.assign (.tmp 10)) none]
def r5_3 : List PS := [.mk (some 11) (.load 26 (.tmp 3)) none,
  .mk (some 12) (.call ⟨(.value (.func 13)), #[(.tmp 11)], #[26]⟩) none,
  .mk (some 13) (.load 26 (.tmp 3)) none,
  .mk (some 14) (.call ⟨(.value (.func 14)), #[(.tmp 13)], #[26]⟩) none,
  .mk (some 15) (.binOp .eql 4 (.tmp 12) (.tmp 14) 4) none,
  .mk (some 16) (.move (.tmp 15)) none,
  .mk (some 17) (.load 26 (.tmp 3)) (some (16, true)),
  .mk (some 18) (.call ⟨(.value (.func 15)), #[(.tmp 17)], #[26]⟩) (some (16, true)),
  .mk (some 19) (.load 26 (.tmp 3)) (some (16, true)),
  .mk (some 20) (.call ⟨(.value (.func 16)), #[(.tmp 19)], #[26]⟩) (some (16, true)),
  .mk (some 21) (.binOp .eql 3 (.tmp 18) (.tmp 20) 3) (some (16, true)),
  .mk (some 22) (.pick (.tmp 16) (.tmp 21) (.const (.bool false))) none,
  .mk (some 23) (.move (.tmp 22)) none,
  .mk (some 24) (.load 26 (.tmp 3)) (some (23, true)),
  .mk (some 25) (.move (.tmp 1)) (some (23, true)),
  .mk (some 26) (.call ⟨(.value (.func 17)), #[(.tmp 24), (.tmp 25)], #[26, 3]⟩) (some (23, true)),
  .mk (some 27) (.load 26 (.tmp 3)) (some (23, true)),
  .mk (some 28) (.move (.tmp 1)) (some (23, true)),
  .mk (some 29) (.call ⟨(.value (.func 18)), #[(.tmp 27), (.tmp 28)], #[26, 3]⟩) (some (23, true)),
  .mk (some 30) (.binOp .eql 4 (.tmp 26) (.tmp 29) 4) (some (23, true)),
  .mk (some 31) (.pick (.tmp 23) (.tmp 30) (.const (.bool false))) none,
  .mk (some 32) (.move (.tmp 31)) none,
  .mk (some 33) (.move (.tmp 2)) (some (32, true)),
  .mk (some 34) (.move (.tmp 1)) (some (32, true)),
  .mk (some 35) (.call ⟨(.value (.func 19)), #[(.tmp 33), (.tmp 34)], #[22, 3]⟩) (some (32, true)),
  .mk (some 36) (.move (.tmp 2)) (some (32, true)),
  .mk (some 37) (.move (.tmp 1)) (some (32, true)),
  .mk (some 38) (.call ⟨(.value (.func 20)), #[(.tmp 36), (.tmp 37)], #[22, 3]⟩) (some (32, true)),
  .mk (some 39) (.binOp .eql 3 (.tmp 35) (.tmp 38) 3) (some (32, true)),
  .mk (some 40) (.pick (.tmp 32) (.tmp 39) (.const (.bool false))) none,
  .mk (some 41) (.move (.tmp 40)) none,
  .mk (some 42) (.move (.tmp 2)) (some (41, true)),
  .mk (some 43) (.call ⟨(.value (.func 21)), #[(.tmp 42)], #[22]⟩) (some (41, true)),
  .mk (some 44) (.move (.tmp 2)) (some (41, true)),
  .mk (some 45) (.call ⟨(.value (.func 22)), #[(.tmp 44)], #[22]⟩) (some (41, true)),
  .mk (some 46) (.binOp .eql 26 (.tmp 43) (.tmp 45) 26) (some (41, true)),
  .mk (some 47) (.pick (.tmp 41) (.tmp 46) (.const (.bool false))) none,
  .mk (some 48) (.move (.tmp 47)) none,
  .mk (some 49) (.call ⟨(.value (.func 9)), #[], #[]⟩) (some (48, true)),
  .mk (some 50) (.pick (.tmp 48) (.tmp 49) (.const (.bool false))) none,
  .mk (some 6) (.assign (.tmp 50)) none]
def c5 : PC := (.seq (.reg false r5_0) (.seq (.seq (.reg false r5_1) (.cond (.tmp 9) (.seq (.reg false r5_2) .ret) .skip)) (.seq (.reg true r5_3) .ret)))
theorem e5 {args : List PV} {h : Heap} {K : PV → Heap → Prop} (hl : args.length = 3) (s : pwp Try.prog [] c5 (fin Try.prog [.tmp 6] h K) (slots0 (olds args)) h) : CanP Try.prog 5 args h K :=
  can_of2 (n := 51) mixed Try.func5 rfl (by kernel_rfl) (by rw [hl]; kernel_rfl) rfl (by kernel_rfl) s
/-! ### naskh.span.Groups: function 23 -/
def r23_0 : List PS := [.mk (some 4) (.assign (.const (.slice none 0 0))) none]
def r23_1 : List PS := [.mk (some 12) (.move (.tmp 0)) none,
  .mk (some 13) (.binOp .lss 3 (.tmp 12) (.const (.int .i64 1)) 3) none]
def r23_2 : List PS := [.mk (some 4) (.assign (.const (.slice none 0 0))) none]
def r23_3 : List PS := [.mk (some 14) (.move (.tmp 0)) none,
  .mk (some 15) (.makeSlice 27 (.tmp 14) (.tmp 14)) none,
  .mk (some 5) (.assign (.tmp 15)) none]
def r23_4 : List PS := [.mk (some 16) (.move (.tmp 1)) none,
  .mk (some 17) (.call ⟨(.builtin .len), #[(.tmp 16)], #[22]⟩) none,
  .mk (some 18) (.move (.const (.int .i64 0))) none]
def r23_5 : List PS := [.mk (some 19) (.binOp .lss 3 (.tmp 18) (.tmp 17) 3) none]
def r23_6 : List PS := [.mk (some 20) (.indexAddr 22 (.tmp 16) (.tmp 18)) none,
  .mk (some 21) (.load 26 (.tmp 20)) none,
  .mk (some 7) (.alloc 26) none,
  .mk none (.store 26 (.tmp 7) (.tmp 21)) none,
  .frz 7]
def r23_7 : List PS := [.mk (some 22) (.load 26 (.tmp 7)) none,
  .mk (some 23) (.call ⟨(.value (.func 13)), #[(.tmp 22)], #[26]⟩) none,
  .mk (some 24) (.move (.tmp 23)) none,
  .mk (some 25) (.fieldAddr 26 (.tmp 7) 1) (some (24, true)),
  .mk (some 26) (.load 3 (.tmp 25)) (some (24, true)),
  .mk (some 27) (.move (.tmp 0)) (some (24, true)),
  .mk (some 28) (.binOp .leq 3 (.tmp 26) (.tmp 27) 3) (some (24, true)),
  .mk (some 29) (.pick (.tmp 24) (.tmp 28) (.const (.bool false))) none]
def r23_8 : List PS := [.mk (some 30) (.move (.tmp 5)) none,
  .mk (some 31) (.fieldAddr 26 (.tmp 7) 0) none,
  .mk (some 32) (.load 3 (.tmp 31)) none,
  .mk (some 33) (.move (.tmp 5)) none,
  .mk (some 34) (.fieldAddr 26 (.tmp 7) 0) none,
  .mk (some 35) (.load 3 (.tmp 34)) none,
  .mk (some 36) (.indexAddr 27 (.tmp 33) (.tmp 35)) none,
  .mk (some 37) (.load 3 (.tmp 36)) none,
  .mk (some 38) (.fieldAddr 26 (.tmp 7) 1) none,
  .mk (some 39) (.load 3 (.tmp 38)) none,
  .mk (some 40) (.call ⟨(.builtin .max), #[(.tmp 37), (.tmp 39)], #[3, 3]⟩) none,
  .mk (some 41) (.indexAddr 27 (.tmp 30) (.tmp 32)) none,
  .mk none (.store 3 (.tmp 41) (.tmp 40)) none]
def r23_9 : List PS := [.mk (some 42) (.binOp .add 3 (.tmp 18) (.const (.int .i64 1)) 3) none,
  .mk (some 18) (.move (.tmp 42)) none]
def r23_10 : List PS := [.mk (some 8) (.assign (.const (.slice none 0 0))) none]
def r23_11 : List PS := [.mk (some 43) (.build 26 #[(1, (.const (.int .i64 1)))]) none,
  .mk (some 9) (.alloc 26) none,
  .mk none (.store 26 (.tmp 9) (.tmp 43)) none]
def r23_12 : List PS := [.mk (some 44) (.move (.tmp 5)) none,
  .mk (some 45) (.call ⟨(.builtin .len), #[(.tmp 44)], #[27]⟩) none,
  .mk (some 46) (.move (.const (.int .i64 0))) none]
def r23_13 : List PS := [.mk (some 47) (.binOp .lss 3 (.tmp 46) (.tmp 45) 3) none]
def r23_14 : List PS := [.mk (some 48) (.move (.tmp 46)) none,
  .mk (some 49) (.indexAddr 27 (.tmp 44) (.tmp 46)) none,
  .mk (some 50) (.load 3 (.tmp 49)) none,
  .mk (some 10) (.assign (.tmp 48)) none,
  .mk (some 11) (.assign (.tmp 50)) none]
def r23_15 : List PS := [.mk (some 51) (.move (.tmp 10)) none,
  .mk (some 52) (.fieldAddr 26 (.tmp 9) 1) none,
  .mk (some 53) (.load 3 (.tmp 52)) none,
  .mk (some 54) (.binOp .eql 3 (.tmp 51) (.tmp 53) 3) none]
def r23_16 : List PS := [.mk (some 55) (.move (.tmp 8)) none,
  .mk (some 56) (.load 26 (.tmp 9)) none,
  .mk (some 57) (.buildSlice 22 1 #[(0, (.tmp 56))]) none,
  .mk (some 58) (.call ⟨(.builtin .append), #[(.tmp 55), (.tmp 57)], #[22, 22]⟩) none,
  .mk (some 8) (.assign (.tmp 58)) none]
def r23_17 : List PS := [.mk (some 59) (.move (.tmp 10)) none,
  .mk (some 60) (.move (.tmp 10)) none,
  .mk (some 61) (.binOp .add 3 (.tmp 60) (.const (.int .i64 1)) 3) none,
  .mk (some 62) (.build 26 #[(0, (.tmp 59)), (1, (.tmp 61))]) none,
  .mk none (.store 26 (.tmp 9) (.tmp 62)) none]
def r23_18 : List PS := [.mk (some 63) (.fieldAddr 26 (.tmp 9) 1) none,
  .mk (some 64) (.load 3 (.tmp 63)) none,
  .mk (some 65) (.move (.tmp 11)) none,
  .mk (some 66) (.call ⟨(.builtin .max), #[(.tmp 64), (.tmp 65)], #[3, 3]⟩) none,
  .mk (some 67) (.fieldAddr 26 (.tmp 9) 1) none,
  .mk none (.store 3 (.tmp 67) (.tmp 66)) none]
def r23_19 : List PS := [.mk (some 68) (.binOp .add 3 (.tmp 46) (.const (.int .i64 1)) 3) none,
  .mk (some 46) (.move (.tmp 68)) none]
def r23_20 : List PS := [.mk (some 69) (.move (.tmp 8)) none,
  .mk (some 70) (.load 26 (.tmp 9)) none,
  .mk (some 71) (.buildSlice 22 1 #[(0, (.tmp 70))]) none,
  .mk (some 72) (.call ⟨(.builtin .append), #[(.tmp 69), (.tmp 71)], #[22, 22]⟩) none,
  .mk (some 4) (.assign (.tmp 72)) none]
def c23 : PC := (.seq (.reg false r23_0) (.seq (.seq (.reg false r23_1) (.cond (.tmp 13) (.seq (.reg false r23_2) .ret) .skip)) (.seq (.reg false r23_3) (.seq (.seq (.reg false r23_4) (.block 0 (.loop (.seq (.reg false r23_5) (.seq (.cond (.tmp 19) .skip (.exit 0)) (.seq (.block 1 (.seq (.reg false r23_6) (.seq (.reg false r23_7) (.cond (.tmp 29) (.reg true r23_8) .skip)))) (.reg false r23_9))))))) (.seq (.reg false r23_10) (.seq (.reg false r23_11) (.seq (.seq (.reg false r23_12) (.block 2 (.loop (.seq (.reg false r23_13) (.seq (.cond (.tmp 47) .skip (.exit 2)) (.seq (.block 3 (.seq (.reg false r23_14) (.seq (.seq (.reg false r23_15) (.cond (.tmp 54) (.seq (.reg false r23_16) (.reg false r23_17)) .skip)) (.reg false r23_18)))) (.reg false r23_19))))))) (.seq (.reg false r23_20) .ret))))))))
theorem e23 {args : List PV} {h : Heap} {K : PV → Heap → Prop} (hl : args.length = 2) (s : pwp Try.prog [7, 9] c23 (fin Try.prog [.tmp 4] h K) (slots0 (olds args)) h) : CanP Try.prog 23 args h K :=
  can_of2 (n := 73) mixed Try.func23 rfl (by kernel_rfl) (by rw [hl]; kernel_rfl) rfl (by kernel_rfl) s
/-! ### slices.Clone[[]naskh.api.Span,naskh.api.Span]: function 24 -/
def r24_0 : List PS := [.mk (some 2) (.assign (.const (.slice none 0 0))) none]
def r24_1 : List PS := [.mk (some 3) (.move (.tmp 0)) none,
  .mk (some 4) (.binOp .eql 22 (.tmp 3) (.const (.slice none 0 0)) 22) none]
def r24_2 : List PS := [.mk (some 2) (.assign (.const (.slice none 0 0))) none]
def r24_3 : List PS := [.mk (some 5) (.buildSlice 22 0 #[]) none,
  .mk (some 6) (.move (.tmp 0)) none,
  .mk (some 7) (.call ⟨(.builtin .append), #[(.tmp 5), (.tmp 6)], #[22, 22]⟩) none,
  .mk (some 2) (.assign (.tmp 7)) none]
def c24 : PC := (.seq (.reg false r24_0) (.seq (.seq (.reg false r24_1) (.cond (.tmp 4) (.seq (.reg false r24_2) .ret) .skip)) (.seq (.reg false r24_3) .ret)))
theorem e24 {args : List PV} {h : Heap} {K : PV → Heap → Prop} (hl : args.length = 1) (s : pwp Try.prog [5] c24 (fin Try.prog [.tmp 2] h K) (slots0 (olds args)) h) : CanP Try.prog 24 args h K :=
  can_of2 (n := 8) mixed Try.func24 rfl (by kernel_rfl) (by rw [hl]; kernel_rfl) rfl (by kernel_rfl) s
/-! ### slices.Reverse[[]naskh.api.Span,naskh.api.Span]: function 25 -/
def r25_0 : List PS := [.mk (some 4) (.move (.tmp 0)) none,
  .mk (some 5) (.call ⟨(.builtin .len), #[(.tmp 4)], #[22]⟩) none,
  .mk (some 6) (.binOp .sub 3 (.tmp 5) (.const (.int .i64 1)) 3) none,
  .mk (some 2) (.assign (.const (.int .i64 0))) none,
  .mk (some 3) (.assign (.tmp 6)) none]
def r25_1 : List PS := [.mk (some 7) (.move (.tmp 2)) none,
  .mk (some 8) (.move (.tmp 3)) none,
  .mk (some 9) (.binOp .lss 3 (.tmp 7) (.tmp 8) 3) none]
def r25_2 : List PS := [.mk (some 14) (.move (.tmp 0)) none,
  .mk (some 15) (.move (.tmp 2)) none,
  .mk (some 16) (.move (.tmp 0)) none,
  .mk (some 17) (.move (.tmp 3)) none,
  .mk (some 18) (.move (.tmp 0)) none,
  .mk (some 19) (.move (.tmp 3)) none,
  .mk (some 20) (.indexAddr 22 (.tmp 18) (.tmp 19)) none,
  .mk (some 21) (.load 26 (.tmp 20)) none,
  .mk (some 22) (.move (.tmp 0)) none,
  .mk (some 23) (.move (.tmp 2)) none,
  .mk (some 24) (.indexAddr 22 (.tmp 22) (.tmp 23)) none,
  .mk (some 25) (.load 26 (.tmp 24)) none,
  .mk (some 26) (.indexAddr 22 (.tmp 14) (.tmp 15)) none,
  .mk none (.store 26 (.tmp 26) (.tmp 21)) none,
  .mk (some 27) (.indexAddr 22 (.tmp 16) (.tmp 17)) none,
  .mk none (.store 26 (.tmp 27) (.tmp 25)) none]
def r25_3 : List PS := [.mk (some 10) (.move (.tmp 2)) none,
  .mk (some 11) (.binOp .add 3 (.tmp 10) (.const (.int .i64 1)) 3) none,
  .mk (some 12) (.move (.tmp 3)) none,
  .mk (some 13) (.binOp .sub 3 (.tmp 12) (.const (.int .i64 1)) 3) none,
  .mk (some 2) (.assign (.tmp 11)) none,
  .mk (some 3) (.assign (.tmp 13)) none]
def c25 : PC := (.seq (.reg false r25_0) (.block 0 (.loop (.seq (.seq (.reg false r25_1) (.cond (.tmp 9) .skip (.exit 0))) (.seq (.block 1 (.reg true r25_2)) (.reg false r25_3))))))
theorem e25 {args : List PV} {h : Heap} {K : PV → Heap → Prop} (hl : args.length = 1) (s : pwp Try.prog [] c25 (fin Try.prog [] h K) (slots0 (olds args)) h) : CanP Try.prog 25 args h K :=
  can_of2 (n := 28) mixed Try.func25 rfl (by kernel_rfl) (by rw [hl]; kernel_rfl) rfl (by kernel_rfl) s
/-! ### naskh.naskhref03.parted: function 30 -/
def r30_0 : List PS := [.mk (some 6) (.assign (.const (.bool false))) none]
def r30_1 : List PS := [.mk (some 7) (.assign (.const (.int .i64 0))) none]
def r30_2 : List PS := [.mk (some 9) (.move (.tmp 7)) none,
  .mk (some 10) (.move (.tmp 2)) none,
  .mk (some 11) (.call ⟨(.builtin .len), #[(.tmp 10)], #[22]⟩) none,
  .mk (some 12) (.binOp .lss 3 (.tmp 9) (.tmp 11) 3) none]
def r30_3 : List PS := [.mk (some 15) (.move (.tmp 2)) none,
  .mk (some 16) (.move (.tmp 7)) none,
  .mk (some 17) (.indexAddr 22 (.tmp 15) (.tmp 16)) none,
  .mk (some 18) (.load 26 (.tmp 17)) none,
  .mk (some 8) (.alloc 26) none,
  .mk none (.store 26 (.tmp 8) (.tmp 18)) none,
  .frz 8]
def r30_4 : List PS := [.mk (some 19) (.load 26 (.tmp 8)) none,
  .mk (some 20) (.call ⟨(.value (.func 14)), #[(.tmp 19)], #[26]⟩) none,
  .mk (some 21) (.move (.tmp 20)) none,
  .mk (some 22) (.fieldAddr 26 (.tmp 8) 1) (some (21, true)),
  .mk (some 23) (.load 3 (.tmp 22)) (some (21, true)),
  .mk (some 24) (.move (.tmp 1)) (some (21, true)),
  .mk (some 25) (.binOp .leq 3 (.tmp 23) (.tmp 24) 3) (some (21, true)),
  .mk (some 26) (.pick (.tmp 21) (.tmp 25) (.const (.bool false))) none,
  .mk (some 27) (.move (.tmp 26)) none,
  .mk (some 28) (.fieldAddr 26 (.tmp 8) 0) (some (27, true)),
  .mk (some 29) (.load 3 (.tmp 28)) (some (27, true)),
  .mk (some 30) (.move (.tmp 0)) (some (27, true)),
  .mk (some 31) (.binOp .lss 3 (.tmp 29) (.tmp 30) 3) (some (27, true)),
  .mk (some 32) (.pick (.tmp 27) (.tmp 31) (.const (.bool false))) none,
  .mk (some 33) (.move (.tmp 32)) none,
  .mk (some 34) (.move (.tmp 0)) (some (33, true)),
  .mk (some 35) (.fieldAddr 26 (.tmp 8) 1) (some (33, true)),
  .mk (some 36) (.load 3 (.tmp 35)) (some (33, true)),
  .mk (some 37) (.binOp .lss 3 (.tmp 34) (.tmp 36) 3) (some (33, true)),
  .mk (some 38) (.pick (.tmp 33) (.tmp 37) (.const (.bool false))) none]
def r30_5 : List PS := [.mk (some 6) (.assign (.const (.bool false))) none]
def r30_6 : List PS := [.mk (some 13) (.move (.tmp 7)) none,
  .mk (some 14) (.binOp .add 3 (.tmp 13) (.const (.int .i64 1)) 3) none,
  .mk (some 7) (.assign (.tmp 14)) none]
def r30_7 : List PS := [.mk (some 6) (.assign (.const (.bool true))) none]
def c30 : PC := (.seq (.reg false r30_0) (.seq (.seq (.reg false r30_1) (.block 0 (.loop (.seq (.seq (.reg false r30_2) (.cond (.tmp 12) .skip (.exit 0))) (.seq (.block 1 (.seq (.reg false r30_3) (.seq (.reg false r30_4) (.cond (.tmp 38) (.seq (.reg false r30_5) .ret) .skip)))) (.reg false r30_6)))))) (.seq (.reg false r30_7) .ret)))
theorem e30 {args : List PV} {h : Heap} {K : PV → Heap → Prop} (hl : args.length = 3) (s : pwp Try.prog [8] c30 (fin Try.prog [.tmp 6] h K) (slots0 (olds args)) h) : CanP Try.prog 30 args h K :=
  can_of2 (n := 39) mixed Try.func30 rfl (by kernel_rfl) (by rw [hl]; kernel_rfl) rfl (by kernel_rfl) s
/-! ### naskh.naskhref03.Groups: function 26 -/
def r26_0 : List PS := [.mk (some 4) (.assign (.const (.slice none 0 0))) none]
def r26_1 : List PS := [.mk (some 5) (.assign (.const (.slice none 0 0))) none]
def r26_2 : List PS := [.mk (some 6) (.assign (.const (.int .i64 0))) none]
def r26_3 : List PS := [.mk (some 7) (.assign (.const (.int .i64 1))) none]
def r26_4 : List PS := [.mk (some 8) (.move (.tmp 7)) none,
  .mk (some 9) (.move (.tmp 0)) none,
  .mk (some 10) (.binOp .leq 3 (.tmp 8) (.tmp 9) 3) none]
def r26_5 : List PS := [.mk (some 13) (.move (.tmp 7)) none,
  .mk (some 14) (.move (.tmp 0)) none,
  .mk (some 15) (.binOp .eql 3 (.tmp 13) (.tmp 14) 3) none,
  .mk (some 16) (.move (.tmp 15)) none,
  .mk (some 17) (.move (.tmp 7)) (some (16, false)),
  .mk (some 18) (.move (.tmp 0)) (some (16, false)),
  .mk (some 19) (.move (.tmp 1)) (some (16, false)),
  .mk (some 20) (.call ⟨(.value (.func 30)), #[(.tmp 17), (.tmp 18), (.tmp 19)], #[3, 3, 22]⟩) (some (16, false)),
  .mk (some 21) (.pick (.tmp 16) (.const (.bool true)) (.tmp 20)) none]
def r26_6 : List PS := [.mk (some 22) (.move (.tmp 5)) none,
  .mk (some 23) (.move (.tmp 6)) none,
  .mk (some 24) (.move (.tmp 7)) none,
  .mk (some 25) (.build 26 #[(0, (.tmp 23)), (1, (.tmp 24))]) none,
  .mk (some 26) (.buildSlice 22 1 #[(0, (.tmp 25))]) none,
  .mk (some 27) (.call ⟨(.builtin .append), #[(.tmp 22), (.tmp 26)], #[22, 22]⟩) none,
  .mk (some 5) (.assign (.tmp 27)) none]
def r26_7 : List PS := [.mk (some 28) (.move (.tmp 7)) none,
  .mk (some 6) (.assign (.tmp 28)) none]
def r26_8 : List PS := [.mk (some 11) (.move (.tmp 7)) none,
  .mk (some 12) (.binOp .add 3 (.tmp 11) (.const (.int .i64 1)) 3) none,
  .mk (some 7) (.assign (.tmp 12)) none]
def r26_9 : List PS := [.mk (some 29) (.move (.tmp 5)) none,
  .mk (some 4) (.assign (.tmp 29)) none]
def c26 : PC := (.seq (.reg false r26_0) (.seq (.reg false r26_1) (.seq (.reg false r26_2) (.seq (.seq (.reg false r26_3) (.block 0 (.loop (.seq (.seq (.reg false r26_4) (.cond (.tmp 10) .skip (.exit 0))) (.seq (.block 1 (.seq (.reg false r26_5) (.cond (.tmp 21) (.seq (.reg false r26_6) (.reg false r26_7)) .skip))) (.reg false r26_8)))))) (.seq (.reg false r26_9) .ret)))))
theorem e26 {args : List PV} {h : Heap} {K : PV → Heap → Prop} (hl : args.length = 2) (s : pwp Try.prog [] c26 (fin Try.prog [.tmp 4] h K) (slots0 (olds args)) h) : CanP Try.prog 26 args h K :=
  can_of2 (n := 30) mixed Try.func26 rfl (by kernel_rfl) (by rw [hl]; kernel_rfl) rfl (by kernel_rfl) s
/-! ### naskh.naskhlaw03.SpanGroups: function 6 -/
def r6_0 : List PS := [.mk (some 4) (.assign (.const (.bool false))) none]
def r6_1 : List PS := [.mk (some 7) (.move (.tmp 0)) none,
  .mk (some 8) (.binOp .gtr 3 (.tmp 7) (.const (.int .i64 100)) 3) none,
  .mk (some 9) (.move (.tmp 8)) none,
  .mk (some 10) (.move (.tmp 1)) (some (9, false)),
  .mk (some 11) (.call ⟨(.builtin .len), #[(.tmp 10)], #[22]⟩) (some (9, false)),
  .mk (some 12) (.binOp .gtr 3 (.tmp 11) (.const (.int .i64 50)) 3) (some (9, false)),
  .mk (some 13) (.pick (.tmp 9) (.const (.bool true)) (.tmp 12)) none]
def r6_2 : List PS := [.mk (some 14) (.call ⟨(.value (.func 9)), #[], #[]⟩) none,
  .mk (some 4) (.assign (.tmp 14)) none]
def r6_3 : List PS := [.mk (some 15) (.move (.tmp 0)) none,
  .mk (some 16) (.move (.tmp 1)) none,
  .mk (some 17) (.call ⟨(.value (.func 23)), #[(.tmp 15), (.tmp 16)], #[3, 22]⟩) none,
  .mk (some 5) (.assign (.tmp 17)) none]
def r6_4 : List PS := [.mk (some 18) (.move (.tmp 1)) none,
  .mk (some 19) (.call ⟨(.value (.func 24)), #[(.tmp 18)], #[22]⟩) none,
  .mk (some 6) (.assign (.tmp 19)) none]
def r6_5 : List PS := [.mk (some 20) (.move (.tmp 6)) none,
  .mk (some 21) (.call ⟨(.value (.func 25)), #[(.tmp 20)], #[22]⟩) none,
  .frz 6]
def r6_6 : List PS := [.mk (some 22) (.move (.tmp 0)) none,
  .mk (some 23) (.binOp .geq 3 (.tmp 22) (.const (.int .i64 0)) 3) none,
  .mk (some 24) (.move (.tmp 23)) none,
  .mk (some 25) (.move (.tmp 5)) (some (24, true)),
  .mk (some 26) (.move (.tmp 0)) (some (24, true)),
  .mk (some 27) (.call ⟨(.value (.func 7)), #[(.tmp 25), (.tmp 26)], #[22, 3]⟩) (some (24, true)),
  .mk (some 28) (.unOp .not 4 (.tmp 27)) (some (24, true)),
  .mk (some 29) (.pick (.tmp 24) (.tmp 28) (.const (.bool false))) none]
def r6_7 : List PS := [.mk (some 4) (.assign (.const (.bool false))) none]
def r6_8 : List PS := [.mk (some 30) (.move (.tmp 5)) none,
  .mk (some 31) (.move (.tmp 0)) none,
  .mk (some 32) (.move (.tmp 1)) none,
  .mk (some 33) (.call ⟨(.value (.func 26)), #[(.tmp 31), (.tmp 32)], #[3, 22]⟩) none,
  .mk (some 34) (.call ⟨(.value (.func 12)), #[(.tmp 30), (.tmp 33)], #[22, 22]⟩) none,
  .mk (some 35) (.move (.tmp 34)) none,
  .mk (some 36) (.move (.tmp 5)) (some (35, true)),
  .mk (some 37) (.move (.tmp 0)) (some (35, true)),
  .mk (some 38) (.move (.tmp 6)) (some (35, true)),
  .mk (some 39) (.call ⟨(.value (.func 23)), #[(.tmp 37), (.tmp 38)], #[3, 22]⟩) (some (35, true)),
  .mk (some 40) (.call ⟨(.value (.func 12)), #[(.tmp 36), (.tmp 39)], #[22, 22]⟩) (some (35, true)),
  .mk (some 41) (.pick (.tmp 35) (.tmp 40) (.const (.bool false))) none,
  .mk (some 42) (.move (.tmp 41)) none,
  .mk (some 43) (.call ⟨(.value (.func 9)), #[], #[]⟩) (some (42, true)),
  .mk (some 44) (.pick (.tmp 42) (.tmp 43) (.const (.bool false))) none,
  .mk (some 4) (.assign (.tmp 44)) none]
def c6 : PC := (.seq (.reg false r6_0) (.seq (.seq (.reg false r6_1) (.cond (.tmp 13) (.seq (.reg false r6_2) .ret) .skip)) (.seq (.reg false r6_3) (.seq (.reg false r6_4) (.seq (.reg false r6_5) (.seq (.seq (.reg false r6_6) (.cond (.tmp 29) (.seq (.reg false r6_7) .ret) .skip)) (.seq (.reg false r6_8) .ret)))))))
theorem e6 {args : List PV} {h : Heap} {K : PV → Heap → Prop} (hl : args.length = 2) (s : pwp Try.prog [] c6 (fin Try.prog [.tmp 4] h K) (slots0 (olds args)) h) : CanP Try.prog 6 args h K :=
  can_of2 (n := 45) mixed Try.func6 rfl (by kernel_rfl) (by rw [hl]; kernel_rfl) rfl (by kernel_rfl) s
end Go.Proofs.Ytaaokbmcmoihhaa
