/-
  The functions that the statements of this seat reach, told in short, and facts on their types. Printed by this project's own program.
  Conditions: none.
-/
import Derived.Test.YtkhnjjmnmiegoaaPmO
import Derived.Test.YtkhnjjmnmiegoaaProg
import Derived.KernelRfl
namespace Go.Proofs.Ytkhnjjmnmiegoaa
open Go.Pm
set_option maxRecDepth 100000
set_option linter.unusedVariables false
theorem mixed : Try.prog.follows .mixedOrders = true := by kernel_rfl
theorem tag3 : tag Try.prog 3 = some false := by kernel_rfl
theorem tsz3 : tsz Try.prog 3 = some 1 := by kernel_rfl
theorem und3 : und Try.prog 3 = true := by kernel_rfl
theorem ik3 : ik Try.prog 3 = some .i64 := by kernel_rfl
theorem kd3 : kd Try.prog 3 = none := by kernel_rfl
theorem esz3 : esz Try.prog 3 = none := by kernel_rfl
theorem zc3 : zc Try.prog 3 = some [.int .i64 0] := by kernel_rfl
theorem ars3 : ars Try.prog 3 = none := by kernel_rfl
theorem tag4 : tag Try.prog 4 = some false := by kernel_rfl
theorem tsz4 : tsz Try.prog 4 = some 1 := by kernel_rfl
theorem und4 : und Try.prog 4 = true := by kernel_rfl
theorem ik4 : ik Try.prog 4 = none := by kernel_rfl
theorem kd4 : kd Try.prog 4 = some 3 := by kernel_rfl
theorem esz4 : esz Try.prog 4 = none := by kernel_rfl
theorem zc4 : zc Try.prog 4 = some [.bool false] := by kernel_rfl
theorem ars4 : ars Try.prog 4 = none := by kernel_rfl
theorem tag22 : tag Try.prog 22 = some false := by kernel_rfl
theorem tsz22 : tsz Try.prog 22 = some 1 := by kernel_rfl
theorem und22 : und Try.prog 22 = true := by kernel_rfl
theorem ik22 : ik Try.prog 22 = none := by kernel_rfl
theorem kd22 : kd Try.prog 22 = some 1 := by kernel_rfl
theorem esz22 : esz Try.prog 22 = some 2 := by kernel_rfl
theorem elt22 : elt Try.prog 22 = some 28 := by kernel_rfl
theorem zc22 : zc Try.prog 22 = some [.nils] := by kernel_rfl
theorem ars22 : ars Try.prog 22 = none := by kernel_rfl
theorem eli22 : eli Try.prog 22 = some (2, 16, [.int .i64 0, .int .i64 0]) := by kernel_rfl
theorem tag23 : tag Try.prog 23 = some false := by kernel_rfl
theorem tsz23 : tsz Try.prog 23 = some 1 := by kernel_rfl
theorem und23 : und Try.prog 23 = true := by kernel_rfl
theorem ik23 : ik Try.prog 23 = none := by kernel_rfl
theorem kd23 : kd Try.prog 23 = some 1 := by kernel_rfl
theorem esz23 : esz Try.prog 23 = some 1 := by kernel_rfl
theorem elt23 : elt Try.prog 23 = some 3 := by kernel_rfl
theorem zc23 : zc Try.prog 23 = some [.nils] := by kernel_rfl
theorem ars23 : ars Try.prog 23 = none := by kernel_rfl
theorem eli23 : eli Try.prog 23 = some (1, 8, [.int .i64 0]) := by kernel_rfl
theorem tag28 : tag Try.prog 28 = some true := by kernel_rfl
theorem tsz28 : tsz Try.prog 28 = some 2 := by kernel_rfl
theorem und28 : und Try.prog 28 = true := by kernel_rfl
theorem ik28 : ik Try.prog 28 = none := by kernel_rfl
theorem kd28 : kd Try.prog 28 = some 14 := by kernel_rfl
theorem esz28 : esz Try.prog 28 = none := by kernel_rfl
theorem zc28 : zc Try.prog 28 = some [.int .i64 0, .int .i64 0] := by kernel_rfl
theorem ars28 : ars Try.prog 28 = none := by kernel_rfl
theorem fld28_0 : fld Try.prog 28 0 = some (0, false, 1) := by kernel_rfl
theorem fld28_1 : fld Try.prog 28 1 = some (1, false, 1) := by kernel_rfl
theorem plc28 : plc Try.prog 28 = some fun i => [(0, 1), (1, 1)][i]? := by kernel_rfl
theorem tag32 : tag Try.prog 32 = some false := by kernel_rfl
theorem tsz32 : tsz Try.prog 32 = some 1 := by kernel_rfl
theorem und32 : und Try.prog 32 = true := by kernel_rfl
theorem ik32 : ik Try.prog 32 = some .i64 := by kernel_rfl
theorem kd32 : kd Try.prog 32 = none := by kernel_rfl
theorem esz32 : esz Try.prog 32 = none := by kernel_rfl
theorem zc32 : zc Try.prog 32 = some [.int .i64 0] := by kernel_rfl
theorem ars32 : ars Try.prog 32 = none := by kernel_rfl
theorem tag41 : tag Try.prog 41 = some false := by kernel_rfl
theorem tsz41 : tsz Try.prog 41 = some 1 := by kernel_rfl
theorem und41 : und Try.prog 41 = true := by kernel_rfl
theorem ik41 : ik Try.prog 41 = none := by kernel_rfl
theorem kd41 : kd Try.prog 41 = some 1 := by kernel_rfl
theorem esz41 : esz Try.prog 41 = some 4 := by kernel_rfl
theorem elt41 : elt Try.prog 41 = some 52 := by kernel_rfl
theorem zc41 : zc Try.prog 41 = some [.nils] := by kernel_rfl
theorem ars41 : ars Try.prog 41 = none := by kernel_rfl
theorem eli41 : eli Try.prog 41 = some (4, 32, [.int .i64 0, .int .i64 0, .int .i64 0, .int .i64 0]) := by kernel_rfl
theorem tag52 : tag Try.prog 52 = some true := by kernel_rfl
theorem tsz52 : tsz Try.prog 52 = some 4 := by kernel_rfl
theorem und52 : und Try.prog 52 = true := by kernel_rfl
theorem ik52 : ik Try.prog 52 = none := by kernel_rfl
theorem kd52 : kd Try.prog 52 = some 18 := by kernel_rfl
theorem esz52 : esz Try.prog 52 = none := by kernel_rfl
theorem zc52 : zc Try.prog 52 = some [.int .i64 0, .int .i64 0, .int .i64 0, .int .i64 0] := by kernel_rfl
theorem ars52 : ars Try.prog 52 = none := by kernel_rfl
theorem fld52_0 : fld Try.prog 52 0 = some (0, true, 2) := by kernel_rfl
theorem fld52_1 : fld Try.prog 52 1 = some (2, true, 2) := by kernel_rfl
theorem plc52 : plc Try.prog 52 = some fun i => [(0, 2), (2, 2)][i]? := by kernel_rfl
theorem tag57 : tag Try.prog 57 = some false := by kernel_rfl
theorem tsz57 : tsz Try.prog 57 = some 1 := by kernel_rfl
theorem und57 : und Try.prog 57 = true := by kernel_rfl
theorem ik57 : ik Try.prog 57 = none := by kernel_rfl
theorem kd57 : kd Try.prog 57 = none := by kernel_rfl
theorem esz57 : esz Try.prog 57 = none := by kernel_rfl
theorem zc57 : zc Try.prog 57 = some [.nilf] := by kernel_rfl
theorem ars57 : ars Try.prog 57 = none := by kernel_rfl
theorem tag59 : tag Try.prog 59 = some true := by kernel_rfl
theorem tsz59 : tsz Try.prog 59 = some 4 := by kernel_rfl
theorem und59 : und Try.prog 59 = true := by kernel_rfl
theorem ik59 : ik Try.prog 59 = none := by kernel_rfl
theorem kd59 : kd Try.prog 59 = none := by kernel_rfl
theorem esz59 : esz Try.prog 59 = none := by kernel_rfl
theorem zc59 : zc Try.prog 59 = some [.int .i64 0, .int .i64 0, .int .i64 0, .bool false] := by kernel_rfl
theorem ars59 : ars Try.prog 59 = none := by kernel_rfl
theorem fld59_0 : fld Try.prog 59 0 = some (0, false, 1) := by kernel_rfl
theorem fld59_1 : fld Try.prog 59 1 = some (1, false, 1) := by kernel_rfl
theorem fld59_2 : fld Try.prog 59 2 = some (2, false, 1) := by kernel_rfl
theorem fld59_3 : fld Try.prog 59 3 = some (3, false, 1) := by kernel_rfl
theorem plc59 : plc Try.prog 59 = some fun i => [(0, 1), (1, 1), (2, 1), (3, 1)][i]? := by kernel_rfl
theorem tag63 : tag Try.prog 63 = some false := by kernel_rfl
theorem tsz63 : tsz Try.prog 63 = some 1 := by kernel_rfl
theorem und63 : und Try.prog 63 = true := by kernel_rfl
theorem ik63 : ik Try.prog 63 = none := by kernel_rfl
theorem kd63 : kd Try.prog 63 = some 2 := by kernel_rfl
theorem esz63 : esz Try.prog 63 = none := by kernel_rfl
theorem zc63 : zc Try.prog 63 = some [.nilp] := by kernel_rfl
theorem ars63 : ars Try.prog 63 = none := by kernel_rfl
theorem tag68 : tag Try.prog 68 = some false := by kernel_rfl
theorem tsz68 : tsz Try.prog 68 = some 1 := by kernel_rfl
theorem und68 : und Try.prog 68 = true := by kernel_rfl
theorem ik68 : ik Try.prog 68 = some .u64 := by kernel_rfl
theorem kd68 : kd Try.prog 68 = none := by kernel_rfl
theorem esz68 : esz Try.prog 68 = none := by kernel_rfl
theorem zc68 : zc Try.prog 68 = some [.int .u64 0] := by kernel_rfl
theorem ars68 : ars Try.prog 68 = none := by kernel_rfl
theorem ft : (tag Try.prog 3 = some false) ∧
    (tsz Try.prog 3 = some 1) ∧
    (und Try.prog 3 = true) ∧
    (ik Try.prog 3 = some .i64) ∧
    (kd Try.prog 3 = none) ∧
    (esz Try.prog 3 = none) ∧
    (zc Try.prog 3 = some [.int .i64 0]) ∧
    (ars Try.prog 3 = none) ∧
    (tag Try.prog 4 = some false) ∧
    (tsz Try.prog 4 = some 1) ∧
    (und Try.prog 4 = true) ∧
    (ik Try.prog 4 = none) ∧
    (kd Try.prog 4 = some 3) ∧
    (esz Try.prog 4 = none) ∧
    (zc Try.prog 4 = some [.bool false]) ∧
    (ars Try.prog 4 = none) ∧
    (tag Try.prog 22 = some false) ∧
    (tsz Try.prog 22 = some 1) ∧
    (und Try.prog 22 = true) ∧
    (ik Try.prog 22 = none) ∧
    (kd Try.prog 22 = some 1) ∧
    (esz Try.prog 22 = some 2) ∧
    (elt Try.prog 22 = some 28) ∧
    (zc Try.prog 22 = some [.nils]) ∧
    (ars Try.prog 22 = none) ∧
    (eli Try.prog 22 = some (2, 16, [.int .i64 0, .int .i64 0])) ∧
    (tag Try.prog 23 = some false) ∧
    (tsz Try.prog 23 = some 1) ∧
    (und Try.prog 23 = true) ∧
    (ik Try.prog 23 = none) ∧
    (kd Try.prog 23 = some 1) ∧
    (esz Try.prog 23 = some 1) ∧
    (elt Try.prog 23 = some 3) ∧
    (zc Try.prog 23 = some [.nils]) ∧
    (ars Try.prog 23 = none) ∧
    (eli Try.prog 23 = some (1, 8, [.int .i64 0])) ∧
    (tag Try.prog 28 = some true) ∧
    (tsz Try.prog 28 = some 2) ∧
    (und Try.prog 28 = true) ∧
    (ik Try.prog 28 = none) ∧
    (kd Try.prog 28 = some 14) ∧
    (esz Try.prog 28 = none) ∧
    (zc Try.prog 28 = some [.int .i64 0, .int .i64 0]) ∧
    (ars Try.prog 28 = none) ∧
    (fld Try.prog 28 0 = some (0, false, 1)) ∧
    (fld Try.prog 28 1 = some (1, false, 1)) ∧
    (plc Try.prog 28 = some fun i => [(0, 1), (1, 1)][i]?) ∧
    (tag Try.prog 32 = some false) ∧
    (tsz Try.prog 32 = some 1) ∧
    (und Try.prog 32 = true) ∧
    (ik Try.prog 32 = some .i64) ∧
    (kd Try.prog 32 = none) ∧
    (esz Try.prog 32 = none) ∧
    (zc Try.prog 32 = some [.int .i64 0]) ∧
    (ars Try.prog 32 = none) ∧
    (tag Try.prog 41 = some false) ∧
    (tsz Try.prog 41 = some 1) ∧
    (und Try.prog 41 = true) ∧
    (ik Try.prog 41 = none) ∧
    (kd Try.prog 41 = some 1) ∧
    (esz Try.prog 41 = some 4) ∧
    (elt Try.prog 41 = some 52) ∧
    (zc Try.prog 41 = some [.nils]) ∧
    (ars Try.prog 41 = none) ∧
    (eli Try.prog 41 = some (4, 32, [.int .i64 0, .int .i64 0, .int .i64 0, .int .i64 0])) ∧
    (tag Try.prog 52 = some true) ∧
    (tsz Try.prog 52 = some 4) ∧
    (und Try.prog 52 = true) ∧
    (ik Try.prog 52 = none) ∧
    (kd Try.prog 52 = some 18) ∧
    (esz Try.prog 52 = none) ∧
    (zc Try.prog 52 = some [.int .i64 0, .int .i64 0, .int .i64 0, .int .i64 0]) ∧
    (ars Try.prog 52 = none) ∧
    (fld Try.prog 52 0 = some (0, true, 2)) ∧
    (fld Try.prog 52 1 = some (2, true, 2)) ∧
    (plc Try.prog 52 = some fun i => [(0, 2), (2, 2)][i]?) ∧
    (tag Try.prog 57 = some false) ∧
    (tsz Try.prog 57 = some 1) ∧
    (und Try.prog 57 = true) ∧
    (ik Try.prog 57 = none) ∧
    (kd Try.prog 57 = none) ∧
    (esz Try.prog 57 = none) ∧
    (zc Try.prog 57 = some [.nilf]) ∧
    (ars Try.prog 57 = none) ∧
    (tag Try.prog 59 = some true) ∧
    (tsz Try.prog 59 = some 4) ∧
    (und Try.prog 59 = true) ∧
    (ik Try.prog 59 = none) ∧
    (kd Try.prog 59 = none) ∧
    (esz Try.prog 59 = none) ∧
    (zc Try.prog 59 = some [.int .i64 0, .int .i64 0, .int .i64 0, .bool false]) ∧
    (ars Try.prog 59 = none) ∧
    (fld Try.prog 59 0 = some (0, false, 1)) ∧
    (fld Try.prog 59 1 = some (1, false, 1)) ∧
    (fld Try.prog 59 2 = some (2, false, 1)) ∧
    (fld Try.prog 59 3 = some (3, false, 1)) ∧
    (plc Try.prog 59 = some fun i => [(0, 1), (1, 1), (2, 1), (3, 1)][i]?) ∧
    (tag Try.prog 63 = some false) ∧
    (tsz Try.prog 63 = some 1) ∧
    (und Try.prog 63 = true) ∧
    (ik Try.prog 63 = none) ∧
    (kd Try.prog 63 = some 2) ∧
    (esz Try.prog 63 = none) ∧
    (zc Try.prog 63 = some [.nilp]) ∧
    (ars Try.prog 63 = none) ∧
    (tag Try.prog 68 = some false) ∧
    (tsz Try.prog 68 = some 1) ∧
    (und Try.prog 68 = true) ∧
    (ik Try.prog 68 = some .u64) ∧
    (kd Try.prog 68 = none) ∧
    (esz Try.prog 68 = none) ∧
    (zc Try.prog 68 = some [.int .u64 0]) ∧
    (ars Try.prog 68 = none) :=
  ⟨tag3, tsz3, und3, ik3, kd3, esz3, zc3, ars3, tag4, tsz4, und4, ik4, kd4, esz4, zc4, ars4, tag22, tsz22, und22, ik22, kd22, esz22, elt22, zc22, ars22, eli22, tag23, tsz23, und23, ik23, kd23, esz23, elt23, zc23, ars23, eli23, tag28, tsz28, und28, ik28, kd28, esz28, zc28, ars28, fld28_0, fld28_1, plc28, tag32, tsz32, und32, ik32, kd32, esz32, zc32, ars32, tag41, tsz41, und41, ik41, kd41, esz41, elt41, zc41, ars41, eli41, tag52, tsz52, und52, ik52, kd52, esz52, zc52, ars52, fld52_0, fld52_1, plc52, tag57, tsz57, und57, ik57, kd57, esz57, zc57, ars57, tag59, tsz59, und59, ik59, kd59, esz59, zc59, ars59, fld59_0, fld59_1, fld59_2, fld59_3, plc59, tag63, tsz63, und63, ik63, kd63, esz63, zc63, ars63, tag68, tsz68, und68, ik68, kd68, esz68, zc68, ars68⟩
/-! ### naskh.breaks.Check: function 12 -/
def r12_0 : List PS := [.mk (some 4) (.assign (.const (.int .i64 0))) none]
def r12_1 : List PS := [.mk (some 5) (.assign (.const (.int .i64 0))) none]
def r12_2 : List PS := [.mk (some 8) (.move (.tmp 1)) none,
  .mk (some 9) (.call ⟨(.builtin .len), #[(.tmp 8)], #[23]⟩) none,
  .mk (some 10) (.move (.const (.int .i64 0))) none]
def r12_3 : List PS := [.mk (some 11) (.binOp .lss 3 (.tmp 10) (.tmp 9) 3) none]
def r12_4 : List PS := [.mk (some 12) (.indexAddr 23 (.tmp 8) (.tmp 10)) none,
  .mk (some 13) (.load 3 (.tmp 12)) none,
  .mk (some 7) (.assign (.tmp 13)) none]
def r12_5 : List PS := [.mk (some 14) (.move (.tmp 7)) none,
  .mk (some 15) (.move (.tmp 5)) none,
  .mk (some 16) (.binOp .leq 3 (.tmp 14) (.tmp 15) 3) none,
  .mk (some 17) (.move (.tmp 16)) none,
  .mk (some 18) (.move (.tmp 7)) (some (17, false)),
  .mk (some 19) (.move (.tmp 0)) (some (17, false)),
  .mk (some 20) (.binOp .geq 3 (.tmp 18) (.tmp 19) 3) (some (17, false)),
  .mk (some 21) (.pick (.tmp 17) (.const (.bool true)) (.tmp 20)) none]
def r12_6 : List PS := [.mk (some 4) (.assign (.const (.int .i64 4))) none]
def r12_7 : List PS := [.mk (some 22) (.move (.tmp 7)) none,
  .mk (some 5) (.assign (.tmp 22)) none]
def r12_8 : List PS := [.mk (some 23) (.binOp .add 3 (.tmp 10) (.const (.int .i64 1)) 3) none,
  .mk (some 10) (.move (.tmp 23)) none]
def r12_9 : List PS := [.mk (some 4) (.assign (.const (.int .i64 0))) none]
def c12 : PC := (.seq (.reg false r12_0) (.seq (.reg false r12_1) (.seq (.seq (.reg false r12_2) (.block 0 (.loop (.seq (.reg false r12_3) (.seq (.cond (.tmp 11) .skip (.exit 0)) (.seq (.block 1 (.seq (.reg false r12_4) (.seq (.seq (.reg false r12_5) (.cond (.tmp 21) (.seq (.reg false r12_6) .ret) .skip)) (.reg false r12_7)))) (.reg false r12_8))))))) (.seq (.reg false r12_9) .ret))))
theorem e12 {args : List PV} {h : Heap} {K : PV → Heap → Prop} (hl : args.length = 2) (s : pwp Try.prog [] c12 (fin Try.prog [.tmp 4] h K) (slots0 (olds args)) h) : CanP Try.prog 12 args h K :=
  can_of2 (n := 24) mixed Try.func12 rfl (by kernel_rfl) (by rw [hl]; kernel_rfl) rfl (by kernel_rfl) s
/-! ### naskh.span.Right: function 18 -/
def r18_0 : List PS := [.mk (some 1) (.box 28 (.tmp 0)) none,
  .mk (some 2) (.assign (.const (.bool false))) none]
def r18_1 : List PS := [.mk (some 3) (.fieldAddr 28 (.tmp 1) 0) none,
  .mk (some 4) (.load 3 (.tmp 3)) none,
  .mk (some 5) (.binOp .leq 3 (.const (.int .i64 0)) (.tmp 4) 3) none,
  .mk (some 6) (.move (.tmp 5)) none,
  .mk (some 7) (.fieldAddr 28 (.tmp 1) 0) (some (6, true)),
  .mk (some 8) (.load 3 (.tmp 7)) (some (6, true)),
  .mk (some 9) (.fieldAddr 28 (.tmp 1) 1) (some (6, true)),
  .mk (some 10) (.load 3 (.tmp 9)) (some (6, true)),
  .mk (some 11) (.binOp .lss 3 (.tmp 8) (.tmp 10) 3) (some (6, true)),
  .mk (some 12) (.pick (.tmp 6) (.tmp 11) (.const (.bool false))) none,
  .mk (some 2) (.assign (.tmp 12)) none]
def c18 : PC := (.seq (.reg false r18_0) (.seq (.reg false r18_1) .ret))
theorem e18 {args : List PV} {h : Heap} {K : PV → Heap → Prop} (hl : args.length = 1) (s : pwp Try.prog [] c18 (fin Try.prog [.tmp 2] h K) (slots0 (olds args)) h) : CanP Try.prog 18 args h K :=
  can_of2 (n := 13) mixed Try.func18 rfl (by kernel_rfl) (by rw [hl]; kernel_rfl) rfl (by kernel_rfl) s
/-! ### naskh.span.Parts: function 9 -/
def r9_0 : List PS := [.mk (some 4) (.assign (.const (.bool false))) none]
def r9_1 : List PS := [.mk (some 5) (.assign (.const (.int .i64 0))) none]
def r9_2 : List PS := [.mk (some 8) (.move (.tmp 0)) none,
  .mk (some 9) (.call ⟨(.builtin .len), #[(.tmp 8)], #[22]⟩) none,
  .mk (some 10) (.move (.const (.int .i64 0))) none]
def r9_3 : List PS := [.mk (some 11) (.binOp .lss 3 (.tmp 10) (.tmp 9) 3) none]
def r9_4 : List PS := [.mk (some 12) (.indexAddr 22 (.tmp 8) (.tmp 10)) none,
  .mk (some 13) (.load 28 (.tmp 12)) none,
  .mk (some 7) (.alloc 28) none,
  .mk none (.store 28 (.tmp 7) (.tmp 13)) none,
  .frz 7]
def r9_5 : List PS := [.mk (some 14) (.fieldAddr 28 (.tmp 7) 0) none,
  .mk (some 15) (.load 3 (.tmp 14)) none,
  .mk (some 16) (.move (.tmp 5)) none,
  .mk (some 17) (.binOp .neq 3 (.tmp 15) (.tmp 16) 3) none,
  .mk (some 18) (.move (.tmp 17)) none,
  .mk (some 19) (.load 28 (.tmp 7)) (some (18, false)),
  .mk (some 20) (.call ⟨(.value (.func 18)), #[(.tmp 19)], #[28]⟩) (some (18, false)),
  .mk (some 21) (.unOp .not 4 (.tmp 20)) (some (18, false)),
  .mk (some 22) (.pick (.tmp 18) (.const (.bool true)) (.tmp 21)) none]
def r9_6 : List PS := [.mk (some 4) (.assign (.const (.bool false))) none]
def r9_7 : List PS := [.mk (some 23) (.fieldAddr 28 (.tmp 7) 1) none,
  .mk (some 24) (.load 3 (.tmp 23)) none,
  .mk (some 5) (.assign (.tmp 24)) none]
def r9_8 : List PS := [.mk (some 25) (.binOp .add 3 (.tmp 10) (.const (.int .i64 1)) 3) none,
  .mk (some 10) (.move (.tmp 25)) none]
def r9_9 : List PS := [.mk (some 26) (.move (.tmp 5)) none,
  .mk (some 27) (.move (.tmp 1)) none,
  .mk (some 28) (.binOp .eql 3 (.tmp 26) (.tmp 27) 3) none,
  .mk (some 4) (.assign (.tmp 28)) none]
def c9 : PC := (.seq (.reg false r9_0) (.seq (.reg false r9_1) (.seq (.seq (.reg false r9_2) (.block 0 (.loop (.seq (.reg false r9_3) (.seq (.cond (.tmp 11) .skip (.exit 0)) (.seq (.block 1 (.seq (.reg false r9_4) (.seq (.seq (.reg false r9_5) (.cond (.tmp 22) (.seq (.reg false r9_6) .ret) .skip)) (.reg false r9_7)))) (.reg false r9_8))))))) (.seq (.reg false r9_9) .ret))))
theorem e9 {args : List PV} {h : Heap} {K : PV → Heap → Prop} (hl : args.length = 2) (s : pwp Try.prog [7] c9 (fin Try.prog [.tmp 4] h K) (slots0 (olds args)) h) : CanP Try.prog 9 args h K :=
  can_of2 (n := 29) mixed Try.func9 rfl (by kernel_rfl) (by rw [hl]; kernel_rfl) rfl (by kernel_rfl) s
/-! ### naskh.cluster.sides: function 25 -/
def r25_0 : List PS := [.mk (some 2) (.assign (.const (.slice none 0 0))) none,
  .mk (some 3) (.assign (.const (.slice none 0 0))) none]
def r25_1 : List PS := [.mk (some 8) (.move (.tmp 0)) none,
  .mk (some 9) (.call ⟨(.builtin .len), #[(.tmp 8)], #[41]⟩) none,
  .mk (some 10) (.makeSlice 22 (.const (.int .i64 0)) (.tmp 9)) none,
  .mk (some 11) (.move (.tmp 0)) none,
  .mk (some 12) (.call ⟨(.builtin .len), #[(.tmp 11)], #[41]⟩) none,
  .mk (some 13) (.makeSlice 22 (.const (.int .i64 0)) (.tmp 12)) none,
  .mk (some 4) (.assign (.tmp 10)) none,
  .mk (some 5) (.assign (.tmp 13)) none]
def r25_2 : List PS := [.mk (some 14) (.move (.tmp 0)) none,
  .mk (some 15) (.call ⟨(.builtin .len), #[(.tmp 14)], #[41]⟩) none,
  .mk (some 16) (.move (.const (.int .i64 0))) none]
def r25_3 : List PS := [.mk (some 17) (.binOp .lss 3 (.tmp 16) (.tmp 15) 3) none]
def r25_4 : List PS := [.mk (some 18) (.indexAddr 41 (.tmp 14) (.tmp 16)) none,
  .mk (some 19) (.load 52 (.tmp 18)) none,
  .mk (some 7) (.alloc 52) none,
  .mk none (.store 52 (.tmp 7) (.tmp 19)) none,
  .frz 7]
def r25_5 : List PS := [.mk (some 20) (.move (.tmp 4)) none,
  .mk (some 21) (.fieldAddr 52 (.tmp 7) 0) none,
  .mk (some 22) (.load 28 (.tmp 21)) none,
  .mk (some 23) (.buildSlice 22 1 #[(0, (.tmp 22))]) none,
  .mk (some 24) (.call ⟨(.builtin .append), #[(.tmp 20), (.tmp 23)], #[22, 22]⟩) none,
  .mk (some 25) (.move (.tmp 5)) none,
  .mk (some 26) (.fieldAddr 52 (.tmp 7) 1) none,
  .mk (some 27) (.load 28 (.tmp 26)) none,
  .mk (some 28) (.buildSlice 22 1 #[(0, (.tmp 27))]) none,
  .mk (some 29) (.call ⟨(.builtin .append), #[(.tmp 25), (.tmp 28)], #[22, 22]⟩) none,
  .mk (some 4) (.assign (.tmp 24)) none,
  .mk (some 5) (.assign (.tmp 29)) none]
def r25_6 : List PS := [.mk (some 30) (.binOp .add 3 (.tmp 16) (.const (.int .i64 1)) 3) none,
  .mk (some 16) (.move (.tmp 30)) none]
def r25_7 : List PS := [.mk (some 31) (.move (.tmp 4)) none,
  .mk (some 32) (.move (.tmp 5)) none,
  .mk (some 2) (.assign (.tmp 31)) none,
  .mk (some 3) (.assign (.tmp 32)) none]
def c25 : PC := (.seq (.reg false r25_0) (.seq (.reg true r25_1) (.seq (.seq (.reg false r25_2) (.block 0 (.loop (.seq (.reg false r25_3) (.seq (.cond (.tmp 17) .skip (.exit 0)) (.seq (.block 1 (.seq (.reg false r25_4) (.reg true r25_5))) (.reg false r25_6))))))) (.seq (.reg false r25_7) .ret))))
theorem e25 {args : List PV} {h : Heap} {K : PV → Heap → Prop} (hl : args.length = 1) (s : pwp Try.prog [7, 27] c25 (fin Try.prog [.tmp 2, .tmp 3] h K) (slots0 (olds args)) h) : CanP Try.prog 25 args h K :=
  can_of2 (n := 33) mixed Try.func25 rfl (by kernel_rfl) (by rw [hl]; kernel_rfl) rfl (by kernel_rfl) s
/-! ### slices.insertionSortCmpFunc[naskh.api.Span]: function 32 -/
def r32_0 : List PS := [.mk (some 10) (.move (.tmp 1)) none,
  .mk (some 11) (.binOp .add 3 (.tmp 10) (.const (.int .i64 1)) 3) none,
  .mk (some 8) (.assign (.tmp 11)) none]
def r32_1 : List PS := [.mk (some 12) (.move (.tmp 8)) none,
  .mk (some 13) (.move (.tmp 2)) none,
  .mk (some 14) (.binOp .lss 3 (.tmp 12) (.tmp 13) 3) none]
def r32_2 : List PS := [.mk (some 17) (.move (.tmp 8)) none,
  .mk (some 9) (.assign (.tmp 17)) none]
def r32_3 : List PS := [.mk (some 18) (.move (.tmp 9)) none,
  .mk (some 19) (.move (.tmp 1)) none,
  .mk (some 20) (.binOp .gtr 3 (.tmp 18) (.tmp 19) 3) none,
  .mk (some 21) (.move (.tmp 20)) none,
  .mk (some 22) (.move (.tmp 3)) (some (21, true)),
  .mk (some 23) (.move (.tmp 0)) (some (21, true)),
  .mk (some 24) (.move (.tmp 9)) (some (21, true)),
  .mk (some 25) (.indexAddr 22 (.tmp 23) (.tmp 24)) (some (21, true)),
  .mk (some 26) (.load 28 (.tmp 25)) (some (21, true)),
  .mk (some 27) (.move (.tmp 0)) (some (21, true)),
  .mk (some 28) (.move (.tmp 9)) (some (21, true)),
  .mk (some 29) (.binOp .sub 3 (.tmp 28) (.const (.int .i64 1)) 3) (some (21, true)),
  .mk (some 30) (.indexAddr 22 (.tmp 27) (.tmp 29)) (some (21, true)),
  .mk (some 31) (.load 28 (.tmp 30)) (some (21, true)),
  .mk (some 32) (.call ⟨(.value (.tmp 22)), #[(.tmp 26), (.tmp 31)], #[28, 28]⟩) (some (21, true)),
  .mk (some 33) (.binOp .lss 3 (.tmp 32) (.const (.int .i64 0)) 3) (some (21, true)),
  .mk (some 34) (.pick (.tmp 21) (.tmp 33) (.const (.bool false))) none]
def r32_4 : List PS := [.mk (some 37) (.move (.tmp 0)) none,
  .mk (some 38) (.move (.tmp 9)) none,
  .mk (some 39) (.move (.tmp 0)) none,
  .mk (some 40) (.move (.tmp 9)) none,
  .mk (some 41) (.binOp .sub 3 (.tmp 40) (.const (.int .i64 1)) 3) none,
  .mk (some 42) (.move (.tmp 0)) none,
  .mk (some 43) (.move (.tmp 9)) none,
  .mk (some 44) (.binOp .sub 3 (.tmp 43) (.const (.int .i64 1)) 3) none,
  .mk (some 45) (.indexAddr 22 (.tmp 42) (.tmp 44)) none,
  .mk (some 46) (.load 28 (.tmp 45)) none,
  .mk (some 47) (.move (.tmp 0)) none,
  .mk (some 48) (.move (.tmp 9)) none,
  .mk (some 49) (.indexAddr 22 (.tmp 47) (.tmp 48)) none,
  .mk (some 50) (.load 28 (.tmp 49)) none,
  .mk (some 51) (.indexAddr 22 (.tmp 37) (.tmp 38)) none,
  .mk none (.store 28 (.tmp 51) (.tmp 46)) none,
  .mk (some 52) (.indexAddr 22 (.tmp 39) (.tmp 41)) none,
  .mk none (.store 28 (.tmp 52) (.tmp 50)) none]
def r32_5 : List PS := [.mk (some 35) (.move (.tmp 9)) none,
  .mk (some 36) (.binOp .sub 3 (.tmp 35) (.const (.int .i64 1)) 3) none,
  .mk (some 9) (.assign (.tmp 36)) none]
def r32_6 : List PS := [.mk (some 15) (.move (.tmp 8)) none,
  .mk (some 16) (.binOp .add 3 (.tmp 15) (.const (.int .i64 1)) 3) none,
  .mk (some 8) (.assign (.tmp 16)) none]
def c32 : PC := (.seq (.reg false r32_0) (.block 0 (.loop (.seq (.seq (.reg false r32_1) (.cond (.tmp 14) .skip (.exit 0))) (.seq (.block 1 (.seq (.reg false r32_2) (.block 2 (.loop (.seq (.seq (.reg true r32_3) (.cond (.tmp 34) .skip (.exit 2))) (.seq (.block 3 (.reg true r32_4)) (.reg false r32_5))))))) (.reg false r32_6))))))
theorem e32 {args : List PV} {h : Heap} {K : PV → Heap → Prop} (hl : args.length = 4) (s : pwp Try.prog [] c32 (fin Try.prog [] h K) (slots0 (olds args)) h) : CanP Try.prog 32 args h K :=
  can_of2 (n := 53) mixed Try.func32 rfl (by kernel_rfl) (by rw [hl]; kernel_rfl) rfl (by kernel_rfl) s
/-! ### slices.swapRangeCmpFunc[naskh.api.Span]: function 36 -/
def r36_0 : List PS := [.mk (some 10) (.assign (.const (.int .i64 0))) none]
def r36_1 : List PS := [.mk (some 11) (.move (.tmp 10)) none,
  .mk (some 12) (.move (.tmp 3)) none,
  .mk (some 13) (.binOp .lss 3 (.tmp 11) (.tmp 12) 3) none]
def r36_2 : List PS := [.mk (some 16) (.move (.tmp 0)) none,
  .mk (some 17) (.move (.tmp 1)) none,
  .mk (some 18) (.move (.tmp 10)) none,
  .mk (some 19) (.binOp .add 3 (.tmp 17) (.tmp 18) 3) none,
  .mk (some 20) (.move (.tmp 0)) none,
  .mk (some 21) (.move (.tmp 2)) none,
  .mk (some 22) (.move (.tmp 10)) none,
  .mk (some 23) (.binOp .add 3 (.tmp 21) (.tmp 22) 3) none,
  .mk (some 24) (.move (.tmp 0)) none,
  .mk (some 25) (.move (.tmp 2)) none,
  .mk (some 26) (.move (.tmp 10)) none,
  .mk (some 27) (.binOp .add 3 (.tmp 25) (.tmp 26) 3) none,
  .mk (some 28) (.indexAddr 22 (.tmp 24) (.tmp 27)) none,
  .mk (some 29) (.load 28 (.tmp 28)) none,
  .mk (some 30) (.move (.tmp 0)) none,
  .mk (some 31) (.move (.tmp 1)) none,
  .mk (some 32) (.move (.tmp 10)) none,
  .mk (some 33) (.binOp .add 3 (.tmp 31) (.tmp 32) 3) none,
  .mk (some 34) (.indexAddr 22 (.tmp 30) (.tmp 33)) none,
  .mk (some 35) (.load 28 (.tmp 34)) none,
  .mk (some 36) (.indexAddr 22 (.tmp 16) (.tmp 19)) none,
  .mk none (.store 28 (.tmp 36) (.tmp 29)) none,
  .mk (some 37) (.indexAddr 22 (.tmp 20) (.tmp 23)) none,
  .mk none (.store 28 (.tmp 37) (.tmp 35)) none]
def r36_3 : List PS := [.mk (some 14) (.move (.tmp 10)) none,
  .mk (some 15) (.binOp .add 3 (.tmp 14) (.const (.int .i64 1)) 3) none,
  .mk (some 10) (.assign (.tmp 15)) none]
def c36 : PC := (.seq (.reg false r36_0) (.block 0 (.loop (.seq (.seq (.reg false r36_1) (.cond (.tmp 13) .skip (.exit 0))) (.seq (.block 1 (.reg true r36_2)) (.reg false r36_3))))))
theorem e36 {args : List PV} {h : Heap} {K : PV → Heap → Prop} (hl : args.length = 5) (s : pwp Try.prog [] c36 (fin Try.prog [] h K) (slots0 (olds args)) h) : CanP Try.prog 36 args h K :=
  can_of2 (n := 38) mixed Try.func36 rfl (by kernel_rfl) (by rw [hl]; kernel_rfl) rfl (by kernel_rfl) s
/-! ### slices.rotateCmpFunc[naskh.api.Span]: function 35 -/
def r35_0 : List PS := [.mk (some 12) (.move (.tmp 2)) none,
  .mk (some 13) (.move (.tmp 1)) none,
  .mk (some 14) (.binOp .sub 3 (.tmp 12) (.tmp 13) 3) none,
  .mk (some 10) (.assign (.tmp 14)) none]
def r35_1 : List PS := [.mk (some 15) (.move (.tmp 3)) none,
  .mk (some 16) (.move (.tmp 2)) none,
  .mk (some 17) (.binOp .sub 3 (.tmp 15) (.tmp 16) 3) none,
  .mk (some 11) (.assign (.tmp 17)) none]
def r35_2 : List PS := [.mk (some 18) (.move (.tmp 10)) none,
  .mk (some 19) (.move (.tmp 11)) none,
  .mk (some 20) (.binOp .neq 3 (.tmp 18) (.tmp 19) 3) none]
def r35_3 : List PS := [.mk (some 21) (.move (.tmp 10)) none,
  .mk (some 22) (.move (.tmp 11)) none,
  .mk (some 23) (.binOp .gtr 3 (.tmp 21) (.tmp 22) 3) none]
def r35_4 : List PS := [.mk (some 24) (.move (.tmp 0)) none,
  .mk (some 25) (.move (.tmp 2)) none,
  .mk (some 26) (.move (.tmp 10)) none,
  .mk (some 27) (.binOp .sub 3 (.tmp 25) (.tmp 26) 3) none,
  .mk (some 28) (.move (.tmp 2)) none,
  .mk (some 29) (.move (.tmp 11)) none,
  .mk (some 30) (.move (.tmp 4)) none,
  .mk (some 31) (.call ⟨(.value (.func 36)), #[(.tmp 24), (.tmp 27), (.tmp 28), (.tmp 29), (.tmp 30)], #[22, 3, 3, 3, 57]⟩) none]
def r35_5 : List PS := [.mk (some 32) (.move (.tmp 10)) none,
  .mk (some 33) (.move (.tmp 11)) none,
  .mk (some 34) (.binOp .sub 3 (.tmp 32) (.tmp 33) 3) none,
  .mk (some 10) (.assign (.tmp 34)) none]
def r35_6 : List PS := [.mk (some 35) (.move (.tmp 0)) none,
  .mk (some 36) (.move (.tmp 2)) none,
  .mk (some 37) (.move (.tmp 10)) none,
  .mk (some 38) (.binOp .sub 3 (.tmp 36) (.tmp 37) 3) none,
  .mk (some 39) (.move (.tmp 2)) none,
  .mk (some 40) (.move (.tmp 11)) none,
  .mk (some 41) (.binOp .add 3 (.tmp 39) (.tmp 40) 3) none,
  .mk (some 42) (.move (.tmp 10)) none,
  .mk (some 43) (.binOp .sub 3 (.tmp 41) (.tmp 42) 3) none,
  .mk (some 44) (.move (.tmp 10)) none,
  .mk (some 45) (.move (.tmp 4)) none,
  .mk (some 46) (.call ⟨(.value (.func 36)), #[(.tmp 35), (.tmp 38), (.tmp 43), (.tmp 44), (.tmp 45)], #[22, 3, 3, 3, 57]⟩) none]
def r35_7 : List PS := [.mk (some 47) (.move (.tmp 11)) none,
  .mk (some 48) (.move (.tmp 10)) none,
  .mk (some 49) (.binOp .sub 3 (.tmp 47) (.tmp 48) 3) none,
  .mk (some 11) (.assign (.tmp 49)) none]
def r35_8 : List PS := [.mk (some 50) (.move (.tmp 0)) none,
  .mk (some 51) (.move (.tmp 2)) none,
  .mk (some 52) (.move (.tmp 10)) none,
  .mk (some 53) (.binOp .sub 3 (.tmp 51) (.tmp 52) 3) none,
  .mk (some 54) (.move (.tmp 2)) none,
  .mk (some 55) (.move (.tmp 10)) none,
  .mk (some 56) (.move (.tmp 4)) none,
  .mk (some 57) (.call ⟨(.value (.func 36)), #[(.tmp 50), (.tmp 53), (.tmp 54), (.tmp 55), (.tmp 56)], #[22, 3, 3, 3, 57]⟩) none]
def c35 : PC := (.seq (.reg false r35_0) (.seq (.reg false r35_1) (.seq (.block 0 (.loop (.seq (.seq (.reg false r35_2) (.cond (.tmp 20) .skip (.exit 0))) (.block 1 (.seq (.reg false r35_3) (.cond (.tmp 23) (.seq (.reg false r35_4) (.reg false r35_5)) (.seq (.reg false r35_6) (.reg false r35_7)))))))) (.reg false r35_8))))
theorem e35 {args : List PV} {h : Heap} {K : PV → Heap → Prop} (hl : args.length = 5) (s : pwp Try.prog [] c35 (fin Try.prog [] h K) (slots0 (olds args)) h) : CanP Try.prog 35 args h K :=
  can_of2 (n := 58) mixed Try.func35 rfl (by kernel_rfl) (by rw [hl]; kernel_rfl) rfl (by kernel_rfl) s
/-! ### slices.symMergeCmpFunc[naskh.api.Span]: function 33 -/
def r33_0 : List PS := [.mk (some 25) (.move (.tmp 2)) none,
  .mk (some 26) (.move (.tmp 1)) none,
  .mk (some 27) (.binOp .sub 3 (.tmp 25) (.tmp 26) 3) none,
  .mk (some 28) (.binOp .eql 3 (.tmp 27) (.const (.int .i64 1)) 3) none]
def r33_1 : List PS := [.mk (some 29) (.move (.tmp 2)) none,
  .mk (some 10) (.assign (.tmp 29)) none]
def r33_2 : List PS := [.mk (some 30) (.move (.tmp 3)) none,
  .mk (some 11) (.assign (.tmp 30)) none]
def r33_3 : List PS := [.mk (some 31) (.move (.tmp 10)) none,
  .mk (some 32) (.move (.tmp 11)) none,
  .mk (some 33) (.binOp .lss 3 (.tmp 31) (.tmp 32) 3) none]
def r33_4 : List PS := [.mk (some 34) (.move (.tmp 10)) none,
  .mk (some 35) (.move (.tmp 11)) none,
  .mk (some 36) (.binOp .add 3 (.tmp 34) (.tmp 35) 3) none,
  .mk (some 37) (.convert 3 68 (.tmp 36)) none,
  .mk (some 38) (.binOp .shr 68 (.tmp 37) (.const (.int .u64 1)) 68) none,
  .mk (some 39) (.convert 68 3 (.tmp 38)) none,
  .mk (some 12) (.assign (.tmp 39)) none]
def r33_5 : List PS := [.mk (some 40) (.move (.tmp 4)) none,
  .mk (some 41) (.move (.tmp 0)) none,
  .mk (some 42) (.move (.tmp 12)) none,
  .mk (some 43) (.indexAddr 22 (.tmp 41) (.tmp 42)) none,
  .mk (some 44) (.load 28 (.tmp 43)) none,
  .mk (some 45) (.move (.tmp 0)) none,
  .mk (some 46) (.move (.tmp 1)) none,
  .mk (some 47) (.indexAddr 22 (.tmp 45) (.tmp 46)) none,
  .mk (some 48) (.load 28 (.tmp 47)) none,
  .mk (some 49) (.call ⟨(.value (.tmp 40)), #[(.tmp 44), (.tmp 48)], #[28, 28]⟩) none,
  .mk (some 50) (.binOp .lss 3 (.tmp 49) (.const (.int .i64 0)) 3) none]
def r33_6 : List PS := [.mk (some 51) (.move (.tmp 12)) none,
  .mk (some 52) (.binOp .add 3 (.tmp 51) (.const (.int .i64 1)) 3) none,
  .mk (some 10) (.assign (.tmp 52)) none]
def r33_7 : List PS := [.mk (some 53) (.move (.tmp 12)) none,
  .mk (some 11) (.assign (.tmp 53)) none]
def r33_8 : List PS := [.mk (some 54) (.move (.tmp 1)) none,
  .mk (some 13) (.assign (.tmp 54)) none]
def r33_9 : List PS := [.mk (some 55) (.move (.tmp 13)) none,
  .mk (some 56) (.move (.tmp 10)) none,
  .mk (some 57) (.binOp .sub 3 (.tmp 56) (.const (.int .i64 1)) 3) none,
  .mk (some 58) (.binOp .lss 3 (.tmp 55) (.tmp 57) 3) none]
def r33_10 : List PS := [.mk (some 61) (.move (.tmp 0)) none,
  .mk (some 62) (.move (.tmp 13)) none,
  .mk (some 63) (.move (.tmp 0)) none,
  .mk (some 64) (.move (.tmp 13)) none,
  .mk (some 65) (.binOp .add 3 (.tmp 64) (.const (.int .i64 1)) 3) none,
  .mk (some 66) (.move (.tmp 0)) none,
  .mk (some 67) (.move (.tmp 13)) none,
  .mk (some 68) (.binOp .add 3 (.tmp 67) (.const (.int .i64 1)) 3) none,
  .mk (some 69) (.indexAddr 22 (.tmp 66) (.tmp 68)) none,
  .mk (some 70) (.load 28 (.tmp 69)) none,
  .mk (some 71) (.move (.tmp 0)) none,
  .mk (some 72) (.move (.tmp 13)) none,
  .mk (some 73) (.indexAddr 22 (.tmp 71) (.tmp 72)) none,
  .mk (some 74) (.load 28 (.tmp 73)) none,
  .mk (some 75) (.indexAddr 22 (.tmp 61) (.tmp 62)) none,
  .mk none (.store 28 (.tmp 75) (.tmp 70)) none,
  .mk (some 76) (.indexAddr 22 (.tmp 63) (.tmp 65)) none,
  .mk none (.store 28 (.tmp 76) (.tmp 74)) none]
def r33_11 : List PS := [.mk (some 59) (.move (.tmp 13)) none,
  .mk (some 60) (.binOp .add 3 (.tmp 59) (.const (.int .i64 1)) 3) none,
  .mk (some 13) (.assign (.tmp 60)) none]
def r33_12 : List PS := [.mk (some 77) (.move (.tmp 3)) none,
  .mk (some 78) (.move (.tmp 2)) none,
  .mk (some 79) (.binOp .sub 3 (.tmp 77) (.tmp 78) 3) none,
  .mk (some 80) (.binOp .eql 3 (.tmp 79) (.const (.int .i64 1)) 3) none]
def r33_13 : List PS := [.mk (some 81) (.move (.tmp 1)) none,
  .mk (some 14) (.assign (.tmp 81)) none]
def r33_14 : List PS := [.mk (some 82) (.move (.tmp 2)) none,
  .mk (some 15) (.assign (.tmp 82)) none]
def r33_15 : List PS := [.mk (some 83) (.move (.tmp 14)) none,
  .mk (some 84) (.move (.tmp 15)) none,
  .mk (some 85) (.binOp .lss 3 (.tmp 83) (.tmp 84) 3) none]
def r33_16 : List PS := [.mk (some 86) (.move (.tmp 14)) none,
  .mk (some 87) (.move (.tmp 15)) none,
  .mk (some 88) (.binOp .add 3 (.tmp 86) (.tmp 87) 3) none,
  .mk (some 89) (.convert 3 68 (.tmp 88)) none,
  .mk (some 90) (.binOp .shr 68 (.tmp 89) (.const (.int .u64 1)) 68) none,
  .mk (some 91) (.convert 68 3 (.tmp 90)) none,
  .mk (some 16) (.assign (.tmp 91)) none]
def r33_17 : List PS := [.mk (some 92) (.move (.tmp 4)) none,
  .mk (some 93) (.move (.tmp 0)) none,
  .mk (some 94) (.move (.tmp 2)) none,
  .mk (some 95) (.indexAddr 22 (.tmp 93) (.tmp 94)) none,
  .mk (some 96) (.load 28 (.tmp 95)) none,
  .mk (some 97) (.move (.tmp 0)) none,
  .mk (some 98) (.move (.tmp 16)) none,
  .mk (some 99) (.indexAddr 22 (.tmp 97) (.tmp 98)) none,
  .mk (some 100) (.load 28 (.tmp 99)) none,
  .mk (some 101) (.call ⟨(.value (.tmp 92)), #[(.tmp 96), (.tmp 100)], #[28, 28]⟩) none,
  .mk (some 102) (.binOp .lss 3 (.tmp 101) (.const (.int .i64 0)) 3) none,
  .mk (some 103) (.unOp .not 4 (.tmp 102)) none]
def r33_18 : List PS := [.mk (some 104) (.move (.tmp 16)) none,
  .mk (some 105) (.binOp .add 3 (.tmp 104) (.const (.int .i64 1)) 3) none,
  .mk (some 14) (.assign (.tmp 105)) none]
def r33_19 : List PS := [.mk (some 106) (.move (.tmp 16)) none,
  .mk (some 15) (.assign (.tmp 106)) none]
def r33_20 : List PS := [.mk (some 107) (.move (.tmp 2)) none,
  .mk (some 17) (.assign (.tmp 107)) none]
def r33_21 : List PS := [.mk (some 108) (.move (.tmp 17)) none,
  .mk (some 109) (.move (.tmp 14)) none,
  .mk (some 110) (.binOp .gtr 3 (.tmp 108) (.tmp 109) 3) none]
def r33_22 : List PS := [.mk (some 113) (.move (.tmp 0)) none,
  .mk (some 114) (.move (.tmp 17)) none,
  .mk (some 115) (.move (.tmp 0)) none,
  .mk (some 116) (.move (.tmp 17)) none,
  .mk (some 117) (.binOp .sub 3 (.tmp 116) (.const (.int .i64 1)) 3) none,
  .mk (some 118) (.move (.tmp 0)) none,
  .mk (some 119) (.move (.tmp 17)) none,
  .mk (some 120) (.binOp .sub 3 (.tmp 119) (.const (.int .i64 1)) 3) none,
  .mk (some 121) (.indexAddr 22 (.tmp 118) (.tmp 120)) none,
  .mk (some 122) (.load 28 (.tmp 121)) none,
  .mk (some 123) (.move (.tmp 0)) none,
  .mk (some 124) (.move (.tmp 17)) none,
  .mk (some 125) (.indexAddr 22 (.tmp 123) (.tmp 124)) none,
  .mk (some 126) (.load 28 (.tmp 125)) none,
  .mk (some 127) (.indexAddr 22 (.tmp 113) (.tmp 114)) none,
  .mk none (.store 28 (.tmp 127) (.tmp 122)) none,
  .mk (some 128) (.indexAddr 22 (.tmp 115) (.tmp 117)) none,
  .mk none (.store 28 (.tmp 128) (.tmp 126)) none]
def r33_23 : List PS := [.mk (some 111) (.move (.tmp 17)) none,
  .mk (some 112) (.binOp .sub 3 (.tmp 111) (.const (.int .i64 1)) 3) none,
  .mk (some 17) (.assign (.tmp 112)) none]
def r33_24 : List PS := [.mk (some 129) (.move (.tmp 1)) none,
  .mk (some 130) (.move (.tmp 3)) none,
  .mk (some 131) (.binOp .add 3 (.tmp 129) (.tmp 130) 3) none,
  .mk (some 132) (.convert 3 68 (.tmp 131)) none,
  .mk (some 133) (.binOp .shr 68 (.tmp 132) (.const (.int .u64 1)) 68) none,
  .mk (some 134) (.convert 68 3 (.tmp 133)) none,
  .mk (some 18) (.assign (.tmp 134)) none]
def r33_25 : List PS := [.mk (some 135) (.move (.tmp 18)) none,
  .mk (some 136) (.move (.tmp 2)) none,
  .mk (some 137) (.binOp .add 3 (.tmp 135) (.tmp 136) 3) none,
  .mk (some 19) (.assign (.tmp 137)) none]
def r33_26 : List PS := [.mk (some 20) (.assign (.const (.int .i64 0))) none,
  .mk (some 21) (.assign (.const (.int .i64 0))) none]
def r33_27 : List PS := [.mk (some 138) (.move (.tmp 2)) none,
  .mk (some 139) (.move (.tmp 18)) none,
  .mk (some 140) (.binOp .gtr 3 (.tmp 138) (.tmp 139) 3) none]
def r33_28 : List PS := [.mk (some 141) (.move (.tmp 19)) none,
  .mk (some 142) (.move (.tmp 3)) none,
  .mk (some 143) (.binOp .sub 3 (.tmp 141) (.tmp 142) 3) none,
  .mk (some 20) (.assign (.tmp 143)) none]
def r33_29 : List PS := [.mk (some 144) (.move (.tmp 18)) none,
  .mk (some 21) (.assign (.tmp 144)) none]
def r33_30 : List PS := [.mk (some 145) (.move (.tmp 1)) none,
  .mk (some 20) (.assign (.tmp 145)) none]
def r33_31 : List PS := [.mk (some 146) (.move (.tmp 2)) none,
  .mk (some 21) (.assign (.tmp 146)) none]
def r33_32 : List PS := [.mk (some 147) (.move (.tmp 19)) none,
  .mk (some 148) (.binOp .sub 3 (.tmp 147) (.const (.int .i64 1)) 3) none,
  .mk (some 22) (.assign (.tmp 148)) none]
def r33_33 : List PS := [.mk (some 149) (.move (.tmp 20)) none,
  .mk (some 150) (.move (.tmp 21)) none,
  .mk (some 151) (.binOp .lss 3 (.tmp 149) (.tmp 150) 3) none]
def r33_34 : List PS := [.mk (some 152) (.move (.tmp 20)) none,
  .mk (some 153) (.move (.tmp 21)) none,
  .mk (some 154) (.binOp .add 3 (.tmp 152) (.tmp 153) 3) none,
  .mk (some 155) (.convert 3 68 (.tmp 154)) none,
  .mk (some 156) (.binOp .shr 68 (.tmp 155) (.const (.int .u64 1)) 68) none,
  .mk (some 157) (.convert 68 3 (.tmp 156)) none,
  .mk (some 23) (.assign (.tmp 157)) none]
def r33_35 : List PS := [.mk (some 158) (.move (.tmp 4)) none,
  .mk (some 159) (.move (.tmp 0)) none,
  .mk (some 160) (.move (.tmp 22)) none,
  .mk (some 161) (.move (.tmp 23)) none,
  .mk (some 162) (.binOp .sub 3 (.tmp 160) (.tmp 161) 3) none,
  .mk (some 163) (.indexAddr 22 (.tmp 159) (.tmp 162)) none,
  .mk (some 164) (.load 28 (.tmp 163)) none,
  .mk (some 165) (.move (.tmp 0)) none,
  .mk (some 166) (.move (.tmp 23)) none,
  .mk (some 167) (.indexAddr 22 (.tmp 165) (.tmp 166)) none,
  .mk (some 168) (.load 28 (.tmp 167)) none,
  .mk (some 169) (.call ⟨(.value (.tmp 158)), #[(.tmp 164), (.tmp 168)], #[28, 28]⟩) none,
  .mk (some 170) (.binOp .lss 3 (.tmp 169) (.const (.int .i64 0)) 3) none,
  .mk (some 171) (.unOp .not 4 (.tmp 170)) none]
def r33_36 : List PS := [.mk (some 172) (.move (.tmp 23)) none,
  .mk (some 173) (.binOp .add 3 (.tmp 172) (.const (.int .i64 1)) 3) none,
  .mk (some 20) (.assign (.tmp 173)) none]
def r33_37 : List PS := [.mk (some 174) (.move (.tmp 23)) none,
  .mk (some 21) (.assign (.tmp 174)) none]
def r33_38 : List PS := [.mk (some 175) (.move (.tmp 19)) none,
  .mk (some 176) (.move (.tmp 20)) none,
  .mk (some 177) (.binOp .sub 3 (.tmp 175) (.tmp 176) 3) none,
  .mk (some 24) (.assign (.tmp 177)) none]
def r33_39 : List PS := [.mk (some 178) (.move (.tmp 20)) none,
  .mk (some 179) (.move (.tmp 2)) none,
  .mk (some 180) (.binOp .lss 3 (.tmp 178) (.tmp 179) 3) none,
  .mk (some 181) (.move (.tmp 180)) none,
  .mk (some 182) (.move (.tmp 2)) (some (181, true)),
  .mk (some 183) (.move (.tmp 24)) (some (181, true)),
  .mk (some 184) (.binOp .lss 3 (.tmp 182) (.tmp 183) 3) (some (181, true)),
  .mk (some 185) (.pick (.tmp 181) (.tmp 184) (.const (.bool false))) none]
def r33_40 : List PS := [.mk (some 186) (.move (.tmp 0)) none,
  .mk (some 187) (.move (.tmp 20)) none,
  .mk (some 188) (.move (.tmp 2)) none,
  .mk (some 189) (.move (.tmp 24)) none,
  .mk (some 190) (.move (.tmp 4)) none,
  .mk (some 191) (.call ⟨(.value (.func 35)), #[(.tmp 186), (.tmp 187), (.tmp 188), (.tmp 189), (.tmp 190)], #[22, 3, 3, 3, 57]⟩) none]
def r33_41 : List PS := [.mk (some 192) (.move (.tmp 1)) none,
  .mk (some 193) (.move (.tmp 20)) none,
  .mk (some 194) (.binOp .lss 3 (.tmp 192) (.tmp 193) 3) none,
  .mk (some 195) (.move (.tmp 194)) none,
  .mk (some 196) (.move (.tmp 20)) (some (195, true)),
  .mk (some 197) (.move (.tmp 18)) (some (195, true)),
  .mk (some 198) (.binOp .lss 3 (.tmp 196) (.tmp 197) 3) (some (195, true)),
  .mk (some 199) (.pick (.tmp 195) (.tmp 198) (.const (.bool false))) none]
def r33_42 : List PS := [.mk (some 200) (.move (.tmp 0)) none,
  .mk (some 201) (.move (.tmp 1)) none,
  .mk (some 202) (.move (.tmp 20)) none,
  .mk (some 203) (.move (.tmp 18)) none,
  .mk (some 204) (.move (.tmp 4)) none,
  .mk (some 205) (.call ⟨(.value (.func 33)), #[(.tmp 200), (.tmp 201), (.tmp 202), (.tmp 203), (.tmp 204)], #[22, 3, 3, 3, 57]⟩) none]
def r33_43 : List PS := [.mk (some 206) (.move (.tmp 18)) none,
  .mk (some 207) (.move (.tmp 24)) none,
  .mk (some 208) (.binOp .lss 3 (.tmp 206) (.tmp 207) 3) none,
  .mk (some 209) (.move (.tmp 208)) none,
  .mk (some 210) (.move (.tmp 24)) (some (209, true)),
  .mk (some 211) (.move (.tmp 3)) (some (209, true)),
  .mk (some 212) (.binOp .lss 3 (.tmp 210) (.tmp 211) 3) (some (209, true)),
  .mk (some 213) (.pick (.tmp 209) (.tmp 212) (.const (.bool false))) none]
def r33_44 : List PS := [.mk (some 214) (.move (.tmp 0)) none,
  .mk (some 215) (.move (.tmp 18)) none,
  .mk (some 216) (.move (.tmp 24)) none,
  .mk (some 217) (.move (.tmp 3)) none,
  .mk (some 218) (.move (.tmp 4)) none,
  .mk (some 219) (.call ⟨(.value (.func 33)), #[(.tmp 214), (.tmp 215), (.tmp 216), (.tmp 217), (.tmp 218)], #[22, 3, 3, 3, 57]⟩) none]
def c33 : PC := (.seq (.seq (.reg false r33_0) (.cond (.tmp 28) (.seq (.reg false r33_1) (.seq (.reg false r33_2) (.seq (.block 0 (.loop (.seq (.seq (.reg false r33_3) (.cond (.tmp 33) .skip (.exit 0))) (.block 1 (.seq (.reg false r33_4) (.seq (.reg true r33_5) (.cond (.tmp 50) (.reg false r33_6) (.reg false r33_7)))))))) (.seq (.seq (.reg false r33_8) (.block 2 (.loop (.seq (.seq (.reg false r33_9) (.cond (.tmp 58) .skip (.exit 2))) (.seq (.block 3 (.reg true r33_10)) (.reg false r33_11)))))) .ret)))) .skip)) (.seq (.seq (.reg false r33_12) (.cond (.tmp 80) (.seq (.reg false r33_13) (.seq (.reg false r33_14) (.seq (.block 4 (.loop (.seq (.seq (.reg false r33_15) (.cond (.tmp 85) .skip (.exit 4))) (.block 5 (.seq (.reg false r33_16) (.seq (.reg true r33_17) (.cond (.tmp 103) (.reg false r33_18) (.reg false r33_19)))))))) (.seq (.seq (.reg false r33_20) (.block 6 (.loop (.seq (.seq (.reg false r33_21) (.cond (.tmp 110) .skip (.exit 6))) (.seq (.block 7 (.reg true r33_22)) (.reg false r33_23)))))) .ret)))) .skip)) (.seq (.reg false r33_24) (.seq (.reg false r33_25) (.seq (.reg false r33_26) (.seq (.seq (.reg false r33_27) (.cond (.tmp 140) (.seq (.reg false r33_28) (.reg false r33_29)) (.seq (.reg false r33_30) (.reg false r33_31)))) (.seq (.reg false r33_32) (.seq (.block 8 (.loop (.seq (.seq (.reg false r33_33) (.cond (.tmp 151) .skip (.exit 8))) (.block 9 (.seq (.reg false r33_34) (.seq (.reg true r33_35) (.cond (.tmp 171) (.reg false r33_36) (.reg false r33_37)))))))) (.seq (.reg false r33_38) (.seq (.seq (.reg false r33_39) (.cond (.tmp 185) (.reg false r33_40) .skip)) (.seq (.seq (.reg false r33_41) (.cond (.tmp 199) (.reg false r33_42) .skip)) (.seq (.reg false r33_43) (.cond (.tmp 213) (.reg false r33_44) .skip)))))))))))))
theorem e33 {args : List PV} {h : Heap} {K : PV → Heap → Prop} (hl : args.length = 5) (s : pwp Try.prog [] c33 (fin Try.prog [] h K) (slots0 (olds args)) h) : CanP Try.prog 33 args h K :=
  can_of2 (n := 220) mixed Try.func33 rfl (by kernel_rfl) (by rw [hl]; kernel_rfl) rfl (by kernel_rfl) s
/-! ### slices.stableCmpFunc[naskh.api.Span]: function 29 -/
def r29_0 : List PS := [.mk (some 6) (.assign (.const (.int .i64 20))) none]
def r29_1 : List PS := [.mk (some 10) (.move (.tmp 6)) none,
  .mk (some 7) (.assign (.const (.int .i64 0))) none,
  .mk (some 8) (.assign (.tmp 10)) none]
def r29_2 : List PS := [.mk (some 11) (.move (.tmp 8)) none,
  .mk (some 12) (.move (.tmp 1)) none,
  .mk (some 13) (.binOp .leq 3 (.tmp 11) (.tmp 12) 3) none]
def r29_3 : List PS := [.mk (some 14) (.move (.tmp 0)) none,
  .mk (some 15) (.move (.tmp 7)) none,
  .mk (some 16) (.move (.tmp 8)) none,
  .mk (some 17) (.move (.tmp 2)) none,
  .mk (some 18) (.call ⟨(.value (.func 32)), #[(.tmp 14), (.tmp 15), (.tmp 16), (.tmp 17)], #[22, 3, 3, 57]⟩) none]
def r29_4 : List PS := [.mk (some 19) (.move (.tmp 8)) none,
  .mk (some 7) (.assign (.tmp 19)) none]
def r29_5 : List PS := [.mk (some 20) (.move (.tmp 8)) none,
  .mk (some 21) (.move (.tmp 6)) none,
  .mk (some 22) (.binOp .add 3 (.tmp 20) (.tmp 21) 3) none,
  .mk (some 8) (.assign (.tmp 22)) none]
def r29_6 : List PS := [.mk (some 23) (.move (.tmp 0)) none,
  .mk (some 24) (.move (.tmp 7)) none,
  .mk (some 25) (.move (.tmp 1)) none,
  .mk (some 26) (.move (.tmp 2)) none,
  .mk (some 27) (.call ⟨(.value (.func 32)), #[(.tmp 23), (.tmp 24), (.tmp 25), (.tmp 26)], #[22, 3, 3, 57]⟩) none]
def r29_7 : List PS := [.mk (some 28) (.move (.tmp 6)) none,
  .mk (some 29) (.move (.tmp 1)) none,
  .mk (some 30) (.binOp .lss 3 (.tmp 28) (.tmp 29) 3) none]
def r29_8 : List PS := [.mk (some 31) (.move (.tmp 6)) none,
  .mk (some 32) (.binOp .mul 3 (.const (.int .i64 2)) (.tmp 31) 3) none,
  .mk (some 7) (.assign (.const (.int .i64 0))) none,
  .mk (some 8) (.assign (.tmp 32)) none]
def r29_9 : List PS := [.mk (some 33) (.move (.tmp 8)) none,
  .mk (some 34) (.move (.tmp 1)) none,
  .mk (some 35) (.binOp .leq 3 (.tmp 33) (.tmp 34) 3) none]
def r29_10 : List PS := [.mk (some 36) (.move (.tmp 0)) none,
  .mk (some 37) (.move (.tmp 7)) none,
  .mk (some 38) (.move (.tmp 7)) none,
  .mk (some 39) (.move (.tmp 6)) none,
  .mk (some 40) (.binOp .add 3 (.tmp 38) (.tmp 39) 3) none,
  .mk (some 41) (.move (.tmp 8)) none,
  .mk (some 42) (.move (.tmp 2)) none,
  .mk (some 43) (.call ⟨(.value (.func 33)), #[(.tmp 36), (.tmp 37), (.tmp 40), (.tmp 41), (.tmp 42)], #[22, 3, 3, 3, 57]⟩) none]
def r29_11 : List PS := [.mk (some 44) (.move (.tmp 8)) none,
  .mk (some 7) (.assign (.tmp 44)) none]
def r29_12 : List PS := [.mk (some 45) (.move (.tmp 8)) none,
  .mk (some 46) (.move (.tmp 6)) none,
  .mk (some 47) (.binOp .mul 3 (.const (.int .i64 2)) (.tmp 46) 3) none,
  .mk (some 48) (.binOp .add 3 (.tmp 45) (.tmp 47) 3) none,
  .mk (some 8) (.assign (.tmp 48)) none]
def r29_13 : List PS := [.mk (some 49) (.move (.tmp 7)) none,
  .mk (some 50) (.move (.tmp 6)) none,
  .mk (some 51) (.binOp .add 3 (.tmp 49) (.tmp 50) 3) none,
  .mk (some 9) (.assign (.tmp 51)) none]
def r29_14 : List PS := [.mk (some 52) (.move (.tmp 9)) none,
  .mk (some 53) (.move (.tmp 1)) none,
  .mk (some 54) (.binOp .lss 3 (.tmp 52) (.tmp 53) 3) none]
def r29_15 : List PS := [.mk (some 55) (.move (.tmp 0)) none,
  .mk (some 56) (.move (.tmp 7)) none,
  .mk (some 57) (.move (.tmp 9)) none,
  .mk (some 58) (.move (.tmp 1)) none,
  .mk (some 59) (.move (.tmp 2)) none,
  .mk (some 60) (.call ⟨(.value (.func 33)), #[(.tmp 55), (.tmp 56), (.tmp 57), (.tmp 58), (.tmp 59)], #[22, 3, 3, 3, 57]⟩) none]
def r29_16 : List PS := [.mk (some 61) (.move (.tmp 6)) none,
  .mk (some 62) (.binOp .mul 3 (.tmp 61) (.const (.int .i64 2)) 3) none,
  .mk (some 6) (.assign (.tmp 62)) none]
def c29 : PC := (.seq (.reg false r29_0) (.seq (.reg false r29_1) (.seq (.block 0 (.loop (.seq (.seq (.reg false r29_2) (.cond (.tmp 13) .skip (.exit 0))) (.block 1 (.seq (.reg false r29_3) (.seq (.reg false r29_4) (.reg false r29_5))))))) (.seq (.reg false r29_6) (.block 2 (.loop (.seq (.seq (.reg false r29_7) (.cond (.tmp 30) .skip (.exit 2))) (.block 3 (.seq (.reg false r29_8) (.seq (.block 4 (.loop (.seq (.seq (.reg false r29_9) (.cond (.tmp 35) .skip (.exit 4))) (.block 5 (.seq (.reg false r29_10) (.seq (.reg false r29_11) (.reg false r29_12))))))) (.seq (.seq (.reg false r29_13) (.seq (.reg false r29_14) (.cond (.tmp 54) (.reg false r29_15) .skip))) (.reg false r29_16))))))))))))
theorem e29 {args : List PV} {h : Heap} {K : PV → Heap → Prop} (hl : args.length = 3) (s : pwp Try.prog [] c29 (fin Try.prog [] h K) (slots0 (olds args)) h) : CanP Try.prog 29 args h K :=
  can_of2 (n := 63) mixed Try.func29 rfl (by kernel_rfl) (by rw [hl]; kernel_rfl) rfl (by kernel_rfl) s
/-! ### slices.SortStableFunc[[]naskh.api.Span,naskh.api.Span]: function 26 -/
def r26_0 : List PS := [.mk (some 4) (.move (.tmp 0)) none,
  .mk (some 5) (.move (.tmp 0)) none,
  .mk (some 6) (.call ⟨(.builtin .len), #[(.tmp 5)], #[22]⟩) none,
  .mk (some 7) (.move (.tmp 1)) none,
  .mk (some 8) (.call ⟨(.value (.func 29)), #[(.tmp 4), (.tmp 6), (.tmp 7)], #[22, 3, 57]⟩) none]
def c26 : PC := (.reg false r26_0)
theorem e26 {args : List PV} {h : Heap} {K : PV → Heap → Prop} (hl : args.length = 2) (s : pwp Try.prog [] c26 (fin Try.prog [] h K) (slots0 (olds args)) h) : CanP Try.prog 26 args h K :=
  can_of2 (n := 9) mixed Try.func26 rfl (by kernel_rfl) (by rw [hl]; kernel_rfl) rfl (by kernel_rfl) s
/-! ### cmp.isNaN[int]: function 34 -/
def r34_0 : List PS := [.mk (some 2) (.assign (.const (.bool false))) none]
def r34_1 : List PS := [.mk (some 3) (.move (.tmp 0)) none,
  .mk (some 4) (.move (.tmp 0)) none,
  .mk (some 5) (.binOp .neq 3 (.tmp 3) (.tmp 4) 3) none,
  .mk (some 2) (.assign (.tmp 5)) none]
def c34 : PC := (.seq (.reg false r34_0) (.seq (.reg false r34_1) .ret))
theorem e34 {args : List PV} {h : Heap} {K : PV → Heap → Prop} (hl : args.length = 1) (s : pwp Try.prog [] c34 (fin Try.prog [.tmp 2] h K) (slots0 (olds args)) h) : CanP Try.prog 34 args h K :=
  can_of2 (n := 6) mixed Try.func34 rfl (by kernel_rfl) (by rw [hl]; kernel_rfl) rfl (by kernel_rfl) s
/-! ### cmp.Compare[int]: function 30 -/
def r30_0 : List PS := [.mk (some 4) (.assign (.const (.int .i64 0))) none]
def r30_1 : List PS := [.mk (some 7) (.move (.tmp 0)) none,
  .mk (some 8) (.call ⟨(.value (.func 34)), #[(.tmp 7)], #[3]⟩) none,
  .mk (some 5) (.assign (.tmp 8)) none]
def r30_2 : List PS := [.mk (some 9) (.move (.tmp 1)) none,
  .mk (some 10) (.call ⟨(.value (.func 34)), #[(.tmp 9)], #[3]⟩) none,
  .mk (some 6) (.assign (.tmp 10)) none]
def r30_3 : List PS := [.mk (some 11) (.move (.tmp 5)) none]
def r30_4 : List PS := [.mk (some 12) (.move (.tmp 6)) none]
def r30_5 : List PS := [.mk (some 4) (.assign (.const (.int .i64 0))) none]
def r30_6 : List PS := [.mk (some 4) (.assign (.const (.int .i64 (-1)))) none]
def r30_7 : List PS := [.mk (some 13) (.move (.tmp 6)) none]
def r30_8 : List PS := [.mk (some 4) (.assign (.const (.int .i64 1))) none]
def r30_9 : List PS := [.mk (some 14) (.move (.tmp 0)) none,
  .mk (some 15) (.move (.tmp 1)) none,
  .mk (some 16) (.binOp .lss 3 (.tmp 14) (.tmp 15) 3) none]
def r30_10 : List PS := [.mk (some 4) (.assign (.const (.int .i64 (-1)))) none]
def r30_11 : List PS := [.mk (some 17) (.move (.tmp 0)) none,
  .mk (some 18) (.move (.tmp 1)) none,
  .mk (some 19) (.binOp .gtr 3 (.tmp 17) (.tmp 18) 3) none]
def r30_12 : List PS := [.mk (some 4) (.assign (.const (.int .i64 1))) none]
def r30_13 : List PS := [.mk (some 4) (.assign (.const (.int .i64 0))) none]
def c30 : PC := (.seq (.reg false r30_0) (.seq (.reg false r30_1) (.seq (.reg false r30_2) (.seq (.seq (.reg false r30_3) (.cond (.tmp 11) (.seq (.seq (.reg false r30_4) (.cond (.tmp 12) (.seq (.reg false r30_5) .ret) .skip)) (.seq (.reg false r30_6) .ret)) .skip)) (.seq (.seq (.reg false r30_7) (.cond (.tmp 13) (.seq (.reg false r30_8) .ret) .skip)) (.seq (.seq (.reg false r30_9) (.cond (.tmp 16) (.seq (.reg false r30_10) .ret) .skip)) (.seq (.seq (.reg false r30_11) (.cond (.tmp 19) (.seq (.reg false r30_12) .ret) .skip)) (.seq (.reg false r30_13) .ret))))))))
theorem e30 {args : List PV} {h : Heap} {K : PV → Heap → Prop} (hl : args.length = 2) (s : pwp Try.prog [] c30 (fin Try.prog [.tmp 4] h K) (slots0 (olds args)) h) : CanP Try.prog 30 args h K :=
  can_of2 (n := 20) mixed Try.func30 rfl (by kernel_rfl) (by rw [hl]; kernel_rfl) rfl (by kernel_rfl) s
/-! ### naskh.cluster.byLo: function 27 -/
def r27_0 : List PS := [.mk (some 2) (.box 28 (.tmp 0)) none,
  .mk (some 3) (.box 28 (.tmp 1)) none,
  .mk (some 4) (.assign (.const (.int .i64 0))) none]
def r27_1 : List PS := [.mk (some 5) (.fieldAddr 28 (.tmp 2) 0) none,
  .mk (some 6) (.load 3 (.tmp 5)) none,
  .mk (some 7) (.fieldAddr 28 (.tmp 3) 0) none,
  .mk (some 8) (.load 3 (.tmp 7)) none,
  .mk (some 9) (.call ⟨(.value (.func 30)), #[(.tmp 6), (.tmp 8)], #[3, 3]⟩) none,
  .mk (some 4) (.assign (.tmp 9)) none]
def c27 : PC := (.seq (.reg false r27_0) (.seq (.reg false r27_1) .ret))
theorem e27 {args : List PV} {h : Heap} {K : PV → Heap → Prop} (hl : args.length = 2) (s : pwp Try.prog [] c27 (fin Try.prog [.tmp 4] h K) (slots0 (olds args)) h) : CanP Try.prog 27 args h K :=
  can_of2 (n := 10) mixed Try.func27 rfl (by kernel_rfl) (by rw [hl]; kernel_rfl) rfl (by kernel_rfl) s
/-! ### naskh.cluster.Check: function 21 -/
def r21_0 : List PS := [.mk (some 6) (.assign (.const (.bool false))) none]
def r21_1 : List PS := [.mk (some 10) (.move (.tmp 0)) none,
  .mk (some 11) (.call ⟨(.value (.func 25)), #[(.tmp 10)], #[41]⟩) none,
  .mk (some 9) (.move (.tmp 11)) none,
  .mk (some 12) (.extract (.tmp 9) 0) none,
  .mk (some 13) (.extract (.tmp 9) 1) none,
  .mk (some 7) (.assign (.tmp 12)) none,
  .mk (some 8) (.assign (.tmp 13)) none,
  .frz 7]
def r21_2 : List PS := [.mk (some 14) (.move (.tmp 8)) none,
  .mk (some 15) (.call ⟨(.value (.func 26)), #[(.tmp 14), (.func 27)], #[22, 57]⟩) none]
def r21_3 : List PS := [.frz 8,
  .mk (some 16) (.move (.tmp 7)) none,
  .mk (some 17) (.move (.tmp 1)) none,
  .mk (some 18) (.call ⟨(.value (.func 9)), #[(.tmp 16), (.tmp 17)], #[22, 3]⟩) none,
  .mk (some 19) (.move (.tmp 18)) none,
  .mk (some 20) (.move (.tmp 8)) (some (19, true)),
  .mk (some 21) (.move (.tmp 2)) (some (19, true)),
  .mk (some 22) (.call ⟨(.value (.func 9)), #[(.tmp 20), (.tmp 21)], #[22, 3]⟩) (some (19, true)),
  .mk (some 23) (.pick (.tmp 19) (.tmp 22) (.const (.bool false))) none,
  .mk (some 6) (.assign (.tmp 23)) none]
def c21 : PC := (.seq (.reg false r21_0) (.seq (.reg false r21_1) (.seq (.reg false r21_2) (.seq (.reg false r21_3) .ret))))
theorem e21 {args : List PV} {h : Heap} {K : PV → Heap → Prop} (hl : args.length = 3) (s : pwp Try.prog [] c21 (fin Try.prog [.tmp 6] h K) (slots0 (olds args)) h) : CanP Try.prog 21 args h K :=
  can_of2 (n := 24) mixed Try.func21 rfl (by kernel_rfl) (by rw [hl]; kernel_rfl) rfl (by kernel_rfl) s
/-! ### naskh.span.Size: function 31 -/
def r31_0 : List PS := [.mk (some 1) (.box 28 (.tmp 0)) none,
  .mk (some 2) (.assign (.const (.int .i64 0))) none]
def r31_1 : List PS := [.mk (some 3) (.load 28 (.tmp 1)) none,
  .mk (some 4) (.call ⟨(.value (.func 18)), #[(.tmp 3)], #[28]⟩) none]
def r31_2 : List PS := [.mk (some 5) (.fieldAddr 28 (.tmp 1) 1) none,
  .mk (some 6) (.load 3 (.tmp 5)) none,
  .mk (some 7) (.fieldAddr 28 (.tmp 1) 0) none,
  .mk (some 8) (.load 3 (.tmp 7)) none,
  .mk (some 9) (.binOp .sub 3 (.tmp 6) (.tmp 8) 3) none,
  .mk (some 2) (.assign (.tmp 9)) none]
def r31_3 : List PS := [.mk (some 2) (.assign (.const (.int .i64 0))) none]
def c31 : PC := (.seq (.reg false r31_0) (.seq (.seq (.reg false r31_1) (.cond (.tmp 4) (.seq (.reg false r31_2) .ret) .skip)) (.seq (.reg false r31_3) .ret)))
theorem e31 {args : List PV} {h : Heap} {K : PV → Heap → Prop} (hl : args.length = 1) (s : pwp Try.prog [] c31 (fin Try.prog [.tmp 2] h K) (slots0 (olds args)) h) : CanP Try.prog 31 args h K :=
  can_of2 (n := 10) mixed Try.func31 rfl (by kernel_rfl) (by rw [hl]; kernel_rfl) rfl (by kernel_rfl) s
/-! ### (*naskh.breaks.cut).take: function 28 -/
def r28_0 : List PS := [.mk (some 4) (.box 52 (.tmp 1)) none]
def r28_1 : List PS := [.mk (some 10) (.fieldAddr 52 (.tmp 4) 0) none,
  .mk (some 11) (.fieldAddr 28 (.tmp 10) 1) none,
  .mk (some 12) (.load 3 (.tmp 11)) none,
  .mk (some 13) (.move (.tmp 2)) none,
  .mk (some 14) (.binOp .leq 3 (.tmp 12) (.tmp 13) 3) none,
  .mk (some 9) (.assign (.tmp 14)) none]
def r28_2 : List PS := [.mk (some 15) (.move (.tmp 0)) none,
  .mk (some 16) (.nilCheck (.tmp 15)) none,
  .mk (some 17) (.fieldAddr 59 (.tmp 16) 0) none,
  .mk (some 18) (.load 3 (.tmp 17)) none,
  .mk (some 19) (.fieldAddr 52 (.tmp 4) 1) none,
  .mk (some 20) (.load 28 (.tmp 19)) none,
  .mk (some 21) (.call ⟨(.value (.func 31)), #[(.tmp 20)], #[28]⟩) none,
  .mk (some 22) (.binOp .add 3 (.tmp 18) (.tmp 21) 3) none,
  .mk (some 23) (.nilCheck (.tmp 15)) none,
  .mk (some 24) (.fieldAddr 59 (.tmp 23) 0) none,
  .mk none (.store 3 (.tmp 24) (.tmp 22)) none]
def r28_3 : List PS := [.mk (some 25) (.move (.tmp 0)) none,
  .mk (some 26) (.move (.tmp 0)) none,
  .mk (some 27) (.nilCheck (.tmp 26)) none,
  .mk (some 28) (.fieldAddr 59 (.tmp 27) 1) none,
  .mk (some 29) (.load 3 (.tmp 28)) none,
  .mk (some 30) (.fieldAddr 52 (.tmp 4) 1) none,
  .mk (some 31) (.fieldAddr 28 (.tmp 30) 1) none,
  .mk (some 32) (.load 3 (.tmp 31)) none,
  .mk (some 33) (.call ⟨(.builtin .max), #[(.tmp 29), (.tmp 32)], #[3, 3]⟩) none,
  .mk (some 34) (.nilCheck (.tmp 25)) none,
  .mk (some 35) (.fieldAddr 59 (.tmp 34) 1) none,
  .mk none (.store 3 (.tmp 35) (.tmp 33)) none]
def r28_4 : List PS := [.mk (some 37) (.fieldAddr 52 (.tmp 4) 0) none,
  .mk (some 38) (.fieldAddr 28 (.tmp 37) 0) none,
  .mk (some 39) (.load 3 (.tmp 38)) none,
  .mk (some 40) (.move (.tmp 2)) none,
  .mk (some 41) (.binOp .geq 3 (.tmp 39) (.tmp 40) 3) none,
  .mk (some 36) (.assign (.tmp 41)) none]
def r28_5 : List PS := [.mk (some 42) (.move (.tmp 0)) none,
  .mk (some 43) (.move (.tmp 0)) none,
  .mk (some 44) (.nilCheck (.tmp 43)) none,
  .mk (some 45) (.fieldAddr 59 (.tmp 44) 2) none,
  .mk (some 46) (.load 3 (.tmp 45)) none,
  .mk (some 47) (.fieldAddr 52 (.tmp 4) 1) none,
  .mk (some 48) (.fieldAddr 28 (.tmp 47) 0) none,
  .mk (some 49) (.load 3 (.tmp 48)) none,
  .mk (some 50) (.call ⟨(.builtin .min), #[(.tmp 46), (.tmp 49)], #[3, 3]⟩) none,
  .mk (some 51) (.nilCheck (.tmp 42)) none,
  .mk (some 52) (.fieldAddr 59 (.tmp 51) 2) none,
  .mk none (.store 3 (.tmp 52) (.tmp 50)) none]
def r28_6 : List PS := [.mk (some 6) (.move (.tmp 0)) none,
  .mk (some 7) (.nilCheck (.tmp 6)) none,
  .mk (some 8) (.fieldAddr 59 (.tmp 7) 3) none,
  .mk none (.store 4 (.tmp 8) (.const (.bool true))) none]
def c28 : PC := (.seq (.reg false r28_0) (.block 0 (.seq (.reg false r28_1) (.cond (.tmp 9) (.seq (.reg true r28_2) (.reg true r28_3)) (.seq (.reg false r28_4) (.cond (.tmp 36) (.reg true r28_5) (.reg false r28_6)))))))
theorem e28 {args : List PV} {h : Heap} {K : PV → Heap → Prop} (hl : args.length = 3) (s : pwp Try.prog [] c28 (fin Try.prog [] h K) (slots0 (olds args)) h) : CanP Try.prog 28 args h K :=
  can_of2 (n := 53) mixed Try.func28 rfl (by kernel_rfl) (by rw [hl]; kernel_rfl) rfl (by kernel_rfl) s
/-! ### naskh.breaks.through: function 22 -/
def r22_0 : List PS := [.mk (some 4) (.assign (.const (.int .i64 0))) none,
  .mk (some 5) (.assign (.const (.int .i64 0))) none]
def r22_1 : List PS := [.mk (some 9) (.build 59 #[(2, (.const (.int .i64 16777217)))]) none,
  .mk (some 6) (.alloc 59) none,
  .mk none (.store 59 (.tmp 6) (.tmp 9)) none]
def r22_2 : List PS := [.mk (some 10) (.move (.tmp 0)) none,
  .mk (some 11) (.call ⟨(.builtin .len), #[(.tmp 10)], #[41]⟩) none,
  .mk (some 12) (.move (.const (.int .i64 0))) none]
def r22_3 : List PS := [.mk (some 13) (.binOp .lss 3 (.tmp 12) (.tmp 11) 3) none]
def r22_4 : List PS := [.mk (some 14) (.indexAddr 41 (.tmp 10) (.tmp 12)) none,
  .mk (some 15) (.load 52 (.tmp 14)) none,
  .mk (some 8) (.alloc 52) none,
  .mk none (.store 52 (.tmp 8) (.tmp 15)) none,
  .frz 8]
def r22_5 : List PS := [.mk (some 16) (.load 52 (.tmp 8)) none,
  .mk (some 17) (.move (.tmp 1)) none,
  .mk (some 18) (.call ⟨(.value (.func 28)), #[(.tmp 6), (.tmp 16), (.tmp 17)], #[59, 52, 3]⟩) none]
def r22_6 : List PS := [.mk (some 19) (.binOp .add 3 (.tmp 12) (.const (.int .i64 1)) 3) none,
  .mk (some 12) (.move (.tmp 19)) none]
def r22_7 : List PS := [.mk (some 20) (.fieldAddr 59 (.tmp 6) 3) none,
  .mk (some 21) (.load 4 (.tmp 20)) none,
  .mk (some 22) (.move (.tmp 21)) none,
  .mk (some 23) (.fieldAddr 59 (.tmp 6) 1) (some (22, false)),
  .mk (some 24) (.load 3 (.tmp 23)) (some (22, false)),
  .mk (some 25) (.fieldAddr 59 (.tmp 6) 2) (some (22, false)),
  .mk (some 26) (.load 3 (.tmp 25)) (some (22, false)),
  .mk (some 27) (.binOp .gtr 3 (.tmp 24) (.tmp 26) 3) (some (22, false)),
  .mk (some 28) (.pick (.tmp 22) (.const (.bool true)) (.tmp 27)) none]
def r22_8 : List PS := [.mk (some 4) (.assign (.const (.int .i64 0))) none,
  .mk (some 5) (.assign (.const (.int .i64 5))) none]
def r22_9 : List PS := [.mk (some 29) (.fieldAddr 59 (.tmp 6) 0) none,
  .mk (some 30) (.load 3 (.tmp 29)) none,
  .mk (some 4) (.assign (.tmp 30)) none,
  .mk (some 5) (.assign (.const (.int .i64 0))) none]
def c22 : PC := (.seq (.reg false r22_0) (.seq (.reg false r22_1) (.seq (.seq (.reg false r22_2) (.block 0 (.loop (.seq (.reg false r22_3) (.seq (.cond (.tmp 13) .skip (.exit 0)) (.seq (.block 1 (.seq (.reg false r22_4) (.reg false r22_5))) (.reg false r22_6))))))) (.seq (.seq (.reg false r22_7) (.cond (.tmp 28) (.seq (.reg false r22_8) .ret) .skip)) (.seq (.reg false r22_9) .ret)))))
theorem e22 {args : List PV} {h : Heap} {K : PV → Heap → Prop} (hl : args.length = 2) (s : pwp Try.prog [6, 8] c22 (fin Try.prog [.tmp 4, .tmp 5] h K) (slots0 (olds args)) h) : CanP Try.prog 22 args h K :=
  can_of2 (n := 31) mixed Try.func22 rfl (by kernel_rfl) (by rw [hl]; kernel_rfl) rfl (by kernel_rfl) s
/-! ### naskh.breaks.Through: function 14 -/
def r14_0 : List PS := [.mk (some 8) (.assign (.const (.slice none 0 0))) none,
  .mk (some 9) (.assign (.const (.int .i64 0))) none]
def r14_1 : List PS := [.mk (some 16) (.move (.tmp 0)) none,
  .mk (some 17) (.move (.tmp 1)) none,
  .mk (some 18) (.move (.tmp 2)) none,
  .mk (some 19) (.call ⟨(.value (.func 21)), #[(.tmp 16), (.tmp 17), (.tmp 18)], #[41, 3, 3]⟩) none,
  .mk (some 20) (.unOp .not 4 (.tmp 19)) none]
def r14_2 : List PS := [.mk (some 8) (.assign (.const (.slice none 0 0))) none,
  .mk (some 9) (.assign (.const (.int .i64 13))) none]
def r14_3 : List PS := [.mk (some 21) (.move (.tmp 1)) none,
  .mk (some 22) (.move (.tmp 3)) none,
  .mk (some 23) (.call ⟨(.value (.func 12)), #[(.tmp 21), (.tmp 22)], #[3, 23]⟩) none,
  .mk (some 10) (.assign (.tmp 23)) none]
def r14_4 : List PS := [.mk (some 24) (.move (.tmp 10)) none,
  .mk (some 25) (.binOp .neq 32 (.tmp 24) (.const (.int .i64 0)) 32) none]
def r14_5 : List PS := [.mk (some 26) (.move (.tmp 10)) none,
  .mk (some 8) (.assign (.const (.slice none 0 0))) none,
  .mk (some 9) (.assign (.tmp 26)) none]
def r14_6 : List PS := [.mk (some 11) (.assign (.const (.slice none 0 0))) none]
def r14_7 : List PS := [.mk (some 27) (.move (.tmp 3)) none,
  .mk (some 28) (.call ⟨(.builtin .len), #[(.tmp 27)], #[23]⟩) none,
  .mk (some 29) (.move (.const (.int .i64 0))) none]
def r14_8 : List PS := [.mk (some 30) (.binOp .lss 3 (.tmp 29) (.tmp 28) 3) none]
def r14_9 : List PS := [.mk (some 31) (.indexAddr 23 (.tmp 27) (.tmp 29)) none,
  .mk (some 32) (.load 3 (.tmp 31)) none,
  .mk (some 13) (.assign (.tmp 32)) none]
def r14_10 : List PS := [.mk (some 34) (.move (.tmp 0)) none,
  .mk (some 35) (.move (.tmp 13)) none,
  .mk (some 36) (.call ⟨(.value (.func 22)), #[(.tmp 34), (.tmp 35)], #[41, 3]⟩) none,
  .mk (some 33) (.move (.tmp 36)) none,
  .mk (some 37) (.extract (.tmp 33) 0) none,
  .mk (some 38) (.extract (.tmp 33) 1) none,
  .mk (some 14) (.assign (.tmp 37)) none,
  .mk (some 15) (.assign (.tmp 38)) none]
def r14_11 : List PS := [.mk (some 39) (.move (.tmp 15)) none,
  .mk (some 40) (.binOp .neq 32 (.tmp 39) (.const (.int .i64 0)) 32) none]
def r14_12 : List PS := [.mk (some 41) (.move (.tmp 15)) none,
  .mk (some 8) (.assign (.const (.slice none 0 0))) none,
  .mk (some 9) (.assign (.tmp 41)) none]
def r14_13 : List PS := [.mk (some 42) (.move (.tmp 11)) none,
  .mk (some 43) (.move (.tmp 14)) none,
  .mk (some 44) (.buildSlice 23 1 #[(0, (.tmp 43))]) none,
  .mk (some 45) (.call ⟨(.builtin .append), #[(.tmp 42), (.tmp 44)], #[23, 23]⟩) none,
  .mk (some 11) (.assign (.tmp 45)) none]
def r14_14 : List PS := [.mk (some 46) (.binOp .add 3 (.tmp 29) (.const (.int .i64 1)) 3) none,
  .mk (some 29) (.move (.tmp 46)) none]
def r14_15 : List PS := [.mk (some 47) (.move (.tmp 11)) none,
  .mk (some 8) (.assign (.tmp 47)) none,
  .mk (some 9) (.assign (.const (.int .i64 0))) none]
def c14 : PC := (.seq (.reg false r14_0) (.seq (.seq (.reg false r14_1) (.cond (.tmp 20) (.seq (.reg false r14_2) .ret) .skip)) (.seq (.seq (.reg false r14_3) (.seq (.reg false r14_4) (.cond (.tmp 25) (.seq (.reg false r14_5) .ret) .skip))) (.seq (.reg false r14_6) (.seq (.seq (.reg false r14_7) (.block 0 (.loop (.seq (.reg false r14_8) (.seq (.cond (.tmp 30) .skip (.exit 0)) (.seq (.block 1 (.seq (.reg false r14_9) (.seq (.reg false r14_10) (.seq (.seq (.reg false r14_11) (.cond (.tmp 40) (.seq (.reg false r14_12) .ret) .skip)) (.reg false r14_13))))) (.reg false r14_14))))))) (.seq (.reg false r14_15) .ret))))))
theorem e14 {args : List PV} {h : Heap} {K : PV → Heap → Prop} (hl : args.length = 4) (s : pwp Try.prog [] c14 (fin Try.prog [.tmp 8, .tmp 9] h K) (slots0 (olds args)) h) : CanP Try.prog 14 args h K :=
  can_of2 (n := 48) mixed Try.func14 rfl (by kernel_rfl) (by rw [hl]; kernel_rfl) rfl (by kernel_rfl) s
/-! ### naskh.cluster.Identity: function 15 -/
def r15_0 : List PS := [.mk (some 2) (.assign (.const (.slice none 0 0))) none]
def r15_1 : List PS := [.mk (some 3) (.assign (.const (.slice none 0 0))) none]
def r15_2 : List PS := [.mk (some 6) (.move (.tmp 0)) none,
  .mk (some 7) (.call ⟨(.builtin .max), #[(.tmp 6), (.const (.int .i64 0))], #[3, 3]⟩) none,
  .mk (some 8) (.move (.const (.int .i64 0))) none]
def r15_3 : List PS := [.mk (some 9) (.binOp .lss 3 (.tmp 8) (.tmp 7) 3) none]
def r15_4 : List PS := [.mk (some 10) (.move (.tmp 8)) none,
  .mk (some 4) (.assign (.tmp 10)) none]
def r15_5 : List PS := [.mk (some 11) (.move (.tmp 4)) none,
  .mk (some 12) (.move (.tmp 4)) none,
  .mk (some 13) (.binOp .add 3 (.tmp 12) (.const (.int .i64 1)) 3) none,
  .mk (some 14) (.build 28 #[(0, (.tmp 11)), (1, (.tmp 13))]) none,
  .mk (some 5) (.alloc 28) none,
  .mk none (.store 28 (.tmp 5) (.tmp 14)) none,
  .frz 5]
def r15_6 : List PS := [.mk (some 15) (.move (.tmp 3)) none,
  .mk (some 16) (.load 28 (.tmp 5)) none,
  .mk (some 17) (.load 28 (.tmp 5)) none,
  .mk (some 18) (.build 52 #[(0, (.tmp 16)), (1, (.tmp 17))]) none,
  .mk (some 19) (.buildSlice 41 1 #[(0, (.tmp 18))]) none,
  .mk (some 20) (.call ⟨(.builtin .append), #[(.tmp 15), (.tmp 19)], #[41, 41]⟩) none,
  .mk (some 3) (.assign (.tmp 20)) none]
def r15_7 : List PS := [.mk (some 21) (.binOp .add 3 (.tmp 8) (.const (.int .i64 1)) 3) none,
  .mk (some 8) (.move (.tmp 21)) none]
def r15_8 : List PS := [.mk (some 22) (.move (.tmp 3)) none,
  .mk (some 2) (.assign (.tmp 22)) none]
def c15 : PC := (.seq (.reg false r15_0) (.seq (.reg false r15_1) (.seq (.seq (.reg false r15_2) (.block 0 (.loop (.seq (.reg false r15_3) (.seq (.cond (.tmp 9) .skip (.exit 0)) (.seq (.block 1 (.seq (.reg false r15_4) (.seq (.reg false r15_5) (.reg false r15_6)))) (.reg false r15_7))))))) (.seq (.reg false r15_8) .ret))))
theorem e15 {args : List PV} {h : Heap} {K : PV → Heap → Prop} (hl : args.length = 1) (s : pwp Try.prog [5] c15 (fin Try.prog [.tmp 2] h K) (slots0 (olds args)) h) : CanP Try.prog 15 args h K :=
  can_of2 (n := 23) mixed Try.func15 rfl (by kernel_rfl) (by rw [hl]; kernel_rfl) rfl (by kernel_rfl) s
/-! ### slices.Equal[[]int,int]: function 16 -/
def r16_0 : List PS := [.mk (some 4) (.assign (.const (.bool false))) none]
def r16_1 : List PS := [.mk (some 6) (.move (.tmp 0)) none,
  .mk (some 7) (.call ⟨(.builtin .len), #[(.tmp 6)], #[23]⟩) none,
  .mk (some 8) (.move (.tmp 1)) none,
  .mk (some 9) (.call ⟨(.builtin .len), #[(.tmp 8)], #[23]⟩) none,
  .mk (some 10) (.binOp .neq 3 (.tmp 7) (.tmp 9) 3) none]
def r16_2 : List PS := [.mk (some 4) (.assign (.const (.bool false))) none]
def r16_3 : List PS := [.mk (some 11) (.move (.tmp 0)) none,
  .mk (some 12) (.call ⟨(.builtin .len), #[(.tmp 11)], #[23]⟩) none,
  .mk (some 13) (.move (.const (.int .i64 0))) none]
def r16_4 : List PS := [.mk (some 14) (.binOp .lss 3 (.tmp 13) (.tmp 12) 3) none]
def r16_5 : List PS := [.mk (some 15) (.move (.tmp 13)) none,
  .mk (some 5) (.assign (.tmp 15)) none]
def r16_6 : List PS := [.mk (some 16) (.move (.tmp 0)) none,
  .mk (some 17) (.move (.tmp 5)) none,
  .mk (some 18) (.indexAddr 23 (.tmp 16) (.tmp 17)) none,
  .mk (some 19) (.load 3 (.tmp 18)) none,
  .mk (some 20) (.move (.tmp 1)) none,
  .mk (some 21) (.move (.tmp 5)) none,
  .mk (some 22) (.indexAddr 23 (.tmp 20) (.tmp 21)) none,
  .mk (some 23) (.load 3 (.tmp 22)) none,
  .mk (some 24) (.binOp .neq 3 (.tmp 19) (.tmp 23) 3) none]
def r16_7 : List PS := [.mk (some 4) (.assign (.const (.bool false))) none]
def r16_8 : List PS := [.mk (some 25) (.binOp .add 3 (.tmp 13) (.const (.int .i64 1)) 3) none,
  .mk (some 13) (.move (.tmp 25)) none]
def r16_9 : List PS := [.mk (some 4) (.assign (.const (.bool true))) none]
def c16 : PC := (.seq (.reg false r16_0) (.seq (.seq (.reg false r16_1) (.cond (.tmp 10) (.seq (.reg false r16_2) .ret) .skip)) (.seq (.seq (.reg false r16_3) (.block 0 (.loop (.seq (.reg false r16_4) (.seq (.cond (.tmp 14) .skip (.exit 0)) (.seq (.block 1 (.seq (.reg false r16_5) (.seq (.reg true r16_6) (.cond (.tmp 24) (.seq (.reg false r16_7) .ret) .skip)))) (.reg false r16_8))))))) (.seq (.reg false r16_9) .ret))))
theorem e16 {args : List PV} {h : Heap} {K : PV → Heap → Prop} (hl : args.length = 2) (s : pwp Try.prog [] c16 (fin Try.prog [.tmp 4] h K) (slots0 (olds args)) h) : CanP Try.prog 16 args h K :=
  can_of2 (n := 26) mixed Try.func16 rfl (by kernel_rfl) (by rw [hl]; kernel_rfl) rfl (by kernel_rfl) s
/-! ### naskh.naskhlaw28.awake: function 5 -/
def r5_0 : List PS := [.mk (some 0) (.assign (.const (.bool false))) none]
def r5_1 : List PS := [.mk (some 4) (.call ⟨(.value (.func 15)), #[(.const (.int .i64 3))], #[3]⟩) none,
  .mk (some 5) (.buildSlice 23 1 #[(0, (.const (.int .i64 2)))]) none,
  .mk (some 6) (.call ⟨(.value (.func 14)), #[(.tmp 4), (.const (.int .i64 3)), (.const (.int .i64 3)), (.tmp 5)], #[41, 3, 3, 23]⟩) none,
  .mk (some 3) (.move (.tmp 6)) none,
  .mk (some 7) (.extract (.tmp 3) 0) none,
  .mk (some 8) (.extract (.tmp 3) 1) none,
  .mk (some 1) (.assign (.tmp 7)) none,
  .mk (some 2) (.assign (.tmp 8)) none]
def r5_2 : List PS := [.mk (some 9) (.buildSlice 23 2 #[(0, (.const (.int .i64 2))), (1, (.const (.int .i64 2)))]) none,
  .mk (some 10) (.call ⟨(.value (.func 12)), #[(.const (.int .i64 5)), (.tmp 9)], #[3, 23]⟩) none,
  .mk (some 11) (.binOp .eql 32 (.tmp 10) (.const (.int .i64 4)) 32) none,
  .mk (some 12) (.move (.tmp 11)) none,
  .mk (some 13) (.move (.tmp 2)) (some (12, true)),
  .mk (some 14) (.binOp .eql 32 (.tmp 13) (.const (.int .i64 0)) 32) (some (12, true)),
  .mk (some 15) (.pick (.tmp 12) (.tmp 14) (.const (.bool false))) none,
  .mk (some 16) (.move (.tmp 15)) none,
  .mk (some 17) (.move (.tmp 1)) (some (16, true)),
  .mk (some 18) (.buildSlice 23 1 #[(0, (.const (.int .i64 2)))]) (some (16, true)),
  .mk (some 19) (.call ⟨(.value (.func 16)), #[(.tmp 17), (.tmp 18)], #[23, 23]⟩) (some (16, true)),
  .mk (some 20) (.pick (.tmp 16) (.tmp 19) (.const (.bool false))) none,
  .mk (some 0) (.assign (.tmp 20)) none]
def c5 : PC := (.seq (.reg false r5_0) (.seq (.reg false r5_1) (.seq (.reg false r5_2) .ret)))
theorem e5 {args : List PV} {h : Heap} {K : PV → Heap → Prop} (hl : args.length = 0) (s : pwp Try.prog [] c5 (fin Try.prog [.tmp 0] h K) (slots0 (olds args)) h) : CanP Try.prog 5 args h K :=
  can_of2 (n := 21) mixed Try.func5 rfl (by kernel_rfl) (by rw [hl]; kernel_rfl) rfl (by kernel_rfl) s
/-! ### naskh.breaks.lines: function 17 -/
def r17_0 : List PS := [.mk (some 2) (.box 28 (.tmp 0)) none,
  .mk (some 4) (.assign (.const (.slice none 0 0))) none]
def r17_1 : List PS := [.mk (some 5) (.assign (.const (.slice none 0 0))) none]
def r17_2 : List PS := [.mk (some 8) (.move (.tmp 1)) none,
  .mk (some 9) (.call ⟨(.builtin .len), #[(.tmp 8)], #[23]⟩) none,
  .mk (some 10) (.move (.const (.int .i64 0))) none]
def r17_3 : List PS := [.mk (some 11) (.binOp .lss 3 (.tmp 10) (.tmp 9) 3) none]
def r17_4 : List PS := [.mk (some 12) (.indexAddr 23 (.tmp 8) (.tmp 10)) none,
  .mk (some 13) (.load 3 (.tmp 12)) none,
  .mk (some 7) (.assign (.tmp 13)) none]
def r17_5 : List PS := [.mk (some 14) (.move (.tmp 7)) none,
  .mk (some 15) (.fieldAddr 28 (.tmp 2) 0) none,
  .mk (some 16) (.load 3 (.tmp 15)) none,
  .mk (some 17) (.binOp .leq 3 (.tmp 14) (.tmp 16) 3) none,
  .mk (some 18) (.move (.tmp 17)) none,
  .mk (some 19) (.move (.tmp 7)) (some (18, false)),
  .mk (some 20) (.fieldAddr 28 (.tmp 2) 1) (some (18, false)),
  .mk (some 21) (.load 3 (.tmp 20)) (some (18, false)),
  .mk (some 22) (.binOp .geq 3 (.tmp 19) (.tmp 21) 3) (some (18, false)),
  .mk (some 23) (.pick (.tmp 18) (.const (.bool true)) (.tmp 22)) none]
def r17_6 : List PS := [.mk (some 24) (.move (.tmp 5)) none,
  .mk (some 25) (.fieldAddr 28 (.tmp 2) 0) none,
  .mk (some 26) (.load 3 (.tmp 25)) none,
  .mk (some 27) (.move (.tmp 7)) none,
  .mk (some 28) (.build 28 #[(0, (.tmp 26)), (1, (.tmp 27))]) none,
  .mk (some 29) (.buildSlice 22 1 #[(0, (.tmp 28))]) none,
  .mk (some 30) (.call ⟨(.builtin .append), #[(.tmp 24), (.tmp 29)], #[22, 22]⟩) none,
  .mk (some 5) (.assign (.tmp 30)) none]
def r17_7 : List PS := [.mk (some 31) (.move (.tmp 7)) none,
  .mk (some 32) (.fieldAddr 28 (.tmp 2) 0) none,
  .mk none (.store 3 (.tmp 32) (.tmp 31)) none]
def r17_8 : List PS := [.mk (some 33) (.binOp .add 3 (.tmp 10) (.const (.int .i64 1)) 3) none,
  .mk (some 10) (.move (.tmp 33)) none]
def r17_9 : List PS := [.mk (some 34) (.move (.tmp 5)) none,
  .mk (some 35) (.load 28 (.tmp 2)) none,
  .mk (some 36) (.buildSlice 22 1 #[(0, (.tmp 35))]) none,
  .mk (some 37) (.call ⟨(.builtin .append), #[(.tmp 34), (.tmp 36)], #[22, 22]⟩) none,
  .mk (some 4) (.assign (.tmp 37)) none]
def c17 : PC := (.seq (.reg false r17_0) (.seq (.reg false r17_1) (.seq (.seq (.reg false r17_2) (.block 0 (.loop (.seq (.reg false r17_3) (.seq (.cond (.tmp 11) .skip (.exit 0)) (.seq (.block 1 (.seq (.reg false r17_4) (.seq (.seq (.reg false r17_5) (.cond (.tmp 23) (.exit 1) .skip)) (.seq (.reg false r17_6) (.reg false r17_7))))) (.reg false r17_8))))))) (.seq (.reg false r17_9) .ret))))
theorem e17 {args : List PV} {h : Heap} {K : PV → Heap → Prop} (hl : args.length = 2) (s : pwp Try.prog [2] c17 (fin Try.prog [.tmp 4] h K) (slots0 (olds args)) h) : CanP Try.prog 17 args h K :=
  can_of2 (n := 38) mixed Try.func17 rfl (by kernel_rfl) (by rw [hl]; kernel_rfl) rfl (by kernel_rfl) s
/-! ### naskh.breaks.Lines: function 6 -/
def r6_0 : List PS := [.mk (some 4) (.assign (.const (.slice none 0 0))) none]
def r6_1 : List PS := [.mk (some 5) (.assign (.const (.slice none 0 0))) none]
def r6_2 : List PS := [.mk (some 8) (.move (.tmp 0)) none,
  .mk (some 9) (.call ⟨(.builtin .len), #[(.tmp 8)], #[22]⟩) none,
  .mk (some 10) (.move (.const (.int .i64 0))) none]
def r6_3 : List PS := [.mk (some 11) (.binOp .lss 3 (.tmp 10) (.tmp 9) 3) none]
def r6_4 : List PS := [.mk (some 12) (.indexAddr 22 (.tmp 8) (.tmp 10)) none,
  .mk (some 13) (.load 28 (.tmp 12)) none,
  .mk (some 7) (.alloc 28) none,
  .mk none (.store 28 (.tmp 7) (.tmp 13)) none,
  .frz 7]
def r6_5 : List PS := [.mk (some 14) (.move (.tmp 5)) none,
  .mk (some 15) (.load 28 (.tmp 7)) none,
  .mk (some 16) (.move (.tmp 1)) none,
  .mk (some 17) (.call ⟨(.value (.func 17)), #[(.tmp 15), (.tmp 16)], #[28, 23]⟩) none,
  .mk (some 18) (.call ⟨(.builtin .append), #[(.tmp 14), (.tmp 17)], #[22, 22]⟩) none,
  .mk (some 5) (.assign (.tmp 18)) none]
def r6_6 : List PS := [.mk (some 19) (.binOp .add 3 (.tmp 10) (.const (.int .i64 1)) 3) none,
  .mk (some 10) (.move (.tmp 19)) none]
def r6_7 : List PS := [.mk (some 20) (.move (.tmp 5)) none,
  .mk (some 4) (.assign (.tmp 20)) none]
def c6 : PC := (.seq (.reg false r6_0) (.seq (.reg false r6_1) (.seq (.seq (.reg false r6_2) (.block 0 (.loop (.seq (.reg false r6_3) (.seq (.cond (.tmp 11) .skip (.exit 0)) (.seq (.block 1 (.seq (.reg false r6_4) (.reg false r6_5))) (.reg false r6_6))))))) (.seq (.reg false r6_7) .ret))))
theorem e6 {args : List PV} {h : Heap} {K : PV → Heap → Prop} (hl : args.length = 2) (s : pwp Try.prog [7] c6 (fin Try.prog [.tmp 4] h K) (slots0 (olds args)) h) : CanP Try.prog 6 args h K :=
  can_of2 (n := 21) mixed Try.func6 rfl (by kernel_rfl) (by rw [hl]; kernel_rfl) rfl (by kernel_rfl) s
/-! ### slices.Equal[[]naskh.api.Span,naskh.api.Span]: function 7 -/
def r7_0 : List PS := [.mk (some 4) (.assign (.const (.bool false))) none]
def r7_1 : List PS := [.mk (some 6) (.move (.tmp 0)) none,
  .mk (some 7) (.call ⟨(.builtin .len), #[(.tmp 6)], #[22]⟩) none,
  .mk (some 8) (.move (.tmp 1)) none,
  .mk (some 9) (.call ⟨(.builtin .len), #[(.tmp 8)], #[22]⟩) none,
  .mk (some 10) (.binOp .neq 3 (.tmp 7) (.tmp 9) 3) none]
def r7_2 : List PS := [.mk (some 4) (.assign (.const (.bool false))) none]
def r7_3 : List PS := [.mk (some 11) (.move (.tmp 0)) none,
  .mk (some 12) (.call ⟨(.builtin .len), #[(.tmp 11)], #[22]⟩) none,
  .mk (some 13) (.move (.const (.int .i64 0))) none]
def r7_4 : List PS := [.mk (some 14) (.binOp .lss 3 (.tmp 13) (.tmp 12) 3) none]
def r7_5 : List PS := [.mk (some 15) (.move (.tmp 13)) none,
  .mk (some 5) (.assign (.tmp 15)) none]
def r7_6 : List PS := [.mk (some 16) (.move (.tmp 0)) none,
  .mk (some 17) (.move (.tmp 5)) none,
  .mk (some 18) (.indexAddr 22 (.tmp 16) (.tmp 17)) none,
  .mk (some 19) (.load 28 (.tmp 18)) none,
  .mk (some 20) (.move (.tmp 1)) none,
  .mk (some 21) (.move (.tmp 5)) none,
  .mk (some 22) (.indexAddr 22 (.tmp 20) (.tmp 21)) none,
  .mk (some 23) (.load 28 (.tmp 22)) none,
  .mk (some 24) (.binOp .neq 28 (.tmp 19) (.tmp 23) 28) none]
def r7_7 : List PS := [.mk (some 4) (.assign (.const (.bool false))) none]
def r7_8 : List PS := [.mk (some 25) (.binOp .add 3 (.tmp 13) (.const (.int .i64 1)) 3) none,
  .mk (some 13) (.move (.tmp 25)) none]
def r7_9 : List PS := [.mk (some 4) (.assign (.const (.bool true))) none]
def c7 : PC := (.seq (.reg false r7_0) (.seq (.seq (.reg false r7_1) (.cond (.tmp 10) (.seq (.reg false r7_2) .ret) .skip)) (.seq (.seq (.reg false r7_3) (.block 0 (.loop (.seq (.reg false r7_4) (.seq (.cond (.tmp 14) .skip (.exit 0)) (.seq (.block 1 (.seq (.reg false r7_5) (.seq (.reg true r7_6) (.cond (.tmp 24) (.seq (.reg false r7_7) .ret) .skip)))) (.reg false r7_8))))))) (.seq (.reg false r7_9) .ret))))
theorem e7 {args : List PV} {h : Heap} {K : PV → Heap → Prop} (hl : args.length = 2) (s : pwp Try.prog [] c7 (fin Try.prog [.tmp 4] h K) (slots0 (olds args)) h) : CanP Try.prog 7 args h K :=
  can_of2 (n := 26) mixed Try.func7 rfl (by kernel_rfl) (by rw [hl]; kernel_rfl) rfl (by kernel_rfl) s
/-! ### naskh.naskhref28.Lines: function 8 -/
def r8_0 : List PS := [.mk (some 4) (.assign (.const (.slice none 0 0))) none]
def r8_1 : List PS := [.mk (some 5) (.assign (.const (.slice none 0 0))) none]
def r8_2 : List PS := [.mk (some 6) (.assign (.const (.int .i64 0))) none]
def r8_3 : List PS := [.mk (some 9) (.move (.tmp 6)) none,
  .mk (some 10) (.move (.tmp 0)) none,
  .mk (some 11) (.call ⟨(.builtin .len), #[(.tmp 10)], #[22]⟩) none,
  .mk (some 12) (.binOp .lss 3 (.tmp 9) (.tmp 11) 3) none]
def r8_4 : List PS := [.mk (some 15) (.move (.tmp 0)) none,
  .mk (some 16) (.move (.tmp 6)) none,
  .mk (some 17) (.indexAddr 22 (.tmp 15) (.tmp 16)) none,
  .mk (some 18) (.fieldAddr 28 (.tmp 17) 0) none,
  .mk (some 19) (.load 3 (.tmp 18)) none,
  .mk (some 7) (.assign (.tmp 19)) none]
def r8_5 : List PS := [.mk (some 8) (.assign (.const (.int .i64 0))) none]
def r8_6 : List PS := [.mk (some 20) (.move (.tmp 8)) none,
  .mk (some 21) (.move (.tmp 1)) none,
  .mk (some 22) (.call ⟨(.builtin .len), #[(.tmp 21)], #[23]⟩) none,
  .mk (some 23) (.binOp .lss 3 (.tmp 20) (.tmp 22) 3) none]
def r8_7 : List PS := [.mk (some 26) (.move (.tmp 1)) none,
  .mk (some 27) (.move (.tmp 8)) none,
  .mk (some 28) (.indexAddr 23 (.tmp 26) (.tmp 27)) none,
  .mk (some 29) (.load 3 (.tmp 28)) none,
  .mk (some 30) (.move (.tmp 7)) none,
  .mk (some 31) (.binOp .gtr 3 (.tmp 29) (.tmp 30) 3) none,
  .mk (some 32) (.move (.tmp 31)) none,
  .mk (some 33) (.move (.tmp 1)) (some (32, true)),
  .mk (some 34) (.move (.tmp 8)) (some (32, true)),
  .mk (some 35) (.indexAddr 23 (.tmp 33) (.tmp 34)) (some (32, true)),
  .mk (some 36) (.load 3 (.tmp 35)) (some (32, true)),
  .mk (some 37) (.move (.tmp 0)) (some (32, true)),
  .mk (some 38) (.move (.tmp 6)) (some (32, true)),
  .mk (some 39) (.indexAddr 22 (.tmp 37) (.tmp 38)) (some (32, true)),
  .mk (some 40) (.fieldAddr 28 (.tmp 39) 1) (some (32, true)),
  .mk (some 41) (.load 3 (.tmp 40)) (some (32, true)),
  .mk (some 42) (.binOp .lss 3 (.tmp 36) (.tmp 41) 3) (some (32, true)),
  .mk (some 43) (.pick (.tmp 32) (.tmp 42) (.const (.bool false))) none]
def r8_8 : List PS := [.mk (some 44) (.move (.tmp 5)) none,
  .mk (some 45) (.move (.tmp 7)) none,
  .mk (some 46) (.move (.tmp 1)) none,
  .mk (some 47) (.move (.tmp 8)) none,
  .mk (some 48) (.indexAddr 23 (.tmp 46) (.tmp 47)) none,
  .mk (some 49) (.load 3 (.tmp 48)) none,
  .mk (some 50) (.build 28 #[(0, (.tmp 45)), (1, (.tmp 49))]) none,
  .mk (some 51) (.buildSlice 22 1 #[(0, (.tmp 50))]) none,
  .mk (some 52) (.call ⟨(.builtin .append), #[(.tmp 44), (.tmp 51)], #[22, 22]⟩) none,
  .mk (some 5) (.assign (.tmp 52)) none]
def r8_9 : List PS := [.mk (some 53) (.move (.tmp 1)) none,
  .mk (some 54) (.move (.tmp 8)) none,
  .mk (some 55) (.indexAddr 23 (.tmp 53) (.tmp 54)) none,
  .mk (some 56) (.load 3 (.tmp 55)) none,
  .mk (some 7) (.assign (.tmp 56)) none]
def r8_10 : List PS := [.mk (some 24) (.move (.tmp 8)) none,
  .mk (some 25) (.binOp .add 3 (.tmp 24) (.const (.int .i64 1)) 3) none,
  .mk (some 8) (.assign (.tmp 25)) none]
def r8_11 : List PS := [.mk (some 57) (.move (.tmp 5)) none,
  .mk (some 58) (.move (.tmp 7)) none,
  .mk (some 59) (.move (.tmp 0)) none,
  .mk (some 60) (.move (.tmp 6)) none,
  .mk (some 61) (.indexAddr 22 (.tmp 59) (.tmp 60)) none,
  .mk (some 62) (.fieldAddr 28 (.tmp 61) 1) none,
  .mk (some 63) (.load 3 (.tmp 62)) none,
  .mk (some 64) (.build 28 #[(0, (.tmp 58)), (1, (.tmp 63))]) none,
  .mk (some 65) (.buildSlice 22 1 #[(0, (.tmp 64))]) none,
  .mk (some 66) (.call ⟨(.builtin .append), #[(.tmp 57), (.tmp 65)], #[22, 22]⟩) none,
  .mk (some 5) (.assign (.tmp 66)) none]
def r8_12 : List PS := [.mk (some 13) (.move (.tmp 6)) none,
  .mk (some 14) (.binOp .add 3 (.tmp 13) (.const (.int .i64 1)) 3) none,
  .mk (some 6) (.assign (.tmp 14)) none]
def r8_13 : List PS := [.mk (some 67) (.move (.tmp 5)) none,
  .mk (some 4) (.assign (.tmp 67)) none]
def c8 : PC := (.seq (.reg false r8_0) (.seq (.reg false r8_1) (.seq (.seq (.reg false r8_2) (.block 0 (.loop (.seq (.seq (.reg false r8_3) (.cond (.tmp 12) .skip (.exit 0))) (.seq (.block 1 (.seq (.reg false r8_4) (.seq (.seq (.reg false r8_5) (.block 2 (.loop (.seq (.seq (.reg false r8_6) (.cond (.tmp 23) .skip (.exit 2))) (.seq (.block 3 (.seq (.reg true r8_7) (.cond (.tmp 43) (.seq (.reg false r8_8) (.reg false r8_9)) .skip))) (.reg false r8_10)))))) (.reg false r8_11)))) (.reg false r8_12)))))) (.seq (.reg false r8_13) .ret))))
theorem e8 {args : List PV} {h : Heap} {K : PV → Heap → Prop} (hl : args.length = 2) (s : pwp Try.prog [] c8 (fin Try.prog [.tmp 4] h K) (slots0 (olds args)) h) : CanP Try.prog 8 args h K :=
  can_of2 (n := 68) mixed Try.func8 rfl (by kernel_rfl) (by rw [hl]; kernel_rfl) rfl (by kernel_rfl) s
/-! ### naskh.naskhlaw28.BreaksLines: function 3 -/
def r3_0 : List PS := [.mk (some 6) (.assign (.const (.bool false))) none]
def r3_1 : List PS := [.mk (some 8) (.move (.tmp 0)) none,
  .mk (some 9) (.call ⟨(.builtin .len), #[(.tmp 8)], #[22]⟩) none,
  .mk (some 10) (.binOp .gtr 3 (.tmp 9) (.const (.int .i64 60)) 3) none,
  .mk (some 11) (.move (.tmp 10)) none,
  .mk (some 12) (.move (.tmp 1)) (some (11, false)),
  .mk (some 13) (.call ⟨(.builtin .len), #[(.tmp 12)], #[23]⟩) (some (11, false)),
  .mk (some 14) (.binOp .gtr 3 (.tmp 13) (.const (.int .i64 60)) 3) (some (11, false)),
  .mk (some 15) (.pick (.tmp 11) (.const (.bool true)) (.tmp 14)) none]
def r3_2 : List PS := [.mk (some 16) (.call ⟨(.value (.func 5)), #[], #[]⟩) none,
  .mk (some 6) (.assign (.tmp 16)) none]
def r3_3 : List PS := [.mk (some 17) (.move (.tmp 0)) none,
  .mk (some 18) (.move (.tmp 1)) none,
  .mk (some 19) (.call ⟨(.value (.func 6)), #[(.tmp 17), (.tmp 18)], #[22, 23]⟩) none,
  .mk (some 7) (.assign (.tmp 19)) none]
def r3_4 : List PS := [.mk (some 20) (.move (.tmp 7)) none,
  .mk (some 21) (.move (.tmp 0)) none,
  .mk (some 22) (.move (.tmp 1)) none,
  .mk (some 23) (.call ⟨(.value (.func 8)), #[(.tmp 21), (.tmp 22)], #[22, 23]⟩) none,
  .mk (some 24) (.call ⟨(.value (.func 7)), #[(.tmp 20), (.tmp 23)], #[22, 22]⟩) none,
  .mk (some 25) (.unOp .not 4 (.tmp 24)) none]
def r3_5 : List PS := [.mk (some 6) (.assign (.const (.bool false))) none]
def r3_6 : List PS := [.mk (some 26) (.move (.tmp 0)) none,
  .mk (some 27) (.move (.tmp 2)) none,
  .mk (some 28) (.call ⟨(.value (.func 9)), #[(.tmp 26), (.tmp 27)], #[22, 3]⟩) none,
  .mk (some 29) (.unOp .not 4 (.tmp 28)) none,
  .mk (some 30) (.move (.tmp 29)) none,
  .mk (some 31) (.move (.tmp 7)) (some (30, false)),
  .mk (some 32) (.move (.tmp 2)) (some (30, false)),
  .mk (some 33) (.call ⟨(.value (.func 9)), #[(.tmp 31), (.tmp 32)], #[22, 3]⟩) (some (30, false)),
  .mk (some 34) (.pick (.tmp 30) (.const (.bool true)) (.tmp 33)) none,
  .mk (some 35) (.move (.tmp 34)) none,
  .mk (some 36) (.call ⟨(.value (.func 5)), #[], #[]⟩) (some (35, true)),
  .mk (some 37) (.pick (.tmp 35) (.tmp 36) (.const (.bool false))) none,
  .mk (some 6) (.assign (.tmp 37)) none]
def c3 : PC := (.seq (.reg false r3_0) (.seq (.seq (.reg false r3_1) (.cond (.tmp 15) (.seq (.reg false r3_2) .ret) .skip)) (.seq (.reg false r3_3) (.seq (.seq (.reg false r3_4) (.cond (.tmp 25) (.seq (.reg false r3_5) .ret) .skip)) (.seq (.reg false r3_6) .ret)))))
theorem e3 {args : List PV} {h : Heap} {K : PV → Heap → Prop} (hl : args.length = 3) (s : pwp Try.prog [] c3 (fin Try.prog [.tmp 6] h K) (slots0 (olds args)) h) : CanP Try.prog 3 args h K :=
  can_of2 (n := 38) mixed Try.func3 rfl (by kernel_rfl) (by rw [hl]; kernel_rfl) rfl (by kernel_rfl) s
/-! ### naskh.span.rises: function 23 -/
def r23_0 : List PS := [.mk (some 2) (.box 28 (.tmp 0)) none,
  .mk (some 4) (.assign (.const (.bool false))) none]
def r23_1 : List PS := [.mk (some 8) (.fieldAddr 28 (.tmp 2) 0) none,
  .mk (some 9) (.load 3 (.tmp 8)) none,
  .mk (some 5) (.assign (.tmp 9)) none]
def r23_2 : List PS := [.mk (some 10) (.move (.tmp 1)) none,
  .mk (some 11) (.call ⟨(.builtin .len), #[(.tmp 10)], #[23]⟩) none,
  .mk (some 12) (.move (.const (.int .i64 0))) none]
def r23_3 : List PS := [.mk (some 13) (.binOp .lss 3 (.tmp 12) (.tmp 11) 3) none]
def r23_4 : List PS := [.mk (some 14) (.indexAddr 23 (.tmp 10) (.tmp 12)) none,
  .mk (some 15) (.load 3 (.tmp 14)) none,
  .mk (some 7) (.assign (.tmp 15)) none]
def r23_5 : List PS := [.mk (some 16) (.move (.tmp 7)) none,
  .mk (some 17) (.move (.tmp 5)) none,
  .mk (some 18) (.binOp .leq 3 (.tmp 16) (.tmp 17) 3) none,
  .mk (some 19) (.move (.tmp 18)) none,
  .mk (some 20) (.move (.tmp 7)) (some (19, false)),
  .mk (some 21) (.fieldAddr 28 (.tmp 2) 1) (some (19, false)),
  .mk (some 22) (.load 3 (.tmp 21)) (some (19, false)),
  .mk (some 23) (.binOp .geq 3 (.tmp 20) (.tmp 22) 3) (some (19, false)),
  .mk (some 24) (.pick (.tmp 19) (.const (.bool true)) (.tmp 23)) none]
def r23_6 : List PS := [.mk (some 4) (.assign (.const (.bool false))) none]
def r23_7 : List PS := [.mk (some 25) (.move (.tmp 7)) none,
  .mk (some 5) (.assign (.tmp 25)) none]
def r23_8 : List PS := [.mk (some 26) (.binOp .add 3 (.tmp 12) (.const (.int .i64 1)) 3) none,
  .mk (some 12) (.move (.tmp 26)) none]
def r23_9 : List PS := [.mk (some 4) (.assign (.const (.bool true))) none]
def c23 : PC := (.seq (.reg false r23_0) (.seq (.reg false r23_1) (.seq (.seq (.reg false r23_2) (.block 0 (.loop (.seq (.reg false r23_3) (.seq (.cond (.tmp 13) .skip (.exit 0)) (.seq (.block 1 (.seq (.reg false r23_4) (.seq (.seq (.reg false r23_5) (.cond (.tmp 24) (.seq (.reg false r23_6) .ret) .skip)) (.reg false r23_7)))) (.reg false r23_8))))))) (.seq (.reg false r23_9) .ret))))
theorem e23 {args : List PV} {h : Heap} {K : PV → Heap → Prop} (hl : args.length = 2) (s : pwp Try.prog [] c23 (fin Try.prog [.tmp 4] h K) (slots0 (olds args)) h) : CanP Try.prog 23 args h K :=
  can_of2 (n := 27) mixed Try.func23 rfl (by kernel_rfl) (by rw [hl]; kernel_rfl) rfl (by kernel_rfl) s
/-! ### naskh.span.Cut: function 19 -/
def r19_0 : List PS := [.mk (some 2) (.box 28 (.tmp 0)) none,
  .mk (some 4) (.assign (.const (.slice none 0 0))) none,
  .mk (some 5) (.assign (.const (.int .i64 0))) none]
def r19_1 : List PS := [.mk (some 9) (.load 28 (.tmp 2)) none,
  .mk (some 10) (.call ⟨(.value (.func 18)), #[(.tmp 9)], #[28]⟩) none,
  .mk (some 11) (.unOp .not 4 (.tmp 10)) none]
def r19_2 : List PS := [.mk (some 4) (.assign (.const (.slice none 0 0))) none,
  .mk (some 5) (.assign (.const (.int .i64 1))) none]
def r19_3 : List PS := [.mk (some 12) (.load 28 (.tmp 2)) none,
  .mk (some 13) (.move (.tmp 1)) none,
  .mk (some 14) (.call ⟨(.value (.func 23)), #[(.tmp 12), (.tmp 13)], #[28, 23]⟩) none,
  .mk (some 15) (.unOp .not 4 (.tmp 14)) none]
def r19_4 : List PS := [.mk (some 4) (.assign (.const (.slice none 0 0))) none,
  .mk (some 5) (.assign (.const (.int .i64 10))) none]
def r19_5 : List PS := [.mk (some 16) (.move (.tmp 1)) none,
  .mk (some 17) (.call ⟨(.builtin .len), #[(.tmp 16)], #[23]⟩) none,
  .mk (some 18) (.binOp .add 3 (.tmp 17) (.const (.int .i64 1)) 3) none,
  .mk (some 19) (.makeSlice 22 (.const (.int .i64 0)) (.tmp 18)) none,
  .mk (some 6) (.assign (.tmp 19)) none]
def r19_6 : List PS := [.mk (some 20) (.move (.tmp 1)) none,
  .mk (some 21) (.call ⟨(.builtin .len), #[(.tmp 20)], #[23]⟩) none,
  .mk (some 22) (.move (.const (.int .i64 0))) none]
def r19_7 : List PS := [.mk (some 23) (.binOp .lss 3 (.tmp 22) (.tmp 21) 3) none]
def r19_8 : List PS := [.mk (some 24) (.indexAddr 23 (.tmp 20) (.tmp 22)) none,
  .mk (some 25) (.load 3 (.tmp 24)) none,
  .mk (some 8) (.assign (.tmp 25)) none]
def r19_9 : List PS := [.mk (some 26) (.move (.tmp 6)) none,
  .mk (some 27) (.fieldAddr 28 (.tmp 2) 0) none,
  .mk (some 28) (.load 3 (.tmp 27)) none,
  .mk (some 29) (.move (.tmp 8)) none,
  .mk (some 30) (.build 28 #[(0, (.tmp 28)), (1, (.tmp 29))]) none,
  .mk (some 31) (.buildSlice 22 1 #[(0, (.tmp 30))]) none,
  .mk (some 32) (.call ⟨(.builtin .append), #[(.tmp 26), (.tmp 31)], #[22, 22]⟩) none,
  .mk (some 6) (.assign (.tmp 32)) none]
def r19_10 : List PS := [.mk (some 33) (.move (.tmp 8)) none,
  .mk (some 34) (.fieldAddr 28 (.tmp 2) 0) none,
  .mk none (.store 3 (.tmp 34) (.tmp 33)) none]
def r19_11 : List PS := [.mk (some 35) (.binOp .add 3 (.tmp 22) (.const (.int .i64 1)) 3) none,
  .mk (some 22) (.move (.tmp 35)) none]
def r19_12 : List PS := [.mk (some 36) (.move (.tmp 6)) none,
  .mk (some 37) (.load 28 (.tmp 2)) none,
  .mk (some 38) (.buildSlice 22 1 #[(0, (.tmp 37))]) none,
  .mk (some 39) (.call ⟨(.builtin .append), #[(.tmp 36), (.tmp 38)], #[22, 22]⟩) none,
  .mk (some 4) (.assign (.tmp 39)) none,
  .mk (some 5) (.assign (.const (.int .i64 0))) none]
def c19 : PC := (.seq (.reg false r19_0) (.seq (.seq (.reg false r19_1) (.cond (.tmp 11) (.seq (.reg false r19_2) .ret) .skip)) (.seq (.seq (.reg false r19_3) (.cond (.tmp 15) (.seq (.reg false r19_4) .ret) .skip)) (.seq (.reg false r19_5) (.seq (.seq (.reg false r19_6) (.block 0 (.loop (.seq (.reg false r19_7) (.seq (.cond (.tmp 23) .skip (.exit 0)) (.seq (.block 1 (.seq (.reg false r19_8) (.seq (.reg false r19_9) (.reg false r19_10)))) (.reg false r19_11))))))) (.seq (.reg false r19_12) .ret))))))
theorem e19 {args : List PV} {h : Heap} {K : PV → Heap → Prop} (hl : args.length = 2) (s : pwp Try.prog [2] c19 (fin Try.prog [.tmp 4, .tmp 5] h K) (slots0 (olds args)) h) : CanP Try.prog 19 args h K :=
  can_of2 (n := 40) mixed Try.func19 rfl (by kernel_rfl) (by rw [hl]; kernel_rfl) rfl (by kernel_rfl) s
/-! ### naskh.breaks.Split: function 10 -/
def r10_0 : List PS := [.mk (some 4) (.assign (.const (.slice none 0 0))) none,
  .mk (some 5) (.assign (.const (.int .i64 0))) none]
def r10_1 : List PS := [.mk (some 7) (.move (.tmp 0)) none,
  .mk (some 8) (.move (.tmp 1)) none,
  .mk (some 9) (.call ⟨(.value (.func 12)), #[(.tmp 7), (.tmp 8)], #[3, 23]⟩) none,
  .mk (some 6) (.assign (.tmp 9)) none]
def r10_2 : List PS := [.mk (some 10) (.move (.tmp 6)) none,
  .mk (some 11) (.binOp .neq 32 (.tmp 10) (.const (.int .i64 0)) 32) none]
def r10_3 : List PS := [.mk (some 12) (.move (.tmp 6)) none,
  .mk (some 4) (.assign (.const (.slice none 0 0))) none,
  .mk (some 5) (.assign (.tmp 12)) none]
def r10_4 : List PS := [.mk (some 13) (.move (.tmp 0)) none,
  .mk (some 14) (.binOp .lss 3 (.tmp 13) (.const (.int .i64 1)) 3) none]
def r10_5 : List PS := [.mk (some 4) (.assign (.const (.slice none 0 0))) none,
  .mk (some 5) (.assign (.const (.int .i64 0))) none]
def r10_6 : List PS := [.mk (some 15) (.move (.tmp 0)) none,
  .mk (some 16) (.build 28 #[(1, (.tmp 15))]) none,
  .mk (some 17) (.move (.tmp 1)) none,
  .mk (some 18) (.call ⟨(.value (.func 19)), #[(.tmp 16), (.tmp 17)], #[28, 23]⟩) none,
  .mk (some 19) (.extract (.tmp 18) 0) none,
  .mk (some 20) (.extract (.tmp 18) 1) none,
  .mk (some 4) (.assign (.tmp 19)) none,
  .mk (some 5) (.assign (.tmp 20)) none]
def c10 : PC := (.seq (.reg false r10_0) (.seq (.seq (.reg false r10_1) (.seq (.reg false r10_2) (.cond (.tmp 11) (.seq (.reg false r10_3) .ret) .skip))) (.seq (.seq (.reg false r10_4) (.cond (.tmp 14) (.seq (.reg false r10_5) .ret) .skip)) (.seq (.reg false r10_6) .ret))))
theorem e10 {args : List PV} {h : Heap} {K : PV → Heap → Prop} (hl : args.length = 2) (s : pwp Try.prog [] c10 (fin Try.prog [.tmp 4, .tmp 5] h K) (slots0 (olds args)) h) : CanP Try.prog 10 args h K :=
  can_of2 (n := 21) mixed Try.func10 rfl (by kernel_rfl) (by rw [hl]; kernel_rfl) rfl (by kernel_rfl) s
/-! ### naskh.naskhref28.Check: function 13 -/
def r13_0 : List PS := [.mk (some 4) (.assign (.const (.int .i64 0))) none]
def r13_1 : List PS := [.mk (some 5) (.assign (.const (.int .i64 0))) none]
def r13_2 : List PS := [.mk (some 6) (.assign (.const (.int .i64 0))) none]
def r13_3 : List PS := [.mk (some 7) (.move (.tmp 6)) none,
  .mk (some 8) (.move (.tmp 1)) none,
  .mk (some 9) (.call ⟨(.builtin .len), #[(.tmp 8)], #[23]⟩) none,
  .mk (some 10) (.binOp .lss 3 (.tmp 7) (.tmp 9) 3) none]
def r13_4 : List PS := [.mk (some 13) (.move (.tmp 1)) none,
  .mk (some 14) (.move (.tmp 6)) none,
  .mk (some 15) (.indexAddr 23 (.tmp 13) (.tmp 14)) none,
  .mk (some 16) (.load 3 (.tmp 15)) none,
  .mk (some 17) (.move (.tmp 5)) none,
  .mk (some 18) (.binOp .leq 3 (.tmp 16) (.tmp 17) 3) none,
  .mk (some 19) (.move (.tmp 18)) none,
  .mk (some 20) (.move (.tmp 1)) (some (19, false)),
  .mk (some 21) (.move (.tmp 6)) (some (19, false)),
  .mk (some 22) (.indexAddr 23 (.tmp 20) (.tmp 21)) (some (19, false)),
  .mk (some 23) (.load 3 (.tmp 22)) (some (19, false)),
  .mk (some 24) (.move (.tmp 0)) (some (19, false)),
  .mk (some 25) (.binOp .geq 3 (.tmp 23) (.tmp 24) 3) (some (19, false)),
  .mk (some 26) (.pick (.tmp 19) (.const (.bool true)) (.tmp 25)) none]
def r13_5 : List PS := [.mk (some 4) (.assign (.const (.int .i64 4))) none]
def r13_6 : List PS := [.mk (some 27) (.move (.tmp 1)) none,
  .mk (some 28) (.move (.tmp 6)) none,
  .mk (some 29) (.indexAddr 23 (.tmp 27) (.tmp 28)) none,
  .mk (some 30) (.load 3 (.tmp 29)) none,
  .mk (some 5) (.assign (.tmp 30)) none]
def r13_7 : List PS := [.mk (some 11) (.move (.tmp 6)) none,
  .mk (some 12) (.binOp .add 3 (.tmp 11) (.const (.int .i64 1)) 3) none,
  .mk (some 6) (.assign (.tmp 12)) none]
def r13_8 : List PS := [.mk (some 4) (.assign (.const (.int .i64 0))) none]
def c13 : PC := (.seq (.reg false r13_0) (.seq (.reg false r13_1) (.seq (.seq (.reg false r13_2) (.block 0 (.loop (.seq (.seq (.reg false r13_3) (.cond (.tmp 10) .skip (.exit 0))) (.seq (.block 1 (.seq (.seq (.reg false r13_4) (.cond (.tmp 26) (.seq (.reg false r13_5) .ret) .skip)) (.reg false r13_6))) (.reg false r13_7)))))) (.seq (.reg false r13_8) .ret))))
theorem e13 {args : List PV} {h : Heap} {K : PV → Heap → Prop} (hl : args.length = 2) (s : pwp Try.prog [] c13 (fin Try.prog [.tmp 4] h K) (slots0 (olds args)) h) : CanP Try.prog 13 args h K :=
  can_of2 (n := 31) mixed Try.func13 rfl (by kernel_rfl) (by rw [hl]; kernel_rfl) rfl (by kernel_rfl) s
/-! ### naskh.naskhref03.Right: function 24 -/
def r24_0 : List PS := [.mk (some 1) (.box 28 (.tmp 0)) none,
  .mk (some 2) (.assign (.const (.bool false))) none]
def r24_1 : List PS := [.mk (some 3) (.fieldAddr 28 (.tmp 1) 0) none,
  .mk (some 4) (.load 3 (.tmp 3)) none,
  .mk (some 5) (.binOp .geq 3 (.tmp 4) (.const (.int .i64 0)) 3) none,
  .mk (some 6) (.move (.tmp 5)) none,
  .mk (some 7) (.fieldAddr 28 (.tmp 1) 0) (some (6, true)),
  .mk (some 8) (.load 3 (.tmp 7)) (some (6, true)),
  .mk (some 9) (.fieldAddr 28 (.tmp 1) 1) (some (6, true)),
  .mk (some 10) (.load 3 (.tmp 9)) (some (6, true)),
  .mk (some 11) (.binOp .lss 3 (.tmp 8) (.tmp 10) 3) (some (6, true)),
  .mk (some 12) (.pick (.tmp 6) (.tmp 11) (.const (.bool false))) none,
  .mk (some 2) (.assign (.tmp 12)) none]
def c24 : PC := (.seq (.reg false r24_0) (.seq (.reg false r24_1) .ret))
theorem e24 {args : List PV} {h : Heap} {K : PV → Heap → Prop} (hl : args.length = 1) (s : pwp Try.prog [] c24 (fin Try.prog [.tmp 2] h K) (slots0 (olds args)) h) : CanP Try.prog 24 args h K :=
  can_of2 (n := 13) mixed Try.func24 rfl (by kernel_rfl) (by rw [hl]; kernel_rfl) rfl (by kernel_rfl) s
/-! ### naskh.naskhref03.Cut: function 20 -/
def r20_0 : List PS := [.mk (some 2) (.box 28 (.tmp 0)) none,
  .mk (some 4) (.assign (.const (.slice none 0 0))) none,
  .mk (some 5) (.assign (.const (.int .i64 0))) none]
def r20_1 : List PS := [.mk (some 9) (.load 28 (.tmp 2)) none,
  .mk (some 10) (.call ⟨(.value (.func 24)), #[(.tmp 9)], #[28]⟩) none,
  .mk (some 11) (.unOp .not 4 (.tmp 10)) none]
def r20_2 : List PS := [.mk (some 4) (.assign (.const (.slice none 0 0))) none,
  .mk (some 5) (.assign (.const (.int .i64 1))) none]
def r20_3 : List PS := [.mk (some 6) (.assign (.const (.slice none 0 0))) none]
def r20_4 : List PS := [.mk (some 12) (.fieldAddr 28 (.tmp 2) 0) none,
  .mk (some 13) (.load 3 (.tmp 12)) none,
  .mk (some 7) (.assign (.tmp 13)) none]
def r20_5 : List PS := [.mk (some 8) (.assign (.const (.int .i64 0))) none]
def r20_6 : List PS := [.mk (some 14) (.move (.tmp 8)) none,
  .mk (some 15) (.move (.tmp 1)) none,
  .mk (some 16) (.call ⟨(.builtin .len), #[(.tmp 15)], #[23]⟩) none,
  .mk (some 17) (.binOp .lss 3 (.tmp 14) (.tmp 16) 3) none]
def r20_7 : List PS := [.mk (some 20) (.move (.tmp 1)) none,
  .mk (some 21) (.move (.tmp 8)) none,
  .mk (some 22) (.indexAddr 23 (.tmp 20) (.tmp 21)) none,
  .mk (some 23) (.load 3 (.tmp 22)) none,
  .mk (some 24) (.move (.tmp 7)) none,
  .mk (some 25) (.binOp .leq 3 (.tmp 23) (.tmp 24) 3) none,
  .mk (some 26) (.move (.tmp 25)) none,
  .mk (some 27) (.move (.tmp 1)) (some (26, false)),
  .mk (some 28) (.move (.tmp 8)) (some (26, false)),
  .mk (some 29) (.indexAddr 23 (.tmp 27) (.tmp 28)) (some (26, false)),
  .mk (some 30) (.load 3 (.tmp 29)) (some (26, false)),
  .mk (some 31) (.fieldAddr 28 (.tmp 2) 1) (some (26, false)),
  .mk (some 32) (.load 3 (.tmp 31)) (some (26, false)),
  .mk (some 33) (.binOp .geq 3 (.tmp 30) (.tmp 32) 3) (some (26, false)),
  .mk (some 34) (.pick (.tmp 26) (.const (.bool true)) (.tmp 33)) none]
def r20_8 : List PS := [.mk (some 4) (.assign (.const (.slice none 0 0))) none,
  .mk (some 5) (.assign (.const (.int .i64 10))) none]
def r20_9 : List PS := [.mk (some 35) (.move (.tmp 6)) none,
  .mk (some 36) (.move (.tmp 7)) none,
  .mk (some 37) (.move (.tmp 1)) none,
  .mk (some 38) (.move (.tmp 8)) none,
  .mk (some 39) (.indexAddr 23 (.tmp 37) (.tmp 38)) none,
  .mk (some 40) (.load 3 (.tmp 39)) none,
  .mk (some 41) (.build 28 #[(0, (.tmp 36)), (1, (.tmp 40))]) none,
  .mk (some 42) (.buildSlice 22 1 #[(0, (.tmp 41))]) none,
  .mk (some 43) (.call ⟨(.builtin .append), #[(.tmp 35), (.tmp 42)], #[22, 22]⟩) none,
  .mk (some 6) (.assign (.tmp 43)) none]
def r20_10 : List PS := [.mk (some 44) (.move (.tmp 1)) none,
  .mk (some 45) (.move (.tmp 8)) none,
  .mk (some 46) (.indexAddr 23 (.tmp 44) (.tmp 45)) none,
  .mk (some 47) (.load 3 (.tmp 46)) none,
  .mk (some 7) (.assign (.tmp 47)) none]
def r20_11 : List PS := [.mk (some 18) (.move (.tmp 8)) none,
  .mk (some 19) (.binOp .add 3 (.tmp 18) (.const (.int .i64 1)) 3) none,
  .mk (some 8) (.assign (.tmp 19)) none]
def r20_12 : List PS := [.mk (some 48) (.move (.tmp 6)) none,
  .mk (some 49) (.move (.tmp 7)) none,
  .mk (some 50) (.fieldAddr 28 (.tmp 2) 1) none,
  .mk (some 51) (.load 3 (.tmp 50)) none,
  .mk (some 52) (.build 28 #[(0, (.tmp 49)), (1, (.tmp 51))]) none,
  .mk (some 53) (.buildSlice 22 1 #[(0, (.tmp 52))]) none,
  .mk (some 54) (.call ⟨(.builtin .append), #[(.tmp 48), (.tmp 53)], #[22, 22]⟩) none,
  .mk (some 4) (.assign (.tmp 54)) none,
  .mk (some 5) (.assign (.const (.int .i64 0))) none]
def c20 : PC := (.seq (.reg false r20_0) (.seq (.seq (.reg false r20_1) (.cond (.tmp 11) (.seq (.reg false r20_2) .ret) .skip)) (.seq (.reg false r20_3) (.seq (.reg false r20_4) (.seq (.seq (.reg false r20_5) (.block 0 (.loop (.seq (.seq (.reg false r20_6) (.cond (.tmp 17) .skip (.exit 0))) (.seq (.block 1 (.seq (.seq (.reg true r20_7) (.cond (.tmp 34) (.seq (.reg false r20_8) .ret) .skip)) (.seq (.reg false r20_9) (.reg false r20_10)))) (.reg false r20_11)))))) (.seq (.reg false r20_12) .ret))))))
theorem e20 {args : List PV} {h : Heap} {K : PV → Heap → Prop} (hl : args.length = 2) (s : pwp Try.prog [] c20 (fin Try.prog [.tmp 4, .tmp 5] h K) (slots0 (olds args)) h) : CanP Try.prog 20 args h K :=
  can_of2 (n := 55) mixed Try.func20 rfl (by kernel_rfl) (by rw [hl]; kernel_rfl) rfl (by kernel_rfl) s
/-! ### naskh.naskhref28.Split: function 11 -/
def r11_0 : List PS := [.mk (some 4) (.assign (.const (.slice none 0 0))) none,
  .mk (some 5) (.assign (.const (.int .i64 0))) none]
def r11_1 : List PS := [.mk (some 7) (.move (.tmp 0)) none,
  .mk (some 8) (.move (.tmp 1)) none,
  .mk (some 9) (.call ⟨(.value (.func 13)), #[(.tmp 7), (.tmp 8)], #[3, 23]⟩) none,
  .mk (some 6) (.assign (.tmp 9)) none]
def r11_2 : List PS := [.mk (some 10) (.move (.tmp 6)) none,
  .mk (some 11) (.binOp .neq 32 (.tmp 10) (.const (.int .i64 0)) 32) none,
  .mk (some 12) (.move (.tmp 11)) none,
  .mk (some 13) (.move (.tmp 0)) (some (12, false)),
  .mk (some 14) (.binOp .lss 3 (.tmp 13) (.const (.int .i64 1)) 3) (some (12, false)),
  .mk (some 15) (.pick (.tmp 12) (.const (.bool true)) (.tmp 14)) none]
def r11_3 : List PS := [.mk (some 16) (.move (.tmp 6)) none,
  .mk (some 4) (.assign (.const (.slice none 0 0))) none,
  .mk (some 5) (.assign (.tmp 16)) none]
def r11_4 : List PS := [.mk (some 17) (.move (.tmp 0)) none,
  .mk (some 18) (.build 28 #[(1, (.tmp 17))]) none,
  .mk (some 19) (.move (.tmp 1)) none,
  .mk (some 20) (.call ⟨(.value (.func 20)), #[(.tmp 18), (.tmp 19)], #[28, 23]⟩) none,
  .mk (some 21) (.extract (.tmp 20) 0) none,
  .mk (some 22) (.extract (.tmp 20) 1) none,
  .mk (some 4) (.assign (.tmp 21)) none,
  .mk (some 5) (.assign (.tmp 22)) none]
def c11 : PC := (.seq (.reg false r11_0) (.seq (.seq (.reg false r11_1) (.seq (.reg false r11_2) (.cond (.tmp 15) (.seq (.reg false r11_3) .ret) .skip))) (.seq (.reg false r11_4) .ret)))
theorem e11 {args : List PV} {h : Heap} {K : PV → Heap → Prop} (hl : args.length = 2) (s : pwp Try.prog [] c11 (fin Try.prog [.tmp 4, .tmp 5] h K) (slots0 (olds args)) h) : CanP Try.prog 11 args h K :=
  can_of2 (n := 23) mixed Try.func11 rfl (by kernel_rfl) (by rw [hl]; kernel_rfl) rfl (by kernel_rfl) s
/-! ### naskh.naskhlaw28.BreaksTell: function 4 -/
def r4_0 : List PS := [.mk (some 4) (.assign (.const (.bool false))) none]
def r4_1 : List PS := [.mk (some 9) (.move (.tmp 1)) none,
  .mk (some 10) (.call ⟨(.builtin .len), #[(.tmp 9)], #[23]⟩) none,
  .mk (some 11) (.binOp .gtr 3 (.tmp 10) (.const (.int .i64 200)) 3) none]
def r4_2 : List PS := [.mk (some 12) (.call ⟨(.value (.func 5)), #[], #[]⟩) none,
  .mk (some 4) (.assign (.tmp 12)) none]
def r4_3 : List PS := [.mk (some 14) (.move (.tmp 0)) none,
  .mk (some 15) (.move (.tmp 1)) none,
  .mk (some 16) (.call ⟨(.value (.func 10)), #[(.tmp 14), (.tmp 15)], #[3, 23]⟩) none,
  .mk (some 13) (.move (.tmp 16)) none,
  .mk (some 17) (.extract (.tmp 13) 0) none,
  .mk (some 18) (.extract (.tmp 13) 1) none,
  .mk (some 5) (.assign (.tmp 17)) none,
  .mk (some 6) (.assign (.tmp 18)) none]
def r4_4 : List PS := [.mk (some 20) (.move (.tmp 0)) none,
  .mk (some 21) (.move (.tmp 1)) none,
  .mk (some 22) (.call ⟨(.value (.func 11)), #[(.tmp 20), (.tmp 21)], #[3, 23]⟩) none,
  .mk (some 19) (.move (.tmp 22)) none,
  .mk (some 23) (.extract (.tmp 19) 0) none,
  .mk (some 24) (.extract (.tmp 19) 1) none,
  .mk (some 7) (.assign (.tmp 23)) none,
  .mk (some 8) (.assign (.tmp 24)) none]
def r4_5 : List PS := [.mk (some 25) (.move (.tmp 0)) none,
  .mk (some 26) (.move (.tmp 1)) none,
  .mk (some 27) (.call ⟨(.value (.func 12)), #[(.tmp 25), (.tmp 26)], #[3, 23]⟩) none,
  .mk (some 28) (.move (.tmp 0)) none,
  .mk (some 29) (.move (.tmp 1)) none,
  .mk (some 30) (.call ⟨(.value (.func 13)), #[(.tmp 28), (.tmp 29)], #[3, 23]⟩) none,
  .mk (some 31) (.binOp .eql 32 (.tmp 27) (.tmp 30) 32) none,
  .mk (some 32) (.move (.tmp 31)) none,
  .mk (some 33) (.move (.tmp 6)) (some (32, true)),
  .mk (some 34) (.move (.tmp 8)) (some (32, true)),
  .mk (some 35) (.binOp .eql 32 (.tmp 33) (.tmp 34) 32) (some (32, true)),
  .mk (some 36) (.pick (.tmp 32) (.tmp 35) (.const (.bool false))) none,
  .mk (some 37) (.move (.tmp 36)) none,
  .mk (some 38) (.move (.tmp 5)) (some (37, true)),
  .mk (some 39) (.move (.tmp 7)) (some (37, true)),
  .mk (some 40) (.call ⟨(.value (.func 7)), #[(.tmp 38), (.tmp 39)], #[22, 22]⟩) (some (37, true)),
  .mk (some 41) (.pick (.tmp 37) (.tmp 40) (.const (.bool false))) none,
  .mk (some 42) (.move (.tmp 41)) none,
  .mk (some 43) (.move (.tmp 6)) (some (42, true)),
  .mk (some 44) (.binOp .neq 32 (.tmp 43) (.const (.int .i64 0)) 32) (some (42, true)),
  .mk (some 45) (.move (.tmp 44)) (some (42, true)),
  .mk (some 46) (.move (.tmp 0)) (some (45, false)),
  .mk (some 47) (.binOp .lss 3 (.tmp 46) (.const (.int .i64 0)) 3) (some (45, false)),
  .mk (some 48) (.pick (.tmp 45) (.const (.bool true)) (.tmp 47)) (some (42, true)),
  .mk (some 49) (.move (.tmp 48)) (some (42, true)),
  .mk (some 50) (.move (.tmp 5)) (some (49, false)),
  .mk (some 51) (.move (.tmp 0)) (some (49, false)),
  .mk (some 52) (.call ⟨(.value (.func 9)), #[(.tmp 50), (.tmp 51)], #[22, 3]⟩) (some (49, false)),
  .mk (some 53) (.pick (.tmp 49) (.const (.bool true)) (.tmp 52)) (some (42, true)),
  .mk (some 54) (.pick (.tmp 42) (.tmp 53) (.const (.bool false))) none,
  .mk (some 55) (.move (.tmp 54)) none,
  .mk (some 56) (.call ⟨(.value (.func 5)), #[], #[]⟩) (some (55, true)),
  .mk (some 57) (.pick (.tmp 55) (.tmp 56) (.const (.bool false))) none,
  .mk (some 4) (.assign (.tmp 57)) none]
def c4 : PC := (.seq (.reg false r4_0) (.seq (.seq (.reg false r4_1) (.cond (.tmp 11) (.seq (.reg false r4_2) .ret) .skip)) (.seq (.reg false r4_3) (.seq (.reg false r4_4) (.seq (.reg false r4_5) .ret)))))
theorem e4 {args : List PV} {h : Heap} {K : PV → Heap → Prop} (hl : args.length = 2) (s : pwp Try.prog [] c4 (fin Try.prog [.tmp 4] h K) (slots0 (olds args)) h) : CanP Try.prog 4 args h K :=
  can_of2 (n := 58) mixed Try.func4 rfl (by kernel_rfl) (by rw [hl]; kernel_rfl) rfl (by kernel_rfl) s
end Go.Proofs.Ytkhnjjmnmiegoaa
