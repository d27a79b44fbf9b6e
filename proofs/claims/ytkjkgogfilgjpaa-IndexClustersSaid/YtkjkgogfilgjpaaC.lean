/-
  The functions that the statements of this seat reach, told in short, and facts on their types. Printed by this project's own program.
  Conditions: none.
-/
import Derived.Test.YtkjkgogfilgjpaaPmO
import Derived.Test.YtkjkgogfilgjpaaProg
import Derived.KernelRfl
namespace Go.Proofs.Ytkjkgogfilgjpaa
open Go.Pm
set_option maxRecDepth 100000
set_option linter.unusedVariables false
theorem mixed : Try.prog.follows .mixedOrders = true := by kernel_rfl
theorem tag3 : tag Try.prog 3 = some false := by kernel_rfl
theorem tsz3 : tsz Try.prog 3 = some 1 := by kernel_rfl
theorem und3 : und Try.prog 3 = true := by kernel_rfl
theorem ik3 : ik Try.prog 3 = some .i64 := by kernel_rfl
theorem kd3 : kd Try.prog 3 = none := by kernel_rfl
theorem esz3 : esz Try.prog 3 = none := by kernel_rfl
theorem zc3 : zc Try.prog 3 = some [.int .i64 0] := by kernel_rfl
theorem ars3 : ars Try.prog 3 = none := by kernel_rfl
theorem tag4 : tag Try.prog 4 = some false := by kernel_rfl
theorem tsz4 : tsz Try.prog 4 = some 1 := by kernel_rfl
theorem und4 : und Try.prog 4 = true := by kernel_rfl
theorem ik4 : ik Try.prog 4 = none := by kernel_rfl
theorem kd4 : kd Try.prog 4 = some 3 := by kernel_rfl
theorem esz4 : esz Try.prog 4 = none := by kernel_rfl
theorem zc4 : zc Try.prog 4 = some [.bool false] := by kernel_rfl
theorem ars4 : ars Try.prog 4 = none := by kernel_rfl
theorem tag22 : tag Try.prog 22 = some false := by kernel_rfl
theorem tsz22 : tsz Try.prog 22 = some 1 := by kernel_rfl
theorem und22 : und Try.prog 22 = true := by kernel_rfl
theorem ik22 : ik Try.prog 22 = none := by kernel_rfl
theorem kd22 : kd Try.prog 22 = some 1 := by kernel_rfl
theorem esz22 : esz Try.prog 22 = some 1 := by kernel_rfl
theorem elt22 : elt Try.prog 22 = some 3 := by kernel_rfl
theorem zc22 : zc Try.prog 22 = some [.nils] := by kernel_rfl
theorem ars22 : ars Try.prog 22 = none := by kernel_rfl
theorem eli22 : eli Try.prog 22 = some (1, 8, [.int .i64 0]) := by kernel_rfl
theorem tag25 : tag Try.prog 25 = some false := by kernel_rfl
theorem tsz25 : tsz Try.prog 25 = some 1 := by kernel_rfl
theorem und25 : und Try.prog 25 = true := by kernel_rfl
theorem ik25 : ik Try.prog 25 = none := by kernel_rfl
theorem kd25 : kd Try.prog 25 = some 2 := by kernel_rfl
theorem esz25 : esz Try.prog 25 = none := by kernel_rfl
theorem zc25 : zc Try.prog 25 = some [.nilp] := by kernel_rfl
theorem ars25 : ars Try.prog 25 = none := by kernel_rfl
theorem tag26 : tag Try.prog 26 = some false := by kernel_rfl
theorem tsz26 : tsz Try.prog 26 = some 1 := by kernel_rfl
theorem und26 : und Try.prog 26 = true := by kernel_rfl
theorem ik26 : ik Try.prog 26 = some .i64 := by kernel_rfl
theorem kd26 : kd Try.prog 26 = none := by kernel_rfl
theorem esz26 : esz Try.prog 26 = none := by kernel_rfl
theorem zc26 : zc Try.prog 26 = some [.int .i64 0] := by kernel_rfl
theorem ars26 : ars Try.prog 26 = none := by kernel_rfl
theorem tag30 : tag Try.prog 30 = some true := by kernel_rfl
theorem tsz30 : tsz Try.prog 30 = some 2 := by kernel_rfl
theorem und30 : und Try.prog 30 = true := by kernel_rfl
theorem ik30 : ik Try.prog 30 = none := by kernel_rfl
theorem kd30 : kd Try.prog 30 = some 14 := by kernel_rfl
theorem esz30 : esz Try.prog 30 = none := by kernel_rfl
theorem zc30 : zc Try.prog 30 = some [.int .i64 0, .int .i64 0] := by kernel_rfl
theorem ars30 : ars Try.prog 30 = none := by kernel_rfl
theorem fld30_0 : fld Try.prog 30 0 = some (0, false, 1) := by kernel_rfl
theorem fld30_1 : fld Try.prog 30 1 = some (1, false, 1) := by kernel_rfl
theorem plc30 : plc Try.prog 30 = some fun i => [(0, 1), (1, 1)][i]? := by kernel_rfl
theorem tag37 : tag Try.prog 37 = some false := by kernel_rfl
theorem tsz37 : tsz Try.prog 37 = some 1 := by kernel_rfl
theorem und37 : und Try.prog 37 = true := by kernel_rfl
theorem ik37 : ik Try.prog 37 = none := by kernel_rfl
theorem kd37 : kd Try.prog 37 = some 2 := by kernel_rfl
theorem esz37 : esz Try.prog 37 = none := by kernel_rfl
theorem zc37 : zc Try.prog 37 = some [.nilp] := by kernel_rfl
theorem ars37 : ars Try.prog 37 = none := by kernel_rfl
theorem tag44 : tag Try.prog 44 = some false := by kernel_rfl
theorem tsz44 : tsz Try.prog 44 = some 1 := by kernel_rfl
theorem und44 : und Try.prog 44 = true := by kernel_rfl
theorem ik44 : ik Try.prog 44 = none := by kernel_rfl
theorem kd44 : kd Try.prog 44 = some 1 := by kernel_rfl
theorem esz44 : esz Try.prog 44 = some 4 := by kernel_rfl
theorem elt44 : elt Try.prog 44 = some 50 := by kernel_rfl
theorem zc44 : zc Try.prog 44 = some [.nils] := by kernel_rfl
theorem ars44 : ars Try.prog 44 = none := by kernel_rfl
theorem eli44 : eli Try.prog 44 = some (4, 32, [.int .i64 0, .int .i64 0, .int .i64 0, .int .i64 0]) := by kernel_rfl
theorem tag50 : tag Try.prog 50 = some true := by kernel_rfl
theorem tsz50 : tsz Try.prog 50 = some 4 := by kernel_rfl
theorem und50 : und Try.prog 50 = true := by kernel_rfl
theorem ik50 : ik Try.prog 50 = none := by kernel_rfl
theorem kd50 : kd Try.prog 50 = some 18 := by kernel_rfl
theorem esz50 : esz Try.prog 50 = none := by kernel_rfl
theorem zc50 : zc Try.prog 50 = some [.int .i64 0, .int .i64 0, .int .i64 0, .int .i64 0] := by kernel_rfl
theorem ars50 : ars Try.prog 50 = none := by kernel_rfl
theorem fld50_0 : fld Try.prog 50 0 = some (0, true, 2) := by kernel_rfl
theorem fld50_1 : fld Try.prog 50 1 = some (2, true, 2) := by kernel_rfl
theorem plc50 : plc Try.prog 50 = some fun i => [(0, 2), (2, 2)][i]? := by kernel_rfl
theorem tag54 : tag Try.prog 54 = some true := by kernel_rfl
theorem tsz54 : tsz Try.prog 54 = some 1 := by kernel_rfl
theorem und54 : und Try.prog 54 = true := by kernel_rfl
theorem ik54 : ik Try.prog 54 = none := by kernel_rfl
theorem kd54 : kd Try.prog 54 = none := by kernel_rfl
theorem esz54 : esz Try.prog 54 = none := by kernel_rfl
theorem zc54 : zc Try.prog 54 = some [.nils] := by kernel_rfl
theorem ars54 : ars Try.prog 54 = none := by kernel_rfl
theorem fld54_0 : fld Try.prog 54 0 = some (0, false, 1) := by kernel_rfl
theorem plc54 : plc Try.prog 54 = some fun i => [(0, 1)][i]? := by kernel_rfl
theorem tag56 : tag Try.prog 56 = some true := by kernel_rfl
theorem tsz56 : tsz Try.prog 56 = some 1 := by kernel_rfl
theorem und56 : und Try.prog 56 = true := by kernel_rfl
theorem ik56 : ik Try.prog 56 = none := by kernel_rfl
theorem kd56 : kd Try.prog 56 = none := by kernel_rfl
theorem esz56 : esz Try.prog 56 = none := by kernel_rfl
theorem zc56 : zc Try.prog 56 = some [.nils] := by kernel_rfl
theorem ars56 : ars Try.prog 56 = none := by kernel_rfl
theorem fld56_0 : fld Try.prog 56 0 = some (0, true, 1) := by kernel_rfl
theorem plc56 : plc Try.prog 56 = some fun i => [(0, 1)][i]? := by kernel_rfl
theorem tag60 : tag Try.prog 60 = some true := by kernel_rfl
theorem tsz60 : tsz Try.prog 60 = some 1 := by kernel_rfl
theorem und60 : und Try.prog 60 = true := by kernel_rfl
theorem ik60 : ik Try.prog 60 = none := by kernel_rfl
theorem kd60 : kd Try.prog 60 = none := by kernel_rfl
theorem esz60 : esz Try.prog 60 = none := by kernel_rfl
theorem zc60 : zc Try.prog 60 = some [.nils] := by kernel_rfl
theorem ars60 : ars Try.prog 60 = none := by kernel_rfl
theorem fld60_0 : fld Try.prog 60 0 = some (0, false, 1) := by kernel_rfl
theorem plc60 : plc Try.prog 60 = some fun i => [(0, 1)][i]? := by kernel_rfl
theorem tag65 : tag Try.prog 65 = some false := by kernel_rfl
theorem tsz65 : tsz Try.prog 65 = some 1 := by kernel_rfl
theorem und65 : und Try.prog 65 = true := by kernel_rfl
theorem ik65 : ik Try.prog 65 = none := by kernel_rfl
theorem kd65 : kd Try.prog 65 = some 1 := by kernel_rfl
theorem esz65 : esz Try.prog 65 = some 2 := by kernel_rfl
theorem elt65 : elt Try.prog 65 = some 30 := by kernel_rfl
theorem zc65 : zc Try.prog 65 = some [.nils] := by kernel_rfl
theorem ars65 : ars Try.prog 65 = none := by kernel_rfl
theorem eli65 : eli Try.prog 65 = some (2, 16, [.int .i64 0, .int .i64 0]) := by kernel_rfl
theorem tag69 : tag Try.prog 69 = some false := by kernel_rfl
theorem tsz69 : tsz Try.prog 69 = some 1 := by kernel_rfl
theorem und69 : und Try.prog 69 = true := by kernel_rfl
theorem ik69 : ik Try.prog 69 = none := by kernel_rfl
theorem kd69 : kd Try.prog 69 = none := by kernel_rfl
theorem esz69 : esz Try.prog 69 = none := by kernel_rfl
theorem zc69 : zc Try.prog 69 = some [.nilf] := by kernel_rfl
theorem ars69 : ars Try.prog 69 = none := by kernel_rfl
theorem tag71 : tag Try.prog 71 = some false := by kernel_rfl
theorem tsz71 : tsz Try.prog 71 = some 1 := by kernel_rfl
theorem und71 : und Try.prog 71 = true := by kernel_rfl
theorem ik71 : ik Try.prog 71 = none := by kernel_rfl
theorem kd71 : kd Try.prog 71 = some 2 := by kernel_rfl
theorem esz71 : esz Try.prog 71 = none := by kernel_rfl
theorem zc71 : zc Try.prog 71 = some [.nilp] := by kernel_rfl
theorem ars71 : ars Try.prog 71 = none := by kernel_rfl
theorem tag72 : tag Try.prog 72 = some false := by kernel_rfl
theorem tsz72 : tsz Try.prog 72 = some 1 := by kernel_rfl
theorem und72 : und Try.prog 72 = true := by kernel_rfl
theorem ik72 : ik Try.prog 72 = some .u64 := by kernel_rfl
theorem kd72 : kd Try.prog 72 = none := by kernel_rfl
theorem esz72 : esz Try.prog 72 = none := by kernel_rfl
theorem zc72 : zc Try.prog 72 = some [.int .u64 0] := by kernel_rfl
theorem ars72 : ars Try.prog 72 = none := by kernel_rfl
theorem ft : (tag Try.prog 3 = some false) ∧
    (tsz Try.prog 3 = some 1) ∧
    (und Try.prog 3 = true) ∧
    (ik Try.prog 3 = some .i64) ∧
    (kd Try.prog 3 = none) ∧
    (esz Try.prog 3 = none) ∧
    (zc Try.prog 3 = some [.int .i64 0]) ∧
    (ars Try.prog 3 = none) ∧
    (tag Try.prog 4 = some false) ∧
    (tsz Try.prog 4 = some 1) ∧
    (und Try.prog 4 = true) ∧
    (ik Try.prog 4 = none) ∧
    (kd Try.prog 4 = some 3) ∧
    (esz Try.prog 4 = none) ∧
    (zc Try.prog 4 = some [.bool false]) ∧
    (ars Try.prog 4 = none) ∧
    (tag Try.prog 22 = some false) ∧
    (tsz Try.prog 22 = some 1) ∧
    (und Try.prog 22 = true) ∧
    (ik Try.prog 22 = none) ∧
    (kd Try.prog 22 = some 1) ∧
    (esz Try.prog 22 = some 1) ∧
    (elt Try.prog 22 = some 3) ∧
    (zc Try.prog 22 = some [.nils]) ∧
    (ars Try.prog 22 = none) ∧
    (eli Try.prog 22 = some (1, 8, [.int .i64 0])) ∧
    (tag Try.prog 25 = some false) ∧
    (tsz Try.prog 25 = some 1) ∧
    (und Try.prog 25 = true) ∧
    (ik Try.prog 25 = none) ∧
    (kd Try.prog 25 = some 2) ∧
    (esz Try.prog 25 = none) ∧
    (zc Try.prog 25 = some [.nilp]) ∧
    (ars Try.prog 25 = none) ∧
    (tag Try.prog 26 = some false) ∧
    (tsz Try.prog 26 = some 1) ∧
    (und Try.prog 26 = true) ∧
    (ik Try.prog 26 = some .i64) ∧
    (kd Try.prog 26 = none) ∧
    (esz Try.prog 26 = none) ∧
    (zc Try.prog 26 = some [.int .i64 0]) ∧
    (ars Try.prog 26 = none) ∧
    (tag Try.prog 30 = some true) ∧
    (tsz Try.prog 30 = some 2) ∧
    (und Try.prog 30 = true) ∧
    (ik Try.prog 30 = none) ∧
    (kd Try.prog 30 = some 14) ∧
    (esz Try.prog 30 = none) ∧
    (zc Try.prog 30 = some [.int .i64 0, .int .i64 0]) ∧
    (ars Try.prog 30 = none) ∧
    (fld Try.prog 30 0 = some (0, false, 1)) ∧
    (fld Try.prog 30 1 = some (1, false, 1)) ∧
    (plc Try.prog 30 = some fun i => [(0, 1), (1, 1)][i]?) ∧
    (tag Try.prog 37 = some false) ∧
    (tsz Try.prog 37 = some 1) ∧
    (und Try.prog 37 = true) ∧
    (ik Try.prog 37 = none) ∧
    (kd Try.prog 37 = some 2) ∧
    (esz Try.prog 37 = none) ∧
    (zc Try.prog 37 = some [.nilp]) ∧
    (ars Try.prog 37 = none) ∧
    (tag Try.prog 44 = some false) ∧
    (tsz Try.prog 44 = some 1) ∧
    (und Try.prog 44 = true) ∧
    (ik Try.prog 44 = none) ∧
    (kd Try.prog 44 = some 1) ∧
    (esz Try.prog 44 = some 4) ∧
    (elt Try.prog 44 = some 50) ∧
    (zc Try.prog 44 = some [.nils]) ∧
    (ars Try.prog 44 = none) ∧
    (eli Try.prog 44 = some (4, 32, [.int .i64 0, .int .i64 0, .int .i64 0, .int .i64 0])) ∧
    (tag Try.prog 50 = some true) ∧
    (tsz Try.prog 50 = some 4) ∧
    (und Try.prog 50 = true) ∧
    (ik Try.prog 50 = none) ∧
    (kd Try.prog 50 = some 18) ∧
    (esz Try.prog 50 = none) ∧
    (zc Try.prog 50 = some [.int .i64 0, .int .i64 0, .int .i64 0, .int .i64 0]) ∧
    (ars Try.prog 50 = none) ∧
    (fld Try.prog 50 0 = some (0, true, 2)) ∧
    (fld Try.prog 50 1 = some (2, true, 2)) ∧
    (plc Try.prog 50 = some fun i => [(0, 2), (2, 2)][i]?) ∧
    (tag Try.prog 54 = some true) ∧
    (tsz Try.prog 54 = some 1) ∧
    (und Try.prog 54 = true) ∧
    (ik Try.prog 54 = none) ∧
    (kd Try.prog 54 = none) ∧
    (esz Try.prog 54 = none) ∧
    (zc Try.prog 54 = some [.nils]) ∧
    (ars Try.prog 54 = none) ∧
    (fld Try.prog 54 0 = some (0, false, 1)) ∧
    (plc Try.prog 54 = some fun i => [(0, 1)][i]?) ∧
    (tag Try.prog 56 = some true) ∧
    (tsz Try.prog 56 = some 1) ∧
    (und Try.prog 56 = true) ∧
    (ik Try.prog 56 = none) ∧
    (kd Try.prog 56 = none) ∧
    (esz Try.prog 56 = none) ∧
    (zc Try.prog 56 = some [.nils]) ∧
    (ars Try.prog 56 = none) ∧
    (fld Try.prog 56 0 = some (0, true, 1)) ∧
    (plc Try.prog 56 = some fun i => [(0, 1)][i]?) ∧
    (tag Try.prog 60 = some true) ∧
    (tsz Try.prog 60 = some 1) ∧
    (und Try.prog 60 = true) ∧
    (ik Try.prog 60 = none) ∧
    (kd Try.prog 60 = none) ∧
    (esz Try.prog 60 = none) ∧
    (zc Try.prog 60 = some [.nils]) ∧
    (ars Try.prog 60 = none) ∧
    (fld Try.prog 60 0 = some (0, false, 1)) ∧
    (plc Try.prog 60 = some fun i => [(0, 1)][i]?) ∧
    (tag Try.prog 65 = some false) ∧
    (tsz Try.prog 65 = some 1) ∧
    (und Try.prog 65 = true) ∧
    (ik Try.prog 65 = none) ∧
    (kd Try.prog 65 = some 1) ∧
    (esz Try.prog 65 = some 2) ∧
    (elt Try.prog 65 = some 30) ∧
    (zc Try.prog 65 = some [.nils]) ∧
    (ars Try.prog 65 = none) ∧
    (eli Try.prog 65 = some (2, 16, [.int .i64 0, .int .i64 0])) ∧
    (tag Try.prog 69 = some false) ∧
    (tsz Try.prog 69 = some 1) ∧
    (und Try.prog 69 = true) ∧
    (ik Try.prog 69 = none) ∧
    (kd Try.prog 69 = none) ∧
    (esz Try.prog 69 = none) ∧
    (zc Try.prog 69 = some [.nilf]) ∧
    (ars Try.prog 69 = none) ∧
    (tag Try.prog 71 = some false) ∧
    (tsz Try.prog 71 = some 1) ∧
    (und Try.prog 71 = true) ∧
    (ik Try.prog 71 = none) ∧
    (kd Try.prog 71 = some 2) ∧
    (esz Try.prog 71 = none) ∧
    (zc Try.prog 71 = some [.nilp]) ∧
    (ars Try.prog 71 = none) ∧
    (tag Try.prog 72 = some false) ∧
    (tsz Try.prog 72 = some 1) ∧
    (und Try.prog 72 = true) ∧
    (ik Try.prog 72 = some .u64) ∧
    (kd Try.prog 72 = none) ∧
    (esz Try.prog 72 = none) ∧
    (zc Try.prog 72 = some [.int .u64 0]) ∧
    (ars Try.prog 72 = none) :=
  ⟨tag3, tsz3, und3, ik3, kd3, esz3, zc3, ars3, tag4, tsz4, und4, ik4, kd4, esz4, zc4, ars4, tag22, tsz22, und22, ik22, kd22, esz22, elt22, zc22, ars22, eli22, tag25, tsz25, und25, ik25, kd25, esz25, zc25, ars25, tag26, tsz26, und26, ik26, kd26, esz26, zc26, ars26, tag30, tsz30, und30, ik30, kd30, esz30, zc30, ars30, fld30_0, fld30_1, plc30, tag37, tsz37, und37, ik37, kd37, esz37, zc37, ars37, tag44, tsz44, und44, ik44, kd44, esz44, elt44, zc44, ars44, eli44, tag50, tsz50, und50, ik50, kd50, esz50, zc50, ars50, fld50_0, fld50_1, plc50, tag54, tsz54, und54, ik54, kd54, esz54, zc54, ars54, fld54_0, plc54, tag56, tsz56, und56, ik56, kd56, esz56, zc56, ars56, fld56_0, plc56, tag60, tsz60, und60, ik60, kd60, esz60, zc60, ars60, fld60_0, plc60, tag65, tsz65, und65, ik65, kd65, esz65, elt65, zc65, ars65, eli65, tag69, tsz69, und69, ik69, kd69, esz69, zc69, ars69, tag71, tsz71, und71, ik71, kd71, esz71, zc71, ars71, tag72, tsz72, und72, ik72, kd72, esz72, zc72, ars72⟩
/-! ### naskh.naskhlaw05.small: function 6 -/
def r6_0 : List PS := [.mk (some 2) (.assign (.const (.bool false))) none]
def r6_1 : List PS := [.mk (some 5) (.move (.tmp 0)) none,
  .mk (some 6) (.call ⟨(.builtin .len), #[(.tmp 5)], #[22]⟩) none,
  .mk (some 7) (.move (.const (.int .i64 0))) none]
def r6_2 : List PS := [.mk (some 8) (.binOp .lss 3 (.tmp 7) (.tmp 6) 3) none]
def r6_3 : List PS := [.mk (some 9) (.move (.tmp 7)) none,
  .mk (some 10) (.indexAddr 22 (.tmp 5) (.tmp 7)) none,
  .mk (some 11) (.load 3 (.tmp 10)) none,
  .mk (some 3) (.assign (.tmp 9)) none,
  .mk (some 4) (.assign (.tmp 11)) none]
def r6_4 : List PS := [.mk (some 12) (.move (.tmp 3)) none,
  .mk (some 13) (.binOp .geq 3 (.tmp 12) (.const (.int .i64 60)) 3) none,
  .mk (some 14) (.move (.tmp 13)) none,
  .mk (some 15) (.move (.tmp 4)) (some (14, false)),
  .mk (some 16) (.binOp .gtr 3 (.tmp 15) (.const (.int .i64 1000)) 3) (some (14, false)),
  .mk (some 17) (.move (.tmp 16)) (some (14, false)),
  .mk (some 18) (.move (.tmp 4)) (some (17, true)),
  .mk (some 19) (.binOp .leq 3 (.tmp 18) (.const (.int .i64 16777216)) 3) (some (17, true)),
  .mk (some 20) (.pick (.tmp 17) (.tmp 19) (.const (.bool false))) (some (14, false)),
  .mk (some 21) (.pick (.tmp 14) (.const (.bool true)) (.tmp 20)) none]
def r6_5 : List PS := [.mk (some 2) (.assign (.const (.bool false))) none]
def r6_6 : List PS := [.mk (some 22) (.binOp .add 3 (.tmp 7) (.const (.int .i64 1)) 3) none,
  .mk (some 7) (.move (.tmp 22)) none]
def r6_7 : List PS := [.mk (some 2) (.assign (.const (.bool true))) none]
def c6 : PC := (.seq (.reg false r6_0) (.seq (.seq (.reg false r6_1) (.block 0 (.loop (.seq (.reg false r6_2) (.seq (.cond (.tmp 8) .skip (.exit 0)) (.seq (.block 1 (.seq (.reg false r6_3) (.seq (.reg false r6_4) (.cond (.tmp 21) (.seq (.reg false r6_5) .ret) .skip)))) (.reg false r6_6))))))) (.seq (.reg false r6_7) .ret)))
theorem e6 {args : List PV} {h : Heap} {K : PV → Heap → Prop} (hl : args.length = 1) (s : pwp Try.prog [] c6 (fin Try.prog [.tmp 2] h K) (slots0 (olds args)) h) : CanP Try.prog 6 args h K :=
  can_of2 (n := 23) mixed Try.func6 rfl (by kernel_rfl) (by rw [hl]; kernel_rfl) rfl (by kernel_rfl) s
/-! ### naskh.index.New: function 8 -/
def r8_0 : List PS := [.mk (some 2) (.assign (.const (.pointer none))) none,
  .mk (some 3) (.assign (.const (.int .i64 0))) none]
def r8_1 : List PS := [.mk (some 10) (.move (.tmp 0)) none,
  .mk (some 11) (.call ⟨(.builtin .len), #[(.tmp 10)], #[22]⟩) none,
  .mk (some 12) (.move (.const (.int .i64 0))) none]
def r8_2 : List PS := [.mk (some 13) (.binOp .lss 3 (.tmp 12) (.tmp 11) 3) none]
def r8_3 : List PS := [.mk (some 14) (.indexAddr 22 (.tmp 10) (.tmp 12)) none,
  .mk (some 15) (.load 3 (.tmp 14)) none,
  .mk (some 5) (.assign (.tmp 15)) none]
def r8_4 : List PS := [.mk (some 16) (.move (.tmp 5)) none,
  .mk (some 17) (.binOp .lss 3 (.tmp 16) (.const (.int .i64 1)) 3) none]
def r8_5 : List PS := [.mk (some 2) (.assign (.const (.pointer none))) none,
  .mk (some 3) (.assign (.const (.int .i64 1))) none]
def r8_6 : List PS := [.mk (some 18) (.binOp .add 3 (.tmp 12) (.const (.int .i64 1)) 3) none,
  .mk (some 12) (.move (.tmp 18)) none]
def r8_7 : List PS := [.mk (some 19) (.move (.tmp 0)) none,
  .mk (some 20) (.call ⟨(.builtin .len), #[(.tmp 19)], #[22]⟩) none,
  .mk (some 21) (.binOp .add 3 (.tmp 20) (.const (.int .i64 1)) 3) none,
  .mk (some 22) (.makeSlice 22 (.const (.int .i64 1)) (.tmp 21)) none,
  .mk (some 6) (.assign (.tmp 22)) none]
def r8_8 : List PS := [.mk (some 23) (.move (.tmp 0)) none,
  .mk (some 24) (.call ⟨(.builtin .len), #[(.tmp 23)], #[22]⟩) none,
  .mk (some 25) (.move (.const (.int .i64 0))) none]
def r8_9 : List PS := [.mk (some 26) (.binOp .lss 3 (.tmp 25) (.tmp 24) 3) none]
def r8_10 : List PS := [.mk (some 27) (.indexAddr 22 (.tmp 23) (.tmp 25)) none,
  .mk (some 28) (.load 3 (.tmp 27)) none,
  .mk (some 8) (.assign (.tmp 28)) none]
def r8_11 : List PS := [.mk (some 29) (.move (.tmp 6)) none,
  .mk (some 30) (.move (.tmp 6)) none,
  .mk (some 31) (.call ⟨(.builtin .len), #[(.tmp 30)], #[22]⟩) none,
  .mk (some 32) (.binOp .sub 3 (.tmp 31) (.const (.int .i64 1)) 3) none,
  .mk (some 33) (.indexAddr 22 (.tmp 29) (.tmp 32)) none,
  .mk (some 34) (.load 3 (.tmp 33)) none,
  .mk (some 9) (.assign (.tmp 34)) none]
def r8_12 : List PS := [.mk (some 35) (.move (.tmp 8)) none,
  .mk (some 36) (.move (.tmp 9)) none,
  .mk (some 37) (.binOp .sub 3 (.const (.int .i64 16777216)) (.tmp 36) 3) none,
  .mk (some 38) (.binOp .gtr 3 (.tmp 35) (.tmp 37) 3) none]
def r8_13 : List PS := [.mk (some 2) (.assign (.const (.pointer none))) none,
  .mk (some 3) (.assign (.const (.int .i64 6))) none]
def r8_14 : List PS := [.mk (some 39) (.move (.tmp 6)) none,
  .mk (some 40) (.move (.tmp 9)) none,
  .mk (some 41) (.move (.tmp 8)) none,
  .mk (some 42) (.binOp .add 3 (.tmp 40) (.tmp 41) 3) none,
  .mk (some 43) (.buildSlice 22 1 #[(0, (.tmp 42))]) none,
  .mk (some 44) (.call ⟨(.builtin .append), #[(.tmp 39), (.tmp 43)], #[22, 22]⟩) none,
  .mk (some 6) (.assign (.tmp 44)) none]
def r8_15 : List PS := [.mk (some 45) (.binOp .add 3 (.tmp 25) (.const (.int .i64 1)) 3) none,
  .mk (some 25) (.move (.tmp 45)) none]
def r8_16 : List PS := [.frz 6,
  .mk (some 46) (.move (.tmp 6)) none,
  .mk (some 47) (.build 54 #[(0, (.tmp 46))]) none,
  .mk (some 48) (.build 56 #[(0, (.tmp 47))]) none,
  .mk (some 49) (.box 56 (.tmp 48)) none,
  .mk (some 2) (.assign (.tmp 49)) none,
  .mk (some 3) (.assign (.const (.int .i64 0))) none]
def c8 : PC := (.seq (.reg false r8_0) (.seq (.seq (.reg false r8_1) (.block 0 (.loop (.seq (.reg false r8_2) (.seq (.cond (.tmp 13) .skip (.exit 0)) (.seq (.block 1 (.seq (.reg false r8_3) (.seq (.reg false r8_4) (.cond (.tmp 17) (.seq (.reg false r8_5) .ret) .skip)))) (.reg false r8_6))))))) (.seq (.reg false r8_7) (.seq (.seq (.reg false r8_8) (.block 2 (.loop (.seq (.reg false r8_9) (.seq (.cond (.tmp 26) .skip (.exit 2)) (.seq (.block 3 (.seq (.reg false r8_10) (.seq (.reg false r8_11) (.seq (.seq (.reg false r8_12) (.cond (.tmp 38) (.seq (.reg false r8_13) .ret) .skip)) (.reg false r8_14))))) (.reg false r8_15))))))) (.seq (.reg false r8_16) .ret)))))
theorem e8 {args : List PV} {h : Heap} {K : PV → Heap → Prop} (hl : args.length = 1) (s : pwp Try.prog [] c8 (fin Try.prog [.tmp 2, .tmp 3] h K) (slots0 (olds args)) h) : CanP Try.prog 8 args h K :=
  can_of2 (n := 50) mixed Try.func8 rfl (by kernel_rfl) (by rw [hl]; kernel_rfl) rfl (by kernel_rfl) s
/-! ### (*naskh.index.Index).made: function 28 -/
def r28_0 : List PS := [.mk (some 2) (.assign (.const (.bool false))) none]
def r28_1 : List PS := [.mk (some 3) (.move (.tmp 0)) none,
  .mk (some 4) (.binOp .neq 25 (.tmp 3) (.const (.pointer none)) 25) none,
  .mk (some 5) (.move (.tmp 4)) none,
  .mk (some 6) (.move (.tmp 0)) (some (5, true)),
  .mk (some 7) (.nilCheck (.tmp 6)) (some (5, true)),
  .mk (some 8) (.fieldAddr 56 (.tmp 7) 0) (some (5, true)),
  .mk (some 9) (.fieldAddr 54 (.tmp 8) 0) (some (5, true)),
  .mk (some 10) (.load 22 (.tmp 9)) (some (5, true)),
  .mk (some 11) (.call ⟨(.builtin .len), #[(.tmp 10)], #[22]⟩) (some (5, true)),
  .mk (some 12) (.binOp .gtr 3 (.tmp 11) (.const (.int .i64 0)) 3) (some (5, true)),
  .mk (some 13) (.pick (.tmp 5) (.tmp 12) (.const (.bool false))) none,
  .mk (some 2) (.assign (.tmp 13)) none]
def c28 : PC := (.seq (.reg false r28_0) (.seq (.reg false r28_1) .ret))
theorem e28 {args : List PV} {h : Heap} {K : PV → Heap → Prop} (hl : args.length = 1) (s : pwp Try.prog [] c28 (fin Try.prog [.tmp 2] h K) (slots0 (olds args)) h) : CanP Try.prog 28 args h K :=
  can_of2 (n := 14) mixed Try.func28 rfl (by kernel_rfl) (by rw [hl]; kernel_rfl) rfl (by kernel_rfl) s
/-! ### (*naskh.index.ruler).many: function 32 -/
def r32_0 : List PS := [.mk (some 2) (.assign (.const (.int .i64 0))) none]
def r32_1 : List PS := [.mk (some 3) (.move (.tmp 0)) none,
  .mk (some 4) (.nilCheck (.tmp 3)) none,
  .mk (some 5) (.fieldAddr 54 (.tmp 4) 0) none,
  .mk (some 6) (.load 22 (.tmp 5)) none,
  .mk (some 7) (.call ⟨(.builtin .len), #[(.tmp 6)], #[22]⟩) none,
  .mk (some 8) (.binOp .sub 3 (.tmp 7) (.const (.int .i64 1)) 3) none,
  .mk (some 2) (.assign (.tmp 8)) none]
def c32 : PC := (.seq (.reg false r32_0) (.seq (.reg false r32_1) .ret))
theorem e32 {args : List PV} {h : Heap} {K : PV → Heap → Prop} (hl : args.length = 1) (s : pwp Try.prog [] c32 (fin Try.prog [.tmp 2] h K) (slots0 (olds args)) h) : CanP Try.prog 32 args h K :=
  can_of2 (n := 9) mixed Try.func32 rfl (by kernel_rfl) (by rw [hl]; kernel_rfl) rfl (by kernel_rfl) s
/-! ### (*naskh.index.Index).Codes: function 19 -/
def r19_0 : List PS := [.mk (some 2) (.assign (.const (.int .i64 0))) none]
def r19_1 : List PS := [.mk (some 3) (.move (.tmp 0)) none,
  .mk (some 4) (.call ⟨(.value (.func 28)), #[(.tmp 3)], #[25]⟩) none,
  .mk (some 5) (.unOp .not 4 (.tmp 4)) none]
def r19_2 : List PS := [.mk (some 2) (.assign (.const (.int .i64 0))) none]
def r19_3 : List PS := [.mk (some 6) (.move (.tmp 0)) none,
  .mk (some 7) (.nilCheck (.tmp 6)) none,
  .mk (some 8) (.fieldAddr 56 (.tmp 7) 0) none,
  .mk (some 9) (.call ⟨(.value (.func 32)), #[(.tmp 8)], #[54]⟩) none,
  .mk (some 2) (.assign (.tmp 9)) none]
def c19 : PC := (.seq (.reg false r19_0) (.seq (.seq (.reg false r19_1) (.cond (.tmp 5) (.seq (.reg false r19_2) .ret) .skip)) (.seq (.reg false r19_3) .ret)))
theorem e19 {args : List PV} {h : Heap} {K : PV → Heap → Prop} (hl : args.length = 1) (s : pwp Try.prog [] c19 (fin Try.prog [.tmp 2] h K) (slots0 (olds args)) h) : CanP Try.prog 19 args h K :=
  can_of2 (n := 10) mixed Try.func19 rfl (by kernel_rfl) (by rw [hl]; kernel_rfl) rfl (by kernel_rfl) s
/-! ### (*naskh.index.ruler).units: function 26 -/
def r26_0 : List PS := [.mk (some 3) (.box 30 (.tmp 1)) none,
  .mk (some 4) (.alloc 30) none]
def r26_1 : List PS := [.mk (some 5) (.move (.tmp 0)) none,
  .mk (some 6) (.nilCheck (.tmp 5)) none,
  .mk (some 7) (.fieldAddr 54 (.tmp 6) 0) none,
  .mk (some 8) (.load 22 (.tmp 7)) none,
  .mk (some 9) (.fieldAddr 30 (.tmp 3) 0) none,
  .mk (some 10) (.load 3 (.tmp 9)) none,
  .mk (some 11) (.indexAddr 22 (.tmp 8) (.tmp 10)) none,
  .mk (some 12) (.load 3 (.tmp 11)) none,
  .mk (some 13) (.move (.tmp 0)) none,
  .mk (some 14) (.nilCheck (.tmp 13)) none,
  .mk (some 15) (.fieldAddr 54 (.tmp 14) 0) none,
  .mk (some 16) (.load 22 (.tmp 15)) none,
  .mk (some 17) (.fieldAddr 30 (.tmp 3) 1) none,
  .mk (some 18) (.load 3 (.tmp 17)) none,
  .mk (some 19) (.indexAddr 22 (.tmp 16) (.tmp 18)) none,
  .mk (some 20) (.load 3 (.tmp 19)) none,
  .mk (some 21) (.build 30 #[(0, (.tmp 12)), (1, (.tmp 20))]) none,
  .mk none (.store 30 (.tmp 4) (.tmp 21)) none]
def c26 : PC := (.seq (.reg false r26_0) (.seq (.reg true r26_1) .ret))
theorem e26 {args : List PV} {h : Heap} {K : PV → Heap → Prop} (hl : args.length = 2) (s : pwp Try.prog [4] c26 (fin Try.prog [.cell 4 30] h K) (slots0 (olds args)) h) : CanP Try.prog 26 args h K :=
  can_of2 (n := 22) mixed Try.func26 rfl (by kernel_rfl) (by rw [hl]; kernel_rfl) rfl (by kernel_rfl) s
/-! ### (*naskh.index.Index).Span: function 9 -/
def r9_0 : List PS := [.mk (some 4) (.alloc 30) none,
  .mk (some 5) (.assign (.const (.int .i64 0))) none]
def r9_1 : List PS := [.mk (some 6) (.move (.tmp 1)) none,
  .mk (some 7) (.binOp .lss 3 (.tmp 6) (.const (.int .i64 0)) 3) none,
  .mk (some 8) (.move (.tmp 7)) none,
  .mk (some 9) (.move (.tmp 1)) (some (8, false)),
  .mk (some 10) (.move (.tmp 0)) (some (8, false)),
  .mk (some 11) (.call ⟨(.value (.func 19)), #[(.tmp 10)], #[25]⟩) (some (8, false)),
  .mk (some 12) (.binOp .geq 3 (.tmp 9) (.tmp 11) 3) (some (8, false)),
  .mk (some 13) (.pick (.tmp 8) (.const (.bool true)) (.tmp 12)) none]
def r9_2 : List PS := [.mk (some 14) (.build 30 #[]) none,
  .mk none (.store 30 (.tmp 4) (.tmp 14)) none,
  .mk (some 5) (.assign (.const (.int .i64 1))) none]
def r9_3 : List PS := [.mk (some 15) (.move (.tmp 0)) none,
  .mk (some 16) (.nilCheck (.tmp 15)) none,
  .mk (some 17) (.fieldAddr 56 (.tmp 16) 0) none,
  .mk (some 18) (.move (.tmp 1)) none,
  .mk (some 19) (.move (.tmp 1)) none,
  .mk (some 20) (.binOp .add 3 (.tmp 19) (.const (.int .i64 1)) 3) none,
  .mk (some 21) (.build 30 #[(0, (.tmp 18)), (1, (.tmp 20))]) none,
  .mk (some 22) (.call ⟨(.value (.func 26)), #[(.tmp 17), (.tmp 21)], #[54, 30]⟩) none,
  .mk none (.store 30 (.tmp 4) (.tmp 22)) none,
  .mk (some 5) (.assign (.const (.int .i64 0))) none]
def c9 : PC := (.seq (.reg false r9_0) (.seq (.seq (.reg false r9_1) (.cond (.tmp 13) (.seq (.reg false r9_2) .ret) .skip)) (.seq (.reg false r9_3) .ret)))
theorem e9 {args : List PV} {h : Heap} {K : PV → Heap → Prop} (hl : args.length = 2) (s : pwp Try.prog [4] c9 (fin Try.prog [.cell 4 30, .tmp 5] h K) (slots0 (olds args)) h) : CanP Try.prog 9 args h K :=
  can_of2 (n := 23) mixed Try.func9 rfl (by kernel_rfl) (by rw [hl]; kernel_rfl) rfl (by kernel_rfl) s
/-! ### (*naskh.index.ruler).ends: function 29 -/
def r29_0 : List PS := [.mk (some 2) (.assign (.const (.int .i64 0))) none]
def r29_1 : List PS := [.mk (some 3) (.move (.tmp 0)) none,
  .mk (some 4) (.nilCheck (.tmp 3)) none,
  .mk (some 5) (.fieldAddr 54 (.tmp 4) 0) none,
  .mk (some 6) (.load 22 (.tmp 5)) none,
  .mk (some 7) (.move (.tmp 0)) none,
  .mk (some 8) (.nilCheck (.tmp 7)) none,
  .mk (some 9) (.fieldAddr 54 (.tmp 8) 0) none,
  .mk (some 10) (.load 22 (.tmp 9)) none,
  .mk (some 11) (.call ⟨(.builtin .len), #[(.tmp 10)], #[22]⟩) none,
  .mk (some 12) (.binOp .sub 3 (.tmp 11) (.const (.int .i64 1)) 3) none,
  .mk (some 13) (.indexAddr 22 (.tmp 6) (.tmp 12)) none,
  .mk (some 14) (.load 3 (.tmp 13)) none,
  .mk (some 2) (.assign (.tmp 14)) none]
def c29 : PC := (.seq (.reg false r29_0) (.seq (.reg true r29_1) .ret))
theorem e29 {args : List PV} {h : Heap} {K : PV → Heap → Prop} (hl : args.length = 1) (s : pwp Try.prog [] c29 (fin Try.prog [.tmp 2] h K) (slots0 (olds args)) h) : CanP Try.prog 29 args h K :=
  can_of2 (n := 15) mixed Try.func29 rfl (by kernel_rfl) (by rw [hl]; kernel_rfl) rfl (by kernel_rfl) s
/-! ### (*naskh.index.Index).Units: function 11 -/
def r11_0 : List PS := [.mk (some 2) (.assign (.const (.int .i64 0))) none]
def r11_1 : List PS := [.mk (some 3) (.move (.tmp 0)) none,
  .mk (some 4) (.call ⟨(.value (.func 28)), #[(.tmp 3)], #[25]⟩) none,
  .mk (some 5) (.unOp .not 4 (.tmp 4)) none]
def r11_2 : List PS := [.mk (some 2) (.assign (.const (.int .i64 0))) none]
def r11_3 : List PS := [.mk (some 6) (.move (.tmp 0)) none,
  .mk (some 7) (.nilCheck (.tmp 6)) none,
  .mk (some 8) (.fieldAddr 56 (.tmp 7) 0) none,
  .mk (some 9) (.call ⟨(.value (.func 29)), #[(.tmp 8)], #[54]⟩) none,
  .mk (some 2) (.assign (.tmp 9)) none]
def c11 : PC := (.seq (.reg false r11_0) (.seq (.seq (.reg false r11_1) (.cond (.tmp 5) (.seq (.reg false r11_2) .ret) .skip)) (.seq (.reg false r11_3) .ret)))
theorem e11 {args : List PV} {h : Heap} {K : PV → Heap → Prop} (hl : args.length = 1) (s : pwp Try.prog [] c11 (fin Try.prog [.tmp 2] h K) (slots0 (olds args)) h) : CanP Try.prog 11 args h K :=
  can_of2 (n := 10) mixed Try.func11 rfl (by kernel_rfl) (by rw [hl]; kernel_rfl) rfl (by kernel_rfl) s
/-! ### cmp.isNaN[int]: function 46 -/
def r46_0 : List PS := [.mk (some 2) (.assign (.const (.bool false))) none]
def r46_1 : List PS := [.mk (some 3) (.move (.tmp 0)) none,
  .mk (some 4) (.move (.tmp 0)) none,
  .mk (some 5) (.binOp .neq 3 (.tmp 3) (.tmp 4) 3) none,
  .mk (some 2) (.assign (.tmp 5)) none]
def c46 : PC := (.seq (.reg false r46_0) (.seq (.reg false r46_1) .ret))
theorem e46 {args : List PV} {h : Heap} {K : PV → Heap → Prop} (hl : args.length = 1) (s : pwp Try.prog [] c46 (fin Try.prog [.tmp 2] h K) (slots0 (olds args)) h) : CanP Try.prog 46 args h K :=
  can_of2 (n := 6) mixed Try.func46 rfl (by kernel_rfl) (by rw [hl]; kernel_rfl) rfl (by kernel_rfl) s
/-! ### cmp.Less[int]: function 40 -/
def r40_0 : List PS := [.mk (some 4) (.assign (.const (.bool false))) none]
def r40_1 : List PS := [.mk (some 5) (.move (.tmp 0)) none,
  .mk (some 6) (.call ⟨(.value (.func 46)), #[(.tmp 5)], #[3]⟩) none,
  .mk (some 7) (.move (.tmp 6)) none,
  .mk (some 8) (.move (.tmp 1)) (some (7, true)),
  .mk (some 9) (.call ⟨(.value (.func 46)), #[(.tmp 8)], #[3]⟩) (some (7, true)),
  .mk (some 10) (.unOp .not 4 (.tmp 9)) (some (7, true)),
  .mk (some 11) (.pick (.tmp 7) (.tmp 10) (.const (.bool false))) none,
  .mk (some 12) (.move (.tmp 11)) none,
  .mk (some 13) (.move (.tmp 0)) (some (12, false)),
  .mk (some 14) (.move (.tmp 1)) (some (12, false)),
  .mk (some 15) (.binOp .lss 3 (.tmp 13) (.tmp 14) 3) (some (12, false)),
  .mk (some 16) (.pick (.tmp 12) (.const (.bool true)) (.tmp 15)) none,
  .mk (some 4) (.assign (.tmp 16)) none]
def c40 : PC := (.seq (.reg false r40_0) (.seq (.reg false r40_1) .ret))
theorem e40 {args : List PV} {h : Heap} {K : PV → Heap → Prop} (hl : args.length = 2) (s : pwp Try.prog [] c40 (fin Try.prog [.tmp 4] h K) (slots0 (olds args)) h) : CanP Try.prog 40 args h K :=
  can_of2 (n := 17) mixed Try.func40 rfl (by kernel_rfl) (by rw [hl]; kernel_rfl) rfl (by kernel_rfl) s
/-! ### slices.isNaN[int]: function 41 -/
def r41_0 : List PS := [.mk (some 2) (.assign (.const (.bool false))) none]
def r41_1 : List PS := [.mk (some 3) (.move (.tmp 0)) none,
  .mk (some 4) (.move (.tmp 0)) none,
  .mk (some 5) (.binOp .neq 3 (.tmp 3) (.tmp 4) 3) none,
  .mk (some 2) (.assign (.tmp 5)) none]
def c41 : PC := (.seq (.reg false r41_0) (.seq (.reg false r41_1) .ret))
theorem e41 {args : List PV} {h : Heap} {K : PV → Heap → Prop} (hl : args.length = 1) (s : pwp Try.prog [] c41 (fin Try.prog [.tmp 2] h K) (slots0 (olds args)) h) : CanP Try.prog 41 args h K :=
  can_of2 (n := 6) mixed Try.func41 rfl (by kernel_rfl) (by rw [hl]; kernel_rfl) rfl (by kernel_rfl) s
/-! ### slices.BinarySearch[[]int,int]: function 31 -/
def r31_0 : List PS := [.mk (some 4) (.assign (.const (.int .i64 0))) none,
  .mk (some 5) (.assign (.const (.bool false))) none]
def r31_1 : List PS := [.mk (some 10) (.move (.tmp 0)) none,
  .mk (some 11) (.call ⟨(.builtin .len), #[(.tmp 10)], #[22]⟩) none,
  .mk (some 6) (.assign (.tmp 11)) none]
def r31_2 : List PS := [.mk (some 12) (.move (.tmp 6)) none,
  .mk (some 7) (.assign (.const (.int .i64 0))) none,
  .mk (some 8) (.assign (.tmp 12)) none]
def r31_3 : List PS := [.mk (some 13) (.move (.tmp 7)) none,
  .mk (some 14) (.move (.tmp 8)) none,
  .mk (some 15) (.binOp .lss 3 (.tmp 13) (.tmp 14) 3) none]
def r31_4 : List PS := [.mk (some 16) (.move (.tmp 7)) none,
  .mk (some 17) (.move (.tmp 8)) none,
  .mk (some 18) (.binOp .add 3 (.tmp 16) (.tmp 17) 3) none,
  .mk (some 19) (.convert 3 72 (.tmp 18)) none,
  .mk (some 20) (.binOp .shr 72 (.tmp 19) (.const (.int .u64 1)) 72) none,
  .mk (some 21) (.convert 72 3 (.tmp 20)) none,
  .mk (some 9) (.assign (.tmp 21)) none]
def r31_5 : List PS := [.mk (some 22) (.move (.tmp 0)) none,
  .mk (some 23) (.move (.tmp 9)) none,
  .mk (some 24) (.indexAddr 22 (.tmp 22) (.tmp 23)) none,
  .mk (some 25) (.load 3 (.tmp 24)) none,
  .mk (some 26) (.move (.tmp 1)) none,
  .mk (some 27) (.call ⟨(.value (.func 40)), #[(.tmp 25), (.tmp 26)], #[3, 3]⟩) none]
def r31_6 : List PS := [.mk (some 28) (.move (.tmp 9)) none,
  .mk (some 29) (.binOp .add 3 (.tmp 28) (.const (.int .i64 1)) 3) none,
  .mk (some 7) (.assign (.tmp 29)) none]
def r31_7 : List PS := [.mk (some 30) (.move (.tmp 9)) none,
  .mk (some 8) (.assign (.tmp 30)) none]
def r31_8 : List PS := [.mk (some 31) (.move (.tmp 7)) none,
  .mk (some 32) (.move (.tmp 7)) none,
  .mk (some 33) (.move (.tmp 6)) none,
  .mk (some 34) (.binOp .lss 3 (.tmp 32) (.tmp 33) 3) none,
  .mk (some 35) (.move (.tmp 34)) none,
  .mk (some 36) (.move (.tmp 0)) (some (35, true)),
  .mk (some 37) (.move (.tmp 7)) (some (35, true)),
  .mk (some 38) (.indexAddr 22 (.tmp 36) (.tmp 37)) (some (35, true)),
  .mk (some 39) (.load 3 (.tmp 38)) (some (35, true)),
  .mk (some 40) (.move (.tmp 1)) (some (35, true)),
  .mk (some 41) (.binOp .eql 3 (.tmp 39) (.tmp 40) 3) (some (35, true)),
  .mk (some 42) (.move (.tmp 41)) (some (35, true)),
  .mk (some 43) (.move (.tmp 0)) (some (42, false)),
  .mk (some 44) (.move (.tmp 7)) (some (42, false)),
  .mk (some 45) (.indexAddr 22 (.tmp 43) (.tmp 44)) (some (42, false)),
  .mk (some 46) (.load 3 (.tmp 45)) (some (42, false)),
  .mk (some 47) (.call ⟨(.value (.func 41)), #[(.tmp 46)], #[3]⟩) (some (42, false)),
  .mk (some 48) (.move (.tmp 47)) (some (42, false)),
  .mk (some 49) (.move (.tmp 1)) (some (48, true)),
  .mk (some 50) (.call ⟨(.value (.func 41)), #[(.tmp 49)], #[3]⟩) (some (48, true)),
  .mk (some 51) (.pick (.tmp 48) (.tmp 50) (.const (.bool false))) (some (42, false)),
  .mk (some 52) (.pick (.tmp 42) (.const (.bool true)) (.tmp 51)) (some (35, true)),
  .mk (some 53) (.pick (.tmp 35) (.tmp 52) (.const (.bool false))) none,
  .mk (some 4) (.assign (.tmp 31)) none,
  .mk (some 5) (.assign (.tmp 53)) none]
def c31 : PC := (.seq (.reg false r31_0) (.seq (.reg false r31_1) (.seq (.reg false r31_2) (.seq (.block 0 (.loop (.seq (.seq (.reg false r31_3) (.cond (.tmp 15) .skip (.exit 0))) (.block 1 (.seq (.reg false r31_4) (.seq (.reg false r31_5) (.cond (.tmp 27) (.reg false r31_6) (.reg false r31_7)))))))) (.seq (.reg false r31_8) .ret)))))
theorem e31 {args : List PV} {h : Heap} {K : PV → Heap → Prop} (hl : args.length = 2) (s : pwp Try.prog [] c31 (fin Try.prog [.tmp 4, .tmp 5] h K) (slots0 (olds args)) h) : CanP Try.prog 31 args h K :=
  can_of2 (n := 54) mixed Try.func31 rfl (by kernel_rfl) (by rw [hl]; kernel_rfl) rfl (by kernel_rfl) s
/-! ### (*naskh.index.ruler).under: function 27 -/
def r27_0 : List PS := [.mk (some 4) (.assign (.const (.int .i64 0))) none]
def r27_1 : List PS := [.mk (some 8) (.move (.tmp 0)) none,
  .mk (some 9) (.nilCheck (.tmp 8)) none,
  .mk (some 10) (.fieldAddr 54 (.tmp 9) 0) none,
  .mk (some 11) (.load 22 (.tmp 10)) none,
  .mk (some 12) (.move (.tmp 1)) none,
  .mk (some 13) (.call ⟨(.value (.func 31)), #[(.tmp 11), (.tmp 12)], #[22, 3]⟩) none,
  .mk (some 7) (.move (.tmp 13)) none,
  .mk (some 14) (.extract (.tmp 7) 0) none,
  .mk (some 15) (.extract (.tmp 7) 1) none,
  .mk (some 5) (.assign (.tmp 14)) none,
  .mk (some 6) (.assign (.tmp 15)) none]
def r27_2 : List PS := [.mk (some 16) (.move (.tmp 6)) none]
def r27_3 : List PS := [.mk (some 17) (.move (.tmp 5)) none,
  .mk (some 4) (.assign (.tmp 17)) none]
def r27_4 : List PS := [.mk (some 18) (.move (.tmp 5)) none,
  .mk (some 19) (.binOp .sub 3 (.tmp 18) (.const (.int .i64 1)) 3) none,
  .mk (some 4) (.assign (.tmp 19)) none]
def c27 : PC := (.seq (.reg false r27_0) (.seq (.reg false r27_1) (.seq (.seq (.reg false r27_2) (.cond (.tmp 16) (.seq (.reg false r27_3) .ret) .skip)) (.seq (.reg false r27_4) .ret))))
theorem e27 {args : List PV} {h : Heap} {K : PV → Heap → Prop} (hl : args.length = 2) (s : pwp Try.prog [] c27 (fin Try.prog [.tmp 4] h K) (slots0 (olds args)) h) : CanP Try.prog 27 args h K :=
  can_of2 (n := 20) mixed Try.func27 rfl (by kernel_rfl) (by rw [hl]; kernel_rfl) rfl (by kernel_rfl) s
/-! ### (*naskh.index.Index).Code: function 10 -/
def r10_0 : List PS := [.mk (some 4) (.assign (.const (.int .i64 0))) none,
  .mk (some 5) (.assign (.const (.int .i64 0))) none,
  .mk (some 6) (.assign (.const (.int .i64 0))) none]
def r10_1 : List PS := [.mk (some 8) (.move (.tmp 1)) none,
  .mk (some 9) (.binOp .lss 3 (.tmp 8) (.const (.int .i64 0)) 3) none,
  .mk (some 10) (.move (.tmp 9)) none,
  .mk (some 11) (.move (.tmp 1)) (some (10, false)),
  .mk (some 12) (.move (.tmp 0)) (some (10, false)),
  .mk (some 13) (.call ⟨(.value (.func 11)), #[(.tmp 12)], #[25]⟩) (some (10, false)),
  .mk (some 14) (.binOp .geq 3 (.tmp 11) (.tmp 13) 3) (some (10, false)),
  .mk (some 15) (.pick (.tmp 10) (.const (.bool true)) (.tmp 14)) none]
def r10_2 : List PS := [.mk (some 4) (.assign (.const (.int .i64 0))) none,
  .mk (some 5) (.assign (.const (.int .i64 0))) none,
  .mk (some 6) (.assign (.const (.int .i64 1))) none]
def r10_3 : List PS := [.mk (some 16) (.move (.tmp 0)) none,
  .mk (some 17) (.nilCheck (.tmp 16)) none,
  .mk (some 18) (.fieldAddr 56 (.tmp 17) 0) none,
  .mk (some 19) (.move (.tmp 1)) none,
  .mk (some 20) (.call ⟨(.value (.func 27)), #[(.tmp 18), (.tmp 19)], #[54, 3]⟩) none,
  .mk (some 7) (.assign (.tmp 20)) none]
def r10_4 : List PS := [.mk (some 21) (.move (.tmp 7)) none,
  .mk (some 22) (.move (.tmp 1)) none,
  .mk (some 23) (.move (.tmp 0)) none,
  .mk (some 24) (.nilCheck (.tmp 23)) none,
  .mk (some 25) (.fieldAddr 56 (.tmp 24) 0) none,
  .mk (some 26) (.fieldAddr 54 (.tmp 25) 0) none,
  .mk (some 27) (.load 22 (.tmp 26)) none,
  .mk (some 28) (.move (.tmp 7)) none,
  .mk (some 29) (.indexAddr 22 (.tmp 27) (.tmp 28)) none,
  .mk (some 30) (.load 3 (.tmp 29)) none,
  .mk (some 31) (.binOp .sub 3 (.tmp 22) (.tmp 30) 3) none,
  .mk (some 4) (.assign (.tmp 21)) none,
  .mk (some 5) (.assign (.tmp 31)) none,
  .mk (some 6) (.assign (.const (.int .i64 0))) none]
def c10 : PC := (.seq (.reg false r10_0) (.seq (.seq (.reg false r10_1) (.cond (.tmp 15) (.seq (.reg false r10_2) .ret) .skip)) (.seq (.reg false r10_3) (.seq (.reg true r10_4) .ret))))
theorem e10 {args : List PV} {h : Heap} {K : PV → Heap → Prop} (hl : args.length = 2) (s : pwp Try.prog [] c10 (fin Try.prog [.tmp 4, .tmp 5, .tmp 6] h K) (slots0 (olds args)) h) : CanP Try.prog 10 args h K :=
  can_of2 (n := 32) mixed Try.func10 rfl (by kernel_rfl) (by rw [hl]; kernel_rfl) rfl (by kernel_rfl) s
/-! ### (*naskh.index.Index).Break: function 17 -/
def r17_0 : List PS := [.mk (some 4) (.assign (.const (.int .i64 0))) none,
  .mk (some 5) (.assign (.const (.int .i64 0))) none]
def r17_1 : List PS := [.mk (some 8) (.move (.tmp 0)) none,
  .mk (some 9) (.call ⟨(.value (.func 28)), #[(.tmp 8)], #[25]⟩) none,
  .mk (some 10) (.unOp .not 4 (.tmp 9)) none,
  .mk (some 11) (.move (.tmp 10)) none,
  .mk (some 12) (.move (.tmp 1)) (some (11, false)),
  .mk (some 13) (.binOp .lss 3 (.tmp 12) (.const (.int .i64 0)) 3) (some (11, false)),
  .mk (some 14) (.pick (.tmp 11) (.const (.bool true)) (.tmp 13)) none,
  .mk (some 15) (.move (.tmp 14)) none,
  .mk (some 16) (.move (.tmp 1)) (some (15, false)),
  .mk (some 17) (.move (.tmp 0)) (some (15, false)),
  .mk (some 18) (.nilCheck (.tmp 17)) (some (15, false)),
  .mk (some 19) (.fieldAddr 56 (.tmp 18) 0) (some (15, false)),
  .mk (some 20) (.call ⟨(.value (.func 29)), #[(.tmp 19)], #[54]⟩) (some (15, false)),
  .mk (some 21) (.binOp .gtr 3 (.tmp 16) (.tmp 20) 3) (some (15, false)),
  .mk (some 22) (.pick (.tmp 15) (.const (.bool true)) (.tmp 21)) none]
def r17_2 : List PS := [.mk (some 4) (.assign (.const (.int .i64 0))) none,
  .mk (some 5) (.assign (.const (.int .i64 1))) none]
def r17_3 : List PS := [.mk (some 24) (.move (.tmp 0)) none,
  .mk (some 25) (.nilCheck (.tmp 24)) none,
  .mk (some 26) (.fieldAddr 56 (.tmp 25) 0) none,
  .mk (some 27) (.fieldAddr 54 (.tmp 26) 0) none,
  .mk (some 28) (.load 22 (.tmp 27)) none,
  .mk (some 29) (.move (.tmp 1)) none,
  .mk (some 30) (.call ⟨(.value (.func 31)), #[(.tmp 28), (.tmp 29)], #[22, 3]⟩) none,
  .mk (some 23) (.move (.tmp 30)) none,
  .mk (some 31) (.extract (.tmp 23) 0) none,
  .mk (some 32) (.extract (.tmp 23) 1) none,
  .mk (some 6) (.assign (.tmp 31)) none,
  .mk (some 7) (.assign (.tmp 32)) none]
def r17_4 : List PS := [.mk (some 33) (.move (.tmp 7)) none,
  .mk (some 34) (.unOp .not 4 (.tmp 33)) none]
def r17_5 : List PS := [.mk (some 4) (.assign (.const (.int .i64 0))) none,
  .mk (some 5) (.assign (.const (.int .i64 5))) none]
def r17_6 : List PS := [.mk (some 35) (.move (.tmp 6)) none,
  .mk (some 4) (.assign (.tmp 35)) none,
  .mk (some 5) (.assign (.const (.int .i64 0))) none]
def c17 : PC := (.seq (.reg false r17_0) (.seq (.seq (.reg false r17_1) (.cond (.tmp 22) (.seq (.reg false r17_2) .ret) .skip)) (.seq (.reg false r17_3) (.seq (.seq (.reg false r17_4) (.cond (.tmp 34) (.seq (.reg false r17_5) .ret) .skip)) (.seq (.reg false r17_6) .ret)))))
theorem e17 {args : List PV} {h : Heap} {K : PV → Heap → Prop} (hl : args.length = 2) (s : pwp Try.prog [] c17 (fin Try.prog [.tmp 4, .tmp 5] h K) (slots0 (olds args)) h) : CanP Try.prog 17 args h K :=
  can_of2 (n := 36) mixed Try.func17 rfl (by kernel_rfl) (by rw [hl]; kernel_rfl) rfl (by kernel_rfl) s
/-! ### naskh.naskhlaw05.awake: function 7 -/
def r7_0 : List PS := [.mk (some 0) (.assign (.const (.bool false))) none]
def r7_1 : List PS := [.mk (some 11) (.buildSlice 22 3 #[(0, (.const (.int .i64 1))), (1, (.const (.int .i64 2))), (2, (.const (.int .i64 1)))]) none,
  .mk (some 12) (.call ⟨(.value (.func 8)), #[(.tmp 11)], #[22]⟩) none,
  .mk (some 10) (.move (.tmp 12)) none,
  .mk (some 13) (.extract (.tmp 10) 0) none,
  .mk (some 14) (.extract (.tmp 10) 1) none,
  .mk (some 1) (.assign (.tmp 13)) none,
  .mk (some 2) (.assign (.tmp 14)) none]
def r7_2 : List PS := [.mk (some 15) (.move (.tmp 1)) none,
  .mk (some 16) (.binOp .eql 25 (.tmp 15) (.const (.pointer none)) 25) none,
  .mk (some 17) (.move (.tmp 16)) none,
  .mk (some 18) (.move (.tmp 2)) (some (17, false)),
  .mk (some 19) (.binOp .neq 26 (.tmp 18) (.const (.int .i64 0)) 26) (some (17, false)),
  .mk (some 20) (.pick (.tmp 17) (.const (.bool true)) (.tmp 19)) none]
def r7_3 : List PS := [.mk (some 0) (.assign (.const (.bool false))) none]
def r7_4 : List PS := [.mk (some 22) (.move (.tmp 1)) none,
  .mk (some 23) (.call ⟨(.value (.func 9)), #[(.tmp 22), (.const (.int .i64 1))], #[25, 3]⟩) none,
  .mk (some 21) (.move (.tmp 23)) none,
  .mk (some 24) (.extract (.tmp 21) 0) none,
  .mk (some 25) (.extract (.tmp 21) 1) none,
  .mk (some 3) (.alloc 30) none,
  .mk none (.store 30 (.tmp 3) (.tmp 24)) none,
  .frz 3,
  .mk (some 4) (.assign (.tmp 25)) none]
def r7_5 : List PS := [.mk (some 27) (.move (.tmp 1)) none,
  .mk (some 28) (.call ⟨(.value (.func 10)), #[(.tmp 27), (.const (.int .i64 2))], #[25, 3]⟩) none,
  .mk (some 26) (.move (.tmp 28)) none,
  .mk (some 29) (.extract (.tmp 26) 0) none,
  .mk (some 30) (.extract (.tmp 26) 1) none,
  .mk (some 31) (.extract (.tmp 26) 2) none,
  .mk (some 5) (.assign (.tmp 29)) none,
  .mk (some 6) (.assign (.tmp 30)) none,
  .mk (some 7) (.assign (.tmp 31)) none]
def r7_6 : List PS := [.mk (some 33) (.move (.tmp 1)) none,
  .mk (some 34) (.call ⟨(.value (.func 17)), #[(.tmp 33), (.const (.int .i64 2))], #[25, 3]⟩) none,
  .mk (some 32) (.move (.tmp 34)) none,
  .mk (some 35) (.extract (.tmp 32) 0) none,
  .mk (some 36) (.extract (.tmp 32) 1) none,
  .mk (some 8) (.assign (.tmp 35)) none,
  .mk (some 9) (.assign (.tmp 36)) none]
def r7_7 : List PS := [.mk (some 37) (.move (.tmp 4)) none,
  .mk (some 38) (.binOp .eql 26 (.tmp 37) (.const (.int .i64 0)) 26) none,
  .mk (some 39) (.move (.tmp 38)) none,
  .mk (some 40) (.load 30 (.tmp 3)) (some (39, true)),
  .mk (some 41) (.build 30 #[(0, (.const (.int .i64 1))), (1, (.const (.int .i64 3)))]) (some (39, true)),
  .mk (some 42) (.binOp .eql 30 (.tmp 40) (.tmp 41) 30) (some (39, true)),
  .mk (some 43) (.pick (.tmp 39) (.tmp 42) (.const (.bool false))) none,
  .mk (some 44) (.move (.tmp 43)) none,
  .mk (some 45) (.move (.tmp 5)) (some (44, true)),
  .mk (some 46) (.binOp .eql 3 (.tmp 45) (.const (.int .i64 1)) 3) (some (44, true)),
  .mk (some 47) (.pick (.tmp 44) (.tmp 46) (.const (.bool false))) none,
  .mk (some 48) (.move (.tmp 47)) none,
  .mk (some 49) (.move (.tmp 6)) (some (48, true)),
  .mk (some 50) (.binOp .eql 3 (.tmp 49) (.const (.int .i64 1)) 3) (some (48, true)),
  .mk (some 51) (.pick (.tmp 48) (.tmp 50) (.const (.bool false))) none,
  .mk (some 52) (.move (.tmp 51)) none,
  .mk (some 53) (.move (.tmp 7)) (some (52, true)),
  .mk (some 54) (.binOp .eql 26 (.tmp 53) (.const (.int .i64 0)) 26) (some (52, true)),
  .mk (some 55) (.pick (.tmp 52) (.tmp 54) (.const (.bool false))) none,
  .mk (some 56) (.move (.tmp 55)) none,
  .mk (some 57) (.move (.tmp 9)) (some (56, true)),
  .mk (some 58) (.binOp .eql 26 (.tmp 57) (.const (.int .i64 5)) 26) (some (56, true)),
  .mk (some 59) (.pick (.tmp 56) (.tmp 58) (.const (.bool false))) none,
  .mk (some 60) (.move (.tmp 59)) none,
  .mk (some 61) (.move (.tmp 1)) (some (60, true)),
  .mk (some 62) (.call ⟨(.value (.func 11)), #[(.tmp 61)], #[25]⟩) (some (60, true)),
  .mk (some 63) (.binOp .eql 3 (.tmp 62) (.const (.int .i64 4)) 3) (some (60, true)),
  .mk (some 64) (.pick (.tmp 60) (.tmp 63) (.const (.bool false))) none,
  .mk (some 0) (.assign (.tmp 64)) none]
def c7 : PC := (.seq (.reg false r7_0) (.seq (.reg false r7_1) (.seq (.seq (.reg false r7_2) (.cond (.tmp 20) (.seq (.reg false r7_3) .ret) .skip)) (.seq (.reg false r7_4) (.seq (.reg false r7_5) (.seq (.reg false r7_6) (.seq (.reg false r7_7) .ret)))))))
theorem e7 {args : List PV} {h : Heap} {K : PV → Heap → Prop} (hl : args.length = 0) (s : pwp Try.prog [3] c7 (fin Try.prog [.tmp 0] h K) (slots0 (olds args)) h) : CanP Try.prog 7 args h K :=
  can_of2 (n := 65) mixed Try.func7 rfl (by kernel_rfl) (by rw [hl]; kernel_rfl) rfl (by kernel_rfl) s
/-! ### naskh.naskhlaw05.IndexBack: function 3 -/
def r3_0 : List PS := [.mk (some 2) (.assign (.const (.bool false))) none]
def r3_1 : List PS := [.mk (some 14) (.move (.tmp 0)) none,
  .mk (some 15) (.call ⟨(.value (.func 6)), #[(.tmp 14)], #[22]⟩) none,
  .mk (some 16) (.unOp .not 4 (.tmp 15)) none]
def r3_2 : List PS := [.mk (some 17) (.call ⟨(.value (.func 7)), #[], #[]⟩) none,
  .mk (some 2) (.assign (.tmp 17)) none]
def r3_3 : List PS := [.mk (some 19) (.move (.tmp 0)) none,
  .mk (some 20) (.call ⟨(.value (.func 8)), #[(.tmp 19)], #[22]⟩) none,
  .mk (some 18) (.move (.tmp 20)) none,
  .mk (some 21) (.extract (.tmp 18) 0) none,
  .mk (some 22) (.extract (.tmp 18) 1) none,
  .mk (some 3) (.assign (.tmp 21)) none,
  .mk (some 4) (.assign (.tmp 22)) none]
def r3_4 : List PS := [.mk (some 23) (.move (.tmp 4)) none,
  .mk (some 24) (.binOp .neq 26 (.tmp 23) (.const (.int .i64 0)) 26) none]
def r3_5 : List PS := [.mk (some 25) (.move (.tmp 3)) none,
  .mk (some 26) (.binOp .eql 25 (.tmp 25) (.const (.pointer none)) 25) none,
  .mk (some 27) (.move (.tmp 26)) none,
  .mk (some 28) (.call ⟨(.value (.func 7)), #[], #[]⟩) (some (27, true)),
  .mk (some 29) (.pick (.tmp 27) (.tmp 28) (.const (.bool false))) none,
  .mk (some 2) (.assign (.tmp 29)) none]
def r3_6 : List PS := [.mk (some 5) (.assign (.const (.int .i64 0))) none]
def r3_7 : List PS := [.mk (some 30) (.move (.tmp 0)) none,
  .mk (some 31) (.call ⟨(.builtin .len), #[(.tmp 30)], #[22]⟩) none,
  .mk (some 32) (.move (.const (.int .i64 0))) none]
def r3_8 : List PS := [.mk (some 33) (.binOp .lss 3 (.tmp 32) (.tmp 31) 3) none]
def r3_9 : List PS := [.mk (some 34) (.move (.tmp 32)) none,
  .mk (some 35) (.indexAddr 22 (.tmp 30) (.tmp 32)) none,
  .mk (some 36) (.load 3 (.tmp 35)) none,
  .mk (some 6) (.assign (.tmp 34)) none,
  .mk (some 7) (.assign (.tmp 36)) none]
def r3_10 : List PS := [.mk (some 38) (.move (.tmp 3)) none,
  .mk (some 39) (.move (.tmp 6)) none,
  .mk (some 40) (.call ⟨(.value (.func 9)), #[(.tmp 38), (.tmp 39)], #[25, 3]⟩) none,
  .mk (some 37) (.move (.tmp 40)) none,
  .mk (some 41) (.extract (.tmp 37) 0) none,
  .mk (some 42) (.extract (.tmp 37) 1) none,
  .mk (some 8) (.alloc 30) none,
  .mk none (.store 30 (.tmp 8) (.tmp 41)) none,
  .frz 8,
  .mk (some 9) (.assign (.tmp 42)) none]
def r3_11 : List PS := [.mk (some 43) (.move (.tmp 9)) none,
  .mk (some 44) (.binOp .neq 26 (.tmp 43) (.const (.int .i64 0)) 26) none,
  .mk (some 45) (.move (.tmp 44)) none,
  .mk (some 46) (.fieldAddr 30 (.tmp 8) 0) (some (45, false)),
  .mk (some 47) (.load 3 (.tmp 46)) (some (45, false)),
  .mk (some 48) (.move (.tmp 5)) (some (45, false)),
  .mk (some 49) (.binOp .neq 3 (.tmp 47) (.tmp 48) 3) (some (45, false)),
  .mk (some 50) (.pick (.tmp 45) (.const (.bool true)) (.tmp 49)) none,
  .mk (some 51) (.move (.tmp 50)) none,
  .mk (some 52) (.fieldAddr 30 (.tmp 8) 1) (some (51, false)),
  .mk (some 53) (.load 3 (.tmp 52)) (some (51, false)),
  .mk (some 54) (.move (.tmp 5)) (some (51, false)),
  .mk (some 55) (.move (.tmp 7)) (some (51, false)),
  .mk (some 56) (.binOp .add 3 (.tmp 54) (.tmp 55) 3) (some (51, false)),
  .mk (some 57) (.binOp .neq 3 (.tmp 53) (.tmp 56) 3) (some (51, false)),
  .mk (some 58) (.pick (.tmp 51) (.const (.bool true)) (.tmp 57)) none]
def r3_12 : List PS := [.mk (some 2) (.assign (.const (.bool false))) none]
def r3_13 : List PS := [.mk (some 59) (.move (.tmp 7)) none,
  .mk (some 60) (.move (.const (.int .i64 0))) none]
def r3_14 : List PS := [.mk (some 61) (.binOp .lss 3 (.tmp 60) (.tmp 59) 3) none]
def r3_15 : List PS := [.mk (some 62) (.move (.tmp 60)) none,
  .mk (some 10) (.assign (.tmp 62)) none]
def r3_16 : List PS := [.mk (some 64) (.move (.tmp 3)) none,
  .mk (some 65) (.move (.tmp 5)) none,
  .mk (some 66) (.move (.tmp 10)) none,
  .mk (some 67) (.binOp .add 3 (.tmp 65) (.tmp 66) 3) none,
  .mk (some 68) (.call ⟨(.value (.func 10)), #[(.tmp 64), (.tmp 67)], #[25, 3]⟩) none,
  .mk (some 63) (.move (.tmp 68)) none,
  .mk (some 69) (.extract (.tmp 63) 0) none,
  .mk (some 70) (.extract (.tmp 63) 1) none,
  .mk (some 71) (.extract (.tmp 63) 2) none,
  .mk (some 11) (.assign (.tmp 69)) none,
  .mk (some 12) (.assign (.tmp 70)) none,
  .mk (some 13) (.assign (.tmp 71)) none]
def r3_17 : List PS := [.mk (some 72) (.move (.tmp 11)) none,
  .mk (some 73) (.move (.tmp 6)) none,
  .mk (some 74) (.binOp .neq 3 (.tmp 72) (.tmp 73) 3) none,
  .mk (some 75) (.move (.tmp 74)) none,
  .mk (some 76) (.move (.tmp 12)) (some (75, false)),
  .mk (some 77) (.move (.tmp 10)) (some (75, false)),
  .mk (some 78) (.binOp .neq 3 (.tmp 76) (.tmp 77) 3) (some (75, false)),
  .mk (some 79) (.pick (.tmp 75) (.const (.bool true)) (.tmp 78)) none,
  .mk (some 80) (.move (.tmp 79)) none,
  .mk (some 81) (.move (.tmp 13)) (some (80, false)),
  .mk (some 82) (.binOp .neq 26 (.tmp 81) (.const (.int .i64 0)) 26) (some (80, false)),
  .mk (some 83) (.pick (.tmp 80) (.const (.bool true)) (.tmp 82)) none]
def r3_18 : List PS := [.mk (some 2) (.assign (.const (.bool false))) none]
def r3_19 : List PS := [.mk (some 84) (.binOp .add 3 (.tmp 60) (.const (.int .i64 1)) 3) none,
  .mk (some 60) (.move (.tmp 84)) none]
def r3_20 : List PS := [.mk (some 85) (.move (.tmp 5)) none,
  .mk (some 86) (.move (.tmp 7)) none,
  .mk (some 87) (.binOp .add 3 (.tmp 85) (.tmp 86) 3) none,
  .mk (some 5) (.assign (.tmp 87)) none]
def r3_21 : List PS := [.mk (some 88) (.binOp .add 3 (.tmp 32) (.const (.int .i64 1)) 3) none,
  .mk (some 32) (.move (.tmp 88)) none]
def r3_22 : List PS := [.mk (some 89) (.move (.tmp 3)) none,
  .mk (some 90) (.call ⟨(.value (.func 11)), #[(.tmp 89)], #[25]⟩) none,
  .mk (some 91) (.move (.tmp 5)) none,
  .mk (some 92) (.binOp .eql 3 (.tmp 90) (.tmp 91) 3) none,
  .mk (some 93) (.move (.tmp 92)) none,
  .mk (some 94) (.call ⟨(.value (.func 7)), #[], #[]⟩) (some (93, true)),
  .mk (some 95) (.pick (.tmp 93) (.tmp 94) (.const (.bool false))) none,
  .mk (some 2) (.assign (.tmp 95)) none]
def c3 : PC := (.seq (.reg false r3_0) (.seq (.seq (.reg false r3_1) (.cond (.tmp 16) (.seq (.reg false r3_2) .ret) .skip)) (.seq (.reg false r3_3) (.seq (.seq (.reg false r3_4) (.cond (.tmp 24) (.seq (.reg false r3_5) .ret) .skip)) (.seq (.reg false r3_6) (.seq (.seq (.reg false r3_7) (.block 0 (.loop (.seq (.reg false r3_8) (.seq (.cond (.tmp 33) .skip (.exit 0)) (.seq (.block 1 (.seq (.reg false r3_9) (.seq (.reg false r3_10) (.seq (.seq (.reg false r3_11) (.cond (.tmp 58) (.seq (.reg false r3_12) .ret) .skip)) (.seq (.seq (.reg false r3_13) (.block 2 (.loop (.seq (.reg false r3_14) (.seq (.cond (.tmp 61) .skip (.exit 2)) (.seq (.block 3 (.seq (.reg false r3_15) (.seq (.reg false r3_16) (.seq (.reg false r3_17) (.cond (.tmp 83) (.seq (.reg false r3_18) .ret) .skip))))) (.reg false r3_19))))))) (.reg false r3_20)))))) (.reg false r3_21))))))) (.seq (.reg false r3_22) .ret)))))))
theorem e3 {args : List PV} {h : Heap} {K : PV → Heap → Prop} (hl : args.length = 1) (s : pwp Try.prog [8] c3 (fin Try.prog [.tmp 2] h K) (slots0 (olds args)) h) : CanP Try.prog 3 args h K :=
  can_of2 (n := 96) mixed Try.func3 rfl (by kernel_rfl) (by rw [hl]; kernel_rfl) rfl (by kernel_rfl) s
/-! ### slices.Clone[[]int,int]: function 12 -/
def r12_0 : List PS := [.mk (some 2) (.assign (.const (.slice none 0 0))) none]
def r12_1 : List PS := [.mk (some 3) (.move (.tmp 0)) none,
  .mk (some 4) (.binOp .eql 22 (.tmp 3) (.const (.slice none 0 0)) 22) none]
def r12_2 : List PS := [.mk (some 2) (.assign (.const (.slice none 0 0))) none]
def r12_3 : List PS := [.mk (some 5) (.buildSlice 22 0 #[]) none,
  .mk (some 6) (.move (.tmp 0)) none,
  .mk (some 7) (.call ⟨(.builtin .append), #[(.tmp 5), (.tmp 6)], #[22, 22]⟩) none,
  .mk (some 2) (.assign (.tmp 7)) none]
def c12 : PC := (.seq (.reg false r12_0) (.seq (.seq (.reg false r12_1) (.cond (.tmp 4) (.seq (.reg false r12_2) .ret) .skip)) (.seq (.reg false r12_3) .ret)))
theorem e12 {args : List PV} {h : Heap} {K : PV → Heap → Prop} (hl : args.length = 1) (s : pwp Try.prog [5] c12 (fin Try.prog [.tmp 2] h K) (slots0 (olds args)) h) : CanP Try.prog 12 args h K :=
  can_of2 (n := 8) mixed Try.func12 rfl (by kernel_rfl) (by rw [hl]; kernel_rfl) rfl (by kernel_rfl) s
/-! ### naskh.naskhref05.New: function 13 -/
def r13_0 : List PS := [.mk (some 2) (.assign (.const (.pointer none))) none,
  .mk (some 3) (.assign (.const (.int .i64 0))) none]
def r13_1 : List PS := [.mk (some 4) (.assign (.const (.int .i64 0))) none]
def r13_2 : List PS := [.mk (some 5) (.assign (.const (.int .i64 0))) none]
def r13_3 : List PS := [.mk (some 7) (.move (.tmp 5)) none,
  .mk (some 8) (.move (.tmp 0)) none,
  .mk (some 9) (.call ⟨(.builtin .len), #[(.tmp 8)], #[22]⟩) none,
  .mk (some 10) (.binOp .lss 3 (.tmp 7) (.tmp 9) 3) none]
def r13_4 : List PS := [.mk (some 13) (.move (.tmp 0)) none,
  .mk (some 14) (.move (.tmp 5)) none,
  .mk (some 15) (.indexAddr 22 (.tmp 13) (.tmp 14)) none,
  .mk (some 16) (.load 3 (.tmp 15)) none,
  .mk (some 17) (.binOp .lss 3 (.tmp 16) (.const (.int .i64 1)) 3) none]
def r13_5 : List PS := [.mk (some 2) (.assign (.const (.pointer none))) none,
  .mk (some 3) (.assign (.const (.int .i64 1))) none]
def r13_6 : List PS := [.mk (some 11) (.move (.tmp 5)) none,
  .mk (some 12) (.binOp .add 3 (.tmp 11) (.const (.int .i64 1)) 3) none,
  .mk (some 5) (.assign (.tmp 12)) none]
def r13_7 : List PS := [.mk (some 6) (.assign (.const (.int .i64 0))) none]
def r13_8 : List PS := [.mk (some 18) (.move (.tmp 6)) none,
  .mk (some 19) (.move (.tmp 0)) none,
  .mk (some 20) (.call ⟨(.builtin .len), #[(.tmp 19)], #[22]⟩) none,
  .mk (some 21) (.binOp .lss 3 (.tmp 18) (.tmp 20) 3) none]
def r13_9 : List PS := [.mk (some 24) (.move (.tmp 0)) none,
  .mk (some 25) (.move (.tmp 6)) none,
  .mk (some 26) (.indexAddr 22 (.tmp 24) (.tmp 25)) none,
  .mk (some 27) (.load 3 (.tmp 26)) none,
  .mk (some 28) (.move (.tmp 4)) none,
  .mk (some 29) (.binOp .sub 3 (.const (.int .i64 16777216)) (.tmp 28) 3) none,
  .mk (some 30) (.binOp .gtr 3 (.tmp 27) (.tmp 29) 3) none]
def r13_10 : List PS := [.mk (some 2) (.assign (.const (.pointer none))) none,
  .mk (some 3) (.assign (.const (.int .i64 6))) none]
def r13_11 : List PS := [.mk (some 31) (.move (.tmp 4)) none,
  .mk (some 32) (.move (.tmp 0)) none,
  .mk (some 33) (.move (.tmp 6)) none,
  .mk (some 34) (.indexAddr 22 (.tmp 32) (.tmp 33)) none,
  .mk (some 35) (.load 3 (.tmp 34)) none,
  .mk (some 36) (.binOp .add 3 (.tmp 31) (.tmp 35) 3) none,
  .mk (some 4) (.assign (.tmp 36)) none]
def r13_12 : List PS := [.mk (some 22) (.move (.tmp 6)) none,
  .mk (some 23) (.binOp .add 3 (.tmp 22) (.const (.int .i64 1)) 3) none,
  .mk (some 6) (.assign (.tmp 23)) none]
def r13_13 : List PS := [.mk (some 37) (.move (.tmp 0)) none,
  .mk (some 38) (.call ⟨(.builtin .append), #[(.const (.slice none 0 0)), (.tmp 37)], #[22, 22]⟩) none,
  .frz 38,
  .mk (some 39) (.build 60 #[(0, (.tmp 38))]) none,
  .mk (some 40) (.box 60 (.tmp 39)) none,
  .mk (some 2) (.assign (.tmp 40)) none,
  .mk (some 3) (.assign (.const (.int .i64 0))) none]
def c13 : PC := (.seq (.reg false r13_0) (.seq (.reg false r13_1) (.seq (.seq (.reg false r13_2) (.block 0 (.loop (.seq (.seq (.reg false r13_3) (.cond (.tmp 10) .skip (.exit 0))) (.seq (.block 1 (.seq (.reg false r13_4) (.cond (.tmp 17) (.seq (.reg false r13_5) .ret) .skip))) (.reg false r13_6)))))) (.seq (.seq (.reg false r13_7) (.block 2 (.loop (.seq (.seq (.reg false r13_8) (.cond (.tmp 21) .skip (.exit 2))) (.seq (.block 3 (.seq (.seq (.reg false r13_9) (.cond (.tmp 30) (.seq (.reg false r13_10) .ret) .skip)) (.reg false r13_11))) (.reg false r13_12)))))) (.seq (.reg false r13_13) .ret)))))
theorem e13 {args : List PV} {h : Heap} {K : PV → Heap → Prop} (hl : args.length = 1) (s : pwp Try.prog [] c13 (fin Try.prog [.tmp 2, .tmp 3] h K) (slots0 (olds args)) h) : CanP Try.prog 13 args h K :=
  can_of2 (n := 41) mixed Try.func13 rfl (by kernel_rfl) (by rw [hl]; kernel_rfl) rfl (by kernel_rfl) s
/-! ### slices.Equal[[]int,int]: function 14 -/
def r14_0 : List PS := [.mk (some 4) (.assign (.const (.bool false))) none]
def r14_1 : List PS := [.mk (some 6) (.move (.tmp 0)) none,
  .mk (some 7) (.call ⟨(.builtin .len), #[(.tmp 6)], #[22]⟩) none,
  .mk (some 8) (.move (.tmp 1)) none,
  .mk (some 9) (.call ⟨(.builtin .len), #[(.tmp 8)], #[22]⟩) none,
  .mk (some 10) (.binOp .neq 3 (.tmp 7) (.tmp 9) 3) none]
def r14_2 : List PS := [.mk (some 4) (.assign (.const (.bool false))) none]
def r14_3 : List PS := [.mk (some 11) (.move (.tmp 0)) none,
  .mk (some 12) (.call ⟨(.builtin .len), #[(.tmp 11)], #[22]⟩) none,
  .mk (some 13) (.move (.const (.int .i64 0))) none]
def r14_4 : List PS := [.mk (some 14) (.binOp .lss 3 (.tmp 13) (.tmp 12) 3) none]
def r14_5 : List PS := [.mk (some 15) (.move (.tmp 13)) none,
  .mk (some 5) (.assign (.tmp 15)) none]
def r14_6 : List PS := [.mk (some 16) (.move (.tmp 0)) none,
  .mk (some 17) (.move (.tmp 5)) none,
  .mk (some 18) (.indexAddr 22 (.tmp 16) (.tmp 17)) none,
  .mk (some 19) (.load 3 (.tmp 18)) none,
  .mk (some 20) (.move (.tmp 1)) none,
  .mk (some 21) (.move (.tmp 5)) none,
  .mk (some 22) (.indexAddr 22 (.tmp 20) (.tmp 21)) none,
  .mk (some 23) (.load 3 (.tmp 22)) none,
  .mk (some 24) (.binOp .neq 3 (.tmp 19) (.tmp 23) 3) none]
def r14_7 : List PS := [.mk (some 4) (.assign (.const (.bool false))) none]
def r14_8 : List PS := [.mk (some 25) (.binOp .add 3 (.tmp 13) (.const (.int .i64 1)) 3) none,
  .mk (some 13) (.move (.tmp 25)) none]
def r14_9 : List PS := [.mk (some 4) (.assign (.const (.bool true))) none]
def c14 : PC := (.seq (.reg false r14_0) (.seq (.seq (.reg false r14_1) (.cond (.tmp 10) (.seq (.reg false r14_2) .ret) .skip)) (.seq (.seq (.reg false r14_3) (.block 0 (.loop (.seq (.reg false r14_4) (.seq (.cond (.tmp 14) .skip (.exit 0)) (.seq (.block 1 (.seq (.reg false r14_5) (.seq (.reg true r14_6) (.cond (.tmp 24) (.seq (.reg false r14_7) .ret) .skip)))) (.reg false r14_8))))))) (.seq (.reg false r14_9) .ret))))
theorem e14 {args : List PV} {h : Heap} {K : PV → Heap → Prop} (hl : args.length = 2) (s : pwp Try.prog [] c14 (fin Try.prog [.tmp 4] h K) (slots0 (olds args)) h) : CanP Try.prog 14 args h K :=
  can_of2 (n := 26) mixed Try.func14 rfl (by kernel_rfl) (by rw [hl]; kernel_rfl) rfl (by kernel_rfl) s
/-! ### (*naskh.naskhref05.Index).Span: function 15 -/
def r15_0 : List PS := [.mk (some 4) (.alloc 30) none,
  .mk (some 5) (.assign (.const (.int .i64 0))) none]
def r15_1 : List PS := [.mk (some 8) (.move (.tmp 1)) none,
  .mk (some 9) (.binOp .lss 3 (.tmp 8) (.const (.int .i64 0)) 3) none,
  .mk (some 10) (.move (.tmp 9)) none,
  .mk (some 11) (.move (.tmp 1)) (some (10, false)),
  .mk (some 12) (.move (.tmp 0)) (some (10, false)),
  .mk (some 13) (.nilCheck (.tmp 12)) (some (10, false)),
  .mk (some 14) (.fieldAddr 60 (.tmp 13) 0) (some (10, false)),
  .mk (some 15) (.load 22 (.tmp 14)) (some (10, false)),
  .mk (some 16) (.call ⟨(.builtin .len), #[(.tmp 15)], #[22]⟩) (some (10, false)),
  .mk (some 17) (.binOp .geq 3 (.tmp 11) (.tmp 16) 3) (some (10, false)),
  .mk (some 18) (.pick (.tmp 10) (.const (.bool true)) (.tmp 17)) none]
def r15_2 : List PS := [.mk (some 19) (.build 30 #[]) none,
  .mk none (.store 30 (.tmp 4) (.tmp 19)) none,
  .mk (some 5) (.assign (.const (.int .i64 1))) none]
def r15_3 : List PS := [.mk (some 6) (.assign (.const (.int .i64 0))) none]
def r15_4 : List PS := [.mk (some 7) (.assign (.const (.int .i64 0))) none]
def r15_5 : List PS := [.mk (some 20) (.move (.tmp 7)) none,
  .mk (some 21) (.move (.tmp 1)) none,
  .mk (some 22) (.binOp .lss 3 (.tmp 20) (.tmp 21) 3) none]
def r15_6 : List PS := [.mk (some 25) (.move (.tmp 6)) none,
  .mk (some 26) (.move (.tmp 0)) none,
  .mk (some 27) (.nilCheck (.tmp 26)) none,
  .mk (some 28) (.fieldAddr 60 (.tmp 27) 0) none,
  .mk (some 29) (.load 22 (.tmp 28)) none,
  .mk (some 30) (.move (.tmp 7)) none,
  .mk (some 31) (.indexAddr 22 (.tmp 29) (.tmp 30)) none,
  .mk (some 32) (.load 3 (.tmp 31)) none,
  .mk (some 33) (.binOp .add 3 (.tmp 25) (.tmp 32) 3) none,
  .mk (some 6) (.assign (.tmp 33)) none]
def r15_7 : List PS := [.mk (some 23) (.move (.tmp 7)) none,
  .mk (some 24) (.binOp .add 3 (.tmp 23) (.const (.int .i64 1)) 3) none,
  .mk (some 7) (.assign (.tmp 24)) none]
def r15_8 : List PS := [.mk (some 34) (.move (.tmp 6)) none,
  .mk (some 35) (.move (.tmp 6)) none,
  .mk (some 36) (.move (.tmp 0)) none,
  .mk (some 37) (.nilCheck (.tmp 36)) none,
  .mk (some 38) (.fieldAddr 60 (.tmp 37) 0) none,
  .mk (some 39) (.load 22 (.tmp 38)) none,
  .mk (some 40) (.move (.tmp 1)) none,
  .mk (some 41) (.indexAddr 22 (.tmp 39) (.tmp 40)) none,
  .mk (some 42) (.load 3 (.tmp 41)) none,
  .mk (some 43) (.binOp .add 3 (.tmp 35) (.tmp 42) 3) none,
  .mk (some 44) (.build 30 #[(0, (.tmp 34)), (1, (.tmp 43))]) none,
  .mk none (.store 30 (.tmp 4) (.tmp 44)) none,
  .mk (some 5) (.assign (.const (.int .i64 0))) none]
def c15 : PC := (.seq (.reg false r15_0) (.seq (.seq (.reg false r15_1) (.cond (.tmp 18) (.seq (.reg false r15_2) .ret) .skip)) (.seq (.reg false r15_3) (.seq (.seq (.reg false r15_4) (.block 0 (.loop (.seq (.seq (.reg false r15_5) (.cond (.tmp 22) .skip (.exit 0))) (.seq (.block 1 (.reg false r15_6)) (.reg false r15_7)))))) (.seq (.reg false r15_8) .ret)))))
theorem e15 {args : List PV} {h : Heap} {K : PV → Heap → Prop} (hl : args.length = 2) (s : pwp Try.prog [4] c15 (fin Try.prog [.cell 4 30, .tmp 5] h K) (slots0 (olds args)) h) : CanP Try.prog 15 args h K :=
  can_of2 (n := 45) mixed Try.func15 rfl (by kernel_rfl) (by rw [hl]; kernel_rfl) rfl (by kernel_rfl) s
/-! ### naskh.naskhref03.Has: function 30 -/
def r30_0 : List PS := [.mk (some 2) (.box 30 (.tmp 0)) none,
  .mk (some 4) (.assign (.const (.bool false))) none]
def r30_1 : List PS := [.mk (some 5) (.move (.tmp 1)) none,
  .mk (some 6) (.fieldAddr 30 (.tmp 2) 0) none,
  .mk (some 7) (.load 3 (.tmp 6)) none,
  .mk (some 8) (.binOp .geq 3 (.tmp 5) (.tmp 7) 3) none,
  .mk (some 9) (.move (.tmp 8)) none,
  .mk (some 10) (.move (.tmp 1)) (some (9, true)),
  .mk (some 11) (.fieldAddr 30 (.tmp 2) 1) (some (9, true)),
  .mk (some 12) (.load 3 (.tmp 11)) (some (9, true)),
  .mk (some 13) (.binOp .lss 3 (.tmp 10) (.tmp 12) 3) (some (9, true)),
  .mk (some 14) (.pick (.tmp 9) (.tmp 13) (.const (.bool false))) none,
  .mk (some 4) (.assign (.tmp 14)) none]
def c30 : PC := (.seq (.reg false r30_0) (.seq (.reg false r30_1) .ret))
theorem e30 {args : List PV} {h : Heap} {K : PV → Heap → Prop} (hl : args.length = 2) (s : pwp Try.prog [] c30 (fin Try.prog [.tmp 4] h K) (slots0 (olds args)) h) : CanP Try.prog 30 args h K :=
  can_of2 (n := 15) mixed Try.func30 rfl (by kernel_rfl) (by rw [hl]; kernel_rfl) rfl (by kernel_rfl) s
/-! ### (*naskh.naskhref05.Index).Code: function 16 -/
def r16_0 : List PS := [.mk (some 4) (.assign (.const (.int .i64 0))) none,
  .mk (some 5) (.assign (.const (.int .i64 0))) none,
  .mk (some 6) (.assign (.const (.int .i64 0))) none]
def r16_1 : List PS := [.mk (some 7) (.assign (.const (.int .i64 0))) none]
def r16_2 : List PS := [.mk (some 10) (.move (.tmp 7)) none,
  .mk (some 11) (.move (.tmp 0)) none,
  .mk (some 12) (.nilCheck (.tmp 11)) none,
  .mk (some 13) (.fieldAddr 60 (.tmp 12) 0) none,
  .mk (some 14) (.load 22 (.tmp 13)) none,
  .mk (some 15) (.call ⟨(.builtin .len), #[(.tmp 14)], #[22]⟩) none,
  .mk (some 16) (.binOp .lss 3 (.tmp 10) (.tmp 15) 3) none]
def r16_3 : List PS := [.mk (some 20) (.move (.tmp 0)) none,
  .mk (some 21) (.move (.tmp 7)) none,
  .mk (some 22) (.call ⟨(.value (.func 15)), #[(.tmp 20), (.tmp 21)], #[37, 3]⟩) none,
  .mk (some 19) (.move (.tmp 22)) none,
  .mk (some 23) (.extract (.tmp 19) 0) none,
  .mk (some 24) (.extract (.tmp 19) 1) none,
  .mk (some 8) (.alloc 30) none,
  .mk none (.store 30 (.tmp 8) (.tmp 23)) none,
  .frz 8,
  .mk (some 9) (.assign (.tmp 24)) none]
def r16_4 : List PS := [.mk (some 25) (.load 30 (.tmp 8)) none,
  .mk (some 26) (.move (.tmp 1)) none,
  .mk (some 27) (.call ⟨(.value (.func 30)), #[(.tmp 25), (.tmp 26)], #[30, 3]⟩) none]
def r16_5 : List PS := [.mk (some 28) (.move (.tmp 7)) none,
  .mk (some 29) (.move (.tmp 1)) none,
  .mk (some 30) (.fieldAddr 30 (.tmp 8) 0) none,
  .mk (some 31) (.load 3 (.tmp 30)) none,
  .mk (some 32) (.binOp .sub 3 (.tmp 29) (.tmp 31) 3) none,
  .mk (some 4) (.assign (.tmp 28)) none,
  .mk (some 5) (.assign (.tmp 32)) none,
  .mk (some 6) (.assign (.const (.int .i64 0))) none]
def r16_6 : List PS := [.mk (some 17) (.move (.tmp 7)) none,
  .mk (some 18) (.binOp .add 3 (.tmp 17) (.const (.int .i64 1)) 3) none,
  .mk (some 7) (.assign (.tmp 18)) none]
def r16_7 : List PS := [.mk (some 4) (.assign (.const (.int .i64 0))) none,
  .mk (some 5) (.assign (.const (.int .i64 0))) none,
  .mk (some 6) (.assign (.const (.int .i64 1))) none]
def c16 : PC := (.seq (.reg false r16_0) (.seq (.seq (.reg false r16_1) (.block 0 (.loop (.seq (.seq (.reg false r16_2) (.cond (.tmp 16) .skip (.exit 0))) (.seq (.block 1 (.seq (.reg false r16_3) (.seq (.reg false r16_4) (.cond (.tmp 27) (.seq (.reg true r16_5) .ret) .skip)))) (.reg false r16_6)))))) (.seq (.reg false r16_7) .ret)))
theorem e16 {args : List PV} {h : Heap} {K : PV → Heap → Prop} (hl : args.length = 2) (s : pwp Try.prog [8] c16 (fin Try.prog [.tmp 4, .tmp 5, .tmp 6] h K) (slots0 (olds args)) h) : CanP Try.prog 16 args h K :=
  can_of2 (n := 33) mixed Try.func16 rfl (by kernel_rfl) (by rw [hl]; kernel_rfl) rfl (by kernel_rfl) s
/-! ### (*naskh.naskhref05.Index).Codes: function 20 -/
def r20_0 : List PS := [.mk (some 2) (.assign (.const (.int .i64 0))) none]
def r20_1 : List PS := [.mk (some 3) (.move (.tmp 0)) none,
  .mk (some 4) (.nilCheck (.tmp 3)) none,
  .mk (some 5) (.fieldAddr 60 (.tmp 4) 0) none,
  .mk (some 6) (.load 22 (.tmp 5)) none,
  .mk (some 7) (.call ⟨(.builtin .len), #[(.tmp 6)], #[22]⟩) none,
  .mk (some 2) (.assign (.tmp 7)) none]
def c20 : PC := (.seq (.reg false r20_0) (.seq (.reg false r20_1) .ret))
theorem e20 {args : List PV} {h : Heap} {K : PV → Heap → Prop} (hl : args.length = 1) (s : pwp Try.prog [] c20 (fin Try.prog [.tmp 2] h K) (slots0 (olds args)) h) : CanP Try.prog 20 args h K :=
  can_of2 (n := 8) mixed Try.func20 rfl (by kernel_rfl) (by rw [hl]; kernel_rfl) rfl (by kernel_rfl) s
/-! ### (*naskh.naskhref05.Index).Units: function 21 -/
def r21_0 : List PS := [.mk (some 2) (.assign (.const (.int .i64 0))) none]
def r21_1 : List PS := [.mk (some 3) (.assign (.const (.int .i64 0))) none]
def r21_2 : List PS := [.mk (some 4) (.assign (.const (.int .i64 0))) none]
def r21_3 : List PS := [.mk (some 5) (.move (.tmp 4)) none,
  .mk (some 6) (.move (.tmp 0)) none,
  .mk (some 7) (.nilCheck (.tmp 6)) none,
  .mk (some 8) (.fieldAddr 60 (.tmp 7) 0) none,
  .mk (some 9) (.load 22 (.tmp 8)) none,
  .mk (some 10) (.call ⟨(.builtin .len), #[(.tmp 9)], #[22]⟩) none,
  .mk (some 11) (.binOp .lss 3 (.tmp 5) (.tmp 10) 3) none]
def r21_4 : List PS := [.mk (some 14) (.move (.tmp 3)) none,
  .mk (some 15) (.move (.tmp 0)) none,
  .mk (some 16) (.nilCheck (.tmp 15)) none,
  .mk (some 17) (.fieldAddr 60 (.tmp 16) 0) none,
  .mk (some 18) (.load 22 (.tmp 17)) none,
  .mk (some 19) (.move (.tmp 4)) none,
  .mk (some 20) (.indexAddr 22 (.tmp 18) (.tmp 19)) none,
  .mk (some 21) (.load 3 (.tmp 20)) none,
  .mk (some 22) (.binOp .add 3 (.tmp 14) (.tmp 21) 3) none,
  .mk (some 3) (.assign (.tmp 22)) none]
def r21_5 : List PS := [.mk (some 12) (.move (.tmp 4)) none,
  .mk (some 13) (.binOp .add 3 (.tmp 12) (.const (.int .i64 1)) 3) none,
  .mk (some 4) (.assign (.tmp 13)) none]
def r21_6 : List PS := [.mk (some 23) (.move (.tmp 3)) none,
  .mk (some 2) (.assign (.tmp 23)) none]
def c21 : PC := (.seq (.reg false r21_0) (.seq (.reg false r21_1) (.seq (.seq (.reg false r21_2) (.block 0 (.loop (.seq (.seq (.reg false r21_3) (.cond (.tmp 11) .skip (.exit 0))) (.seq (.block 1 (.reg false r21_4)) (.reg false r21_5)))))) (.seq (.reg false r21_6) .ret))))
theorem e21 {args : List PV} {h : Heap} {K : PV → Heap → Prop} (hl : args.length = 1) (s : pwp Try.prog [] c21 (fin Try.prog [.tmp 2] h K) (slots0 (olds args)) h) : CanP Try.prog 21 args h K :=
  can_of2 (n := 24) mixed Try.func21 rfl (by kernel_rfl) (by rw [hl]; kernel_rfl) rfl (by kernel_rfl) s
/-! ### (*naskh.naskhref05.Index).Break: function 18 -/
def r18_0 : List PS := [.mk (some 4) (.assign (.const (.int .i64 0))) none,
  .mk (some 5) (.assign (.const (.int .i64 0))) none]
def r18_1 : List PS := [.mk (some 9) (.move (.tmp 1)) none,
  .mk (some 10) (.move (.tmp 0)) none,
  .mk (some 11) (.call ⟨(.value (.func 21)), #[(.tmp 10)], #[37]⟩) none,
  .mk (some 12) (.binOp .eql 3 (.tmp 9) (.tmp 11) 3) none]
def r18_2 : List PS := [.mk (some 13) (.move (.tmp 0)) none,
  .mk (some 14) (.call ⟨(.value (.func 20)), #[(.tmp 13)], #[37]⟩) none,
  .mk (some 4) (.assign (.tmp 14)) none,
  .mk (some 5) (.assign (.const (.int .i64 0))) none]
def r18_3 : List PS := [.mk (some 16) (.move (.tmp 0)) none,
  .mk (some 17) (.move (.tmp 1)) none,
  .mk (some 18) (.call ⟨(.value (.func 16)), #[(.tmp 16), (.tmp 17)], #[37, 3]⟩) none,
  .mk (some 15) (.move (.tmp 18)) none,
  .mk (some 19) (.extract (.tmp 15) 0) none,
  .mk (some 20) (.extract (.tmp 15) 1) none,
  .mk (some 21) (.extract (.tmp 15) 2) none,
  .mk (some 6) (.assign (.tmp 19)) none,
  .mk (some 7) (.assign (.tmp 20)) none,
  .mk (some 8) (.assign (.tmp 21)) none]
def r18_4 : List PS := [.mk (some 22) (.move (.tmp 8)) none,
  .mk (some 23) (.binOp .eql 26 (.tmp 22) (.const (.int .i64 0)) 26) none,
  .mk (some 24) (.move (.tmp 23)) none,
  .mk (some 25) (.move (.tmp 7)) (some (24, true)),
  .mk (some 26) (.binOp .gtr 3 (.tmp 25) (.const (.int .i64 0)) 3) (some (24, true)),
  .mk (some 27) (.pick (.tmp 24) (.tmp 26) (.const (.bool false))) none]
def r18_5 : List PS := [.mk (some 4) (.assign (.const (.int .i64 0))) none,
  .mk (some 5) (.assign (.const (.int .i64 5))) none]
def r18_6 : List PS := [.mk (some 28) (.move (.tmp 6)) none,
  .mk (some 29) (.move (.tmp 8)) none,
  .mk (some 4) (.assign (.tmp 28)) none,
  .mk (some 5) (.assign (.tmp 29)) none]
def c18 : PC := (.seq (.reg false r18_0) (.seq (.seq (.reg false r18_1) (.cond (.tmp 12) (.seq (.reg false r18_2) .ret) .skip)) (.seq (.reg false r18_3) (.seq (.seq (.reg false r18_4) (.cond (.tmp 27) (.seq (.reg false r18_5) .ret) .skip)) (.seq (.reg false r18_6) .ret)))))
theorem e18 {args : List PV} {h : Heap} {K : PV → Heap → Prop} (hl : args.length = 2) (s : pwp Try.prog [] c18 (fin Try.prog [.tmp 4, .tmp 5] h K) (slots0 (olds args)) h) : CanP Try.prog 18 args h K :=
  can_of2 (n := 30) mixed Try.func18 rfl (by kernel_rfl) (by rw [hl]; kernel_rfl) rfl (by kernel_rfl) s
/-! ### naskh.naskhlaw05.IndexTells: function 4 -/
def r4_0 : List PS := [.mk (some 6) (.assign (.const (.bool false))) none]
def r4_1 : List PS := [.mk (some 26) (.move (.tmp 0)) none,
  .mk (some 27) (.call ⟨(.value (.func 6)), #[(.tmp 26)], #[22]⟩) none,
  .mk (some 28) (.unOp .not 4 (.tmp 27)) none]
def r4_2 : List PS := [.mk (some 29) (.call ⟨(.value (.func 7)), #[], #[]⟩) none,
  .mk (some 6) (.assign (.tmp 29)) none]
def r4_3 : List PS := [.mk (some 30) (.move (.tmp 0)) none,
  .mk (some 31) (.call ⟨(.value (.func 12)), #[(.tmp 30)], #[22]⟩) none,
  .mk (some 7) (.assign (.tmp 31)) none]
def r4_4 : List PS := [.mk (some 33) (.move (.tmp 0)) none,
  .mk (some 34) (.call ⟨(.value (.func 8)), #[(.tmp 33)], #[22]⟩) none,
  .mk (some 32) (.move (.tmp 34)) none,
  .mk (some 35) (.extract (.tmp 32) 0) none,
  .mk (some 36) (.extract (.tmp 32) 1) none,
  .mk (some 8) (.assign (.tmp 35)) none,
  .mk (some 9) (.assign (.tmp 36)) none]
def r4_5 : List PS := [.mk (some 38) (.move (.tmp 0)) none,
  .mk (some 39) (.call ⟨(.value (.func 13)), #[(.tmp 38)], #[22]⟩) none,
  .mk (some 37) (.move (.tmp 39)) none,
  .mk (some 40) (.extract (.tmp 37) 0) none,
  .mk (some 41) (.extract (.tmp 37) 1) none,
  .mk (some 10) (.assign (.tmp 40)) none,
  .mk (some 11) (.assign (.tmp 41)) none]
def r4_6 : List PS := [.mk (some 42) (.move (.tmp 9)) none,
  .mk (some 43) (.move (.tmp 11)) none,
  .mk (some 44) (.binOp .neq 26 (.tmp 42) (.tmp 43) 26) none,
  .mk (some 45) (.move (.tmp 44)) none,
  .mk (some 46) (.move (.tmp 8)) (some (45, false)),
  .mk (some 47) (.binOp .eql 25 (.tmp 46) (.const (.pointer none)) 25) (some (45, false)),
  .mk (some 48) (.move (.tmp 10)) (some (45, false)),
  .mk (some 49) (.binOp .eql 37 (.tmp 48) (.const (.pointer none)) 37) (some (45, false)),
  .mk (some 50) (.binOp .neq 4 (.tmp 47) (.tmp 49) 4) (some (45, false)),
  .mk (some 51) (.pick (.tmp 45) (.const (.bool true)) (.tmp 50)) none,
  .mk (some 52) (.move (.tmp 51)) none,
  .mk (some 53) (.move (.tmp 0)) (some (52, false)),
  .mk (some 54) (.move (.tmp 7)) (some (52, false)),
  .mk (some 55) (.call ⟨(.value (.func 14)), #[(.tmp 53), (.tmp 54)], #[22, 22]⟩) (some (52, false)),
  .mk (some 56) (.unOp .not 4 (.tmp 55)) (some (52, false)),
  .mk (some 57) (.pick (.tmp 52) (.const (.bool true)) (.tmp 56)) none]
def r4_7 : List PS := [.mk (some 6) (.assign (.const (.bool false))) none]
def r4_8 : List PS := [.mk (some 58) (.move (.tmp 10)) none,
  .mk (some 59) (.binOp .eql 37 (.tmp 58) (.const (.pointer none)) 37) none]
def r4_9 : List PS := [.mk (some 60) (.call ⟨(.value (.func 7)), #[], #[]⟩) none,
  .mk (some 6) (.assign (.tmp 60)) none]
def r4_10 : List PS := [.mk (some 62) (.move (.tmp 8)) none,
  .mk (some 63) (.move (.tmp 1)) none,
  .mk (some 64) (.call ⟨(.value (.func 9)), #[(.tmp 62), (.tmp 63)], #[25, 3]⟩) none,
  .mk (some 61) (.move (.tmp 64)) none,
  .mk (some 65) (.extract (.tmp 61) 0) none,
  .mk (some 66) (.extract (.tmp 61) 1) none,
  .mk (some 12) (.alloc 30) none,
  .mk none (.store 30 (.tmp 12) (.tmp 65)) none,
  .frz 12,
  .mk (some 13) (.assign (.tmp 66)) none]
def r4_11 : List PS := [.mk (some 68) (.move (.tmp 10)) none,
  .mk (some 69) (.move (.tmp 1)) none,
  .mk (some 70) (.call ⟨(.value (.func 15)), #[(.tmp 68), (.tmp 69)], #[37, 3]⟩) none,
  .mk (some 67) (.move (.tmp 70)) none,
  .mk (some 71) (.extract (.tmp 67) 0) none,
  .mk (some 72) (.extract (.tmp 67) 1) none,
  .mk (some 14) (.alloc 30) none,
  .mk none (.store 30 (.tmp 14) (.tmp 71)) none,
  .frz 14,
  .mk (some 15) (.assign (.tmp 72)) none]
def r4_12 : List PS := [.mk (some 74) (.move (.tmp 8)) none,
  .mk (some 75) (.move (.tmp 2)) none,
  .mk (some 76) (.call ⟨(.value (.func 10)), #[(.tmp 74), (.tmp 75)], #[25, 3]⟩) none,
  .mk (some 73) (.move (.tmp 76)) none,
  .mk (some 77) (.extract (.tmp 73) 0) none,
  .mk (some 78) (.extract (.tmp 73) 1) none,
  .mk (some 79) (.extract (.tmp 73) 2) none,
  .mk (some 16) (.assign (.tmp 77)) none,
  .mk (some 17) (.assign (.tmp 78)) none,
  .mk (some 18) (.assign (.tmp 79)) none]
def r4_13 : List PS := [.mk (some 81) (.move (.tmp 10)) none,
  .mk (some 82) (.move (.tmp 2)) none,
  .mk (some 83) (.call ⟨(.value (.func 16)), #[(.tmp 81), (.tmp 82)], #[37, 3]⟩) none,
  .mk (some 80) (.move (.tmp 83)) none,
  .mk (some 84) (.extract (.tmp 80) 0) none,
  .mk (some 85) (.extract (.tmp 80) 1) none,
  .mk (some 86) (.extract (.tmp 80) 2) none,
  .mk (some 19) (.assign (.tmp 84)) none,
  .mk (some 20) (.assign (.tmp 85)) none,
  .mk (some 21) (.assign (.tmp 86)) none]
def r4_14 : List PS := [.mk (some 88) (.move (.tmp 8)) none,
  .mk (some 89) (.move (.tmp 2)) none,
  .mk (some 90) (.call ⟨(.value (.func 17)), #[(.tmp 88), (.tmp 89)], #[25, 3]⟩) none,
  .mk (some 87) (.move (.tmp 90)) none,
  .mk (some 91) (.extract (.tmp 87) 0) none,
  .mk (some 92) (.extract (.tmp 87) 1) none,
  .mk (some 22) (.assign (.tmp 91)) none,
  .mk (some 23) (.assign (.tmp 92)) none]
def r4_15 : List PS := [.mk (some 94) (.move (.tmp 10)) none,
  .mk (some 95) (.move (.tmp 2)) none,
  .mk (some 96) (.call ⟨(.value (.func 18)), #[(.tmp 94), (.tmp 95)], #[37, 3]⟩) none,
  .mk (some 93) (.move (.tmp 96)) none,
  .mk (some 97) (.extract (.tmp 93) 0) none,
  .mk (some 98) (.extract (.tmp 93) 1) none,
  .mk (some 24) (.assign (.tmp 97)) none,
  .mk (some 25) (.assign (.tmp 98)) none]
def r4_16 : List PS := [.mk (some 99) (.move (.tmp 8)) none,
  .mk (some 100) (.call ⟨(.value (.func 19)), #[(.tmp 99)], #[25]⟩) none,
  .mk (some 101) (.move (.tmp 10)) none,
  .mk (some 102) (.call ⟨(.value (.func 20)), #[(.tmp 101)], #[37]⟩) none,
  .mk (some 103) (.binOp .eql 3 (.tmp 100) (.tmp 102) 3) none,
  .mk (some 104) (.move (.tmp 103)) none,
  .mk (some 105) (.move (.tmp 8)) (some (104, true)),
  .mk (some 106) (.call ⟨(.value (.func 11)), #[(.tmp 105)], #[25]⟩) (some (104, true)),
  .mk (some 107) (.move (.tmp 10)) (some (104, true)),
  .mk (some 108) (.call ⟨(.value (.func 21)), #[(.tmp 107)], #[37]⟩) (some (104, true)),
  .mk (some 109) (.binOp .eql 3 (.tmp 106) (.tmp 108) 3) (some (104, true)),
  .mk (some 110) (.pick (.tmp 104) (.tmp 109) (.const (.bool false))) none,
  .mk (some 111) (.move (.tmp 110)) none,
  .mk (some 112) (.load 30 (.tmp 12)) (some (111, true)),
  .mk (some 113) (.load 30 (.tmp 14)) (some (111, true)),
  .mk (some 114) (.binOp .eql 30 (.tmp 112) (.tmp 113) 30) (some (111, true)),
  .mk (some 115) (.pick (.tmp 111) (.tmp 114) (.const (.bool false))) none,
  .mk (some 116) (.move (.tmp 115)) none,
  .mk (some 117) (.move (.tmp 13)) (some (116, true)),
  .mk (some 118) (.move (.tmp 15)) (some (116, true)),
  .mk (some 119) (.binOp .eql 26 (.tmp 117) (.tmp 118) 26) (some (116, true)),
  .mk (some 120) (.pick (.tmp 116) (.tmp 119) (.const (.bool false))) none,
  .mk (some 121) (.move (.tmp 120)) none,
  .mk (some 122) (.move (.tmp 16)) (some (121, true)),
  .mk (some 123) (.move (.tmp 19)) (some (121, true)),
  .mk (some 124) (.binOp .eql 3 (.tmp 122) (.tmp 123) 3) (some (121, true)),
  .mk (some 125) (.pick (.tmp 121) (.tmp 124) (.const (.bool false))) none,
  .mk (some 126) (.move (.tmp 125)) none,
  .mk (some 127) (.move (.tmp 17)) (some (126, true)),
  .mk (some 128) (.move (.tmp 20)) (some (126, true)),
  .mk (some 129) (.binOp .eql 3 (.tmp 127) (.tmp 128) 3) (some (126, true)),
  .mk (some 130) (.pick (.tmp 126) (.tmp 129) (.const (.bool false))) none,
  .mk (some 131) (.move (.tmp 130)) none,
  .mk (some 132) (.move (.tmp 18)) (some (131, true)),
  .mk (some 133) (.move (.tmp 21)) (some (131, true)),
  .mk (some 134) (.binOp .eql 26 (.tmp 132) (.tmp 133) 26) (some (131, true)),
  .mk (some 135) (.pick (.tmp 131) (.tmp 134) (.const (.bool false))) none,
  .mk (some 136) (.move (.tmp 135)) none,
  .mk (some 137) (.move (.tmp 22)) (some (136, true)),
  .mk (some 138) (.move (.tmp 24)) (some (136, true)),
  .mk (some 139) (.binOp .eql 3 (.tmp 137) (.tmp 138) 3) (some (136, true)),
  .mk (some 140) (.pick (.tmp 136) (.tmp 139) (.const (.bool false))) none,
  .mk (some 141) (.move (.tmp 140)) none,
  .mk (some 142) (.move (.tmp 23)) (some (141, true)),
  .mk (some 143) (.move (.tmp 25)) (some (141, true)),
  .mk (some 144) (.binOp .eql 26 (.tmp 142) (.tmp 143) 26) (some (141, true)),
  .mk (some 145) (.pick (.tmp 141) (.tmp 144) (.const (.bool false))) none,
  .mk (some 146) (.move (.tmp 145)) none,
  .mk (some 147) (.call ⟨(.value (.func 7)), #[], #[]⟩) (some (146, true)),
  .mk (some 148) (.pick (.tmp 146) (.tmp 147) (.const (.bool false))) none,
  .mk (some 6) (.assign (.tmp 148)) none]
def c4 : PC := (.seq (.reg false r4_0) (.seq (.seq (.reg false r4_1) (.cond (.tmp 28) (.seq (.reg false r4_2) .ret) .skip)) (.seq (.reg false r4_3) (.seq (.reg false r4_4) (.seq (.reg false r4_5) (.seq (.seq (.reg false r4_6) (.cond (.tmp 57) (.seq (.reg false r4_7) .ret) .skip)) (.seq (.seq (.reg false r4_8) (.cond (.tmp 59) (.seq (.reg false r4_9) .ret) .skip)) (.seq (.reg false r4_10) (.seq (.reg false r4_11) (.seq (.reg false r4_12) (.seq (.reg false r4_13) (.seq (.reg false r4_14) (.seq (.reg false r4_15) (.seq (.reg false r4_16) .ret))))))))))))))
theorem e4 {args : List PV} {h : Heap} {K : PV → Heap → Prop} (hl : args.length = 3) (s : pwp Try.prog [12, 14] c4 (fin Try.prog [.tmp 6] h K) (slots0 (olds args)) h) : CanP Try.prog 4 args h K :=
  can_of2 (n := 149) mixed Try.func4 rfl (by kernel_rfl) (by rw [hl]; kernel_rfl) rfl (by kernel_rfl) s
/-! ### naskh.cluster.sides: function 36 -/
def r36_0 : List PS := [.mk (some 2) (.assign (.const (.slice none 0 0))) none,
  .mk (some 3) (.assign (.const (.slice none 0 0))) none]
def r36_1 : List PS := [.mk (some 8) (.move (.tmp 0)) none,
  .mk (some 9) (.call ⟨(.builtin .len), #[(.tmp 8)], #[44]⟩) none,
  .mk (some 10) (.makeSlice 65 (.const (.int .i64 0)) (.tmp 9)) none,
  .mk (some 11) (.move (.tmp 0)) none,
  .mk (some 12) (.call ⟨(.builtin .len), #[(.tmp 11)], #[44]⟩) none,
  .mk (some 13) (.makeSlice 65 (.const (.int .i64 0)) (.tmp 12)) none,
  .mk (some 4) (.assign (.tmp 10)) none,
  .mk (some 5) (.assign (.tmp 13)) none]
def r36_2 : List PS := [.mk (some 14) (.move (.tmp 0)) none,
  .mk (some 15) (.call ⟨(.builtin .len), #[(.tmp 14)], #[44]⟩) none,
  .mk (some 16) (.move (.const (.int .i64 0))) none]
def r36_3 : List PS := [.mk (some 17) (.binOp .lss 3 (.tmp 16) (.tmp 15) 3) none]
def r36_4 : List PS := [.mk (some 18) (.indexAddr 44 (.tmp 14) (.tmp 16)) none,
  .mk (some 19) (.load 50 (.tmp 18)) none,
  .mk (some 7) (.alloc 50) none,
  .mk none (.store 50 (.tmp 7) (.tmp 19)) none,
  .frz 7]
def r36_5 : List PS := [.mk (some 20) (.move (.tmp 4)) none,
  .mk (some 21) (.fieldAddr 50 (.tmp 7) 0) none,
  .mk (some 22) (.load 30 (.tmp 21)) none,
  .mk (some 23) (.buildSlice 65 1 #[(0, (.tmp 22))]) none,
  .mk (some 24) (.call ⟨(.builtin .append), #[(.tmp 20), (.tmp 23)], #[65, 65]⟩) none,
  .mk (some 25) (.move (.tmp 5)) none,
  .mk (some 26) (.fieldAddr 50 (.tmp 7) 1) none,
  .mk (some 27) (.load 30 (.tmp 26)) none,
  .mk (some 28) (.buildSlice 65 1 #[(0, (.tmp 27))]) none,
  .mk (some 29) (.call ⟨(.builtin .append), #[(.tmp 25), (.tmp 28)], #[65, 65]⟩) none,
  .mk (some 4) (.assign (.tmp 24)) none,
  .mk (some 5) (.assign (.tmp 29)) none]
def r36_6 : List PS := [.mk (some 30) (.binOp .add 3 (.tmp 16) (.const (.int .i64 1)) 3) none,
  .mk (some 16) (.move (.tmp 30)) none]
def r36_7 : List PS := [.mk (some 31) (.move (.tmp 4)) none,
  .mk (some 32) (.move (.tmp 5)) none,
  .mk (some 2) (.assign (.tmp 31)) none,
  .mk (some 3) (.assign (.tmp 32)) none]
def c36 : PC := (.seq (.reg false r36_0) (.seq (.reg true r36_1) (.seq (.seq (.reg false r36_2) (.block 0 (.loop (.seq (.reg false r36_3) (.seq (.cond (.tmp 17) .skip (.exit 0)) (.seq (.block 1 (.seq (.reg false r36_4) (.reg true r36_5))) (.reg false r36_6))))))) (.seq (.reg false r36_7) .ret))))
theorem e36 {args : List PV} {h : Heap} {K : PV → Heap → Prop} (hl : args.length = 1) (s : pwp Try.prog [7, 27] c36 (fin Try.prog [.tmp 2, .tmp 3] h K) (slots0 (olds args)) h) : CanP Try.prog 36 args h K :=
  can_of2 (n := 33) mixed Try.func36 rfl (by kernel_rfl) (by rw [hl]; kernel_rfl) rfl (by kernel_rfl) s
/-! ### slices.insertionSortCmpFunc[naskh.api.Span]: function 48 -/
def r48_0 : List PS := [.mk (some 10) (.move (.tmp 1)) none,
  .mk (some 11) (.binOp .add 3 (.tmp 10) (.const (.int .i64 1)) 3) none,
  .mk (some 8) (.assign (.tmp 11)) none]
def r48_1 : List PS := [.mk (some 12) (.move (.tmp 8)) none,
  .mk (some 13) (.move (.tmp 2)) none,
  .mk (some 14) (.binOp .lss 3 (.tmp 12) (.tmp 13) 3) none]
def r48_2 : List PS := [.mk (some 17) (.move (.tmp 8)) none,
  .mk (some 9) (.assign (.tmp 17)) none]
def r48_3 : List PS := [.mk (some 18) (.move (.tmp 9)) none,
  .mk (some 19) (.move (.tmp 1)) none,
  .mk (some 20) (.binOp .gtr 3 (.tmp 18) (.tmp 19) 3) none,
  .mk (some 21) (.move (.tmp 20)) none,
  .mk (some 22) (.move (.tmp 3)) (some (21, true)),
  .mk (some 23) (.move (.tmp 0)) (some (21, true)),
  .mk (some 24) (.move (.tmp 9)) (some (21, true)),
  .mk (some 25) (.indexAddr 65 (.tmp 23) (.tmp 24)) (some (21, true)),
  .mk (some 26) (.load 30 (.tmp 25)) (some (21, true)),
  .mk (some 27) (.move (.tmp 0)) (some (21, true)),
  .mk (some 28) (.move (.tmp 9)) (some (21, true)),
  .mk (some 29) (.binOp .sub 3 (.tmp 28) (.const (.int .i64 1)) 3) (some (21, true)),
  .mk (some 30) (.indexAddr 65 (.tmp 27) (.tmp 29)) (some (21, true)),
  .mk (some 31) (.load 30 (.tmp 30)) (some (21, true)),
  .mk (some 32) (.call ⟨(.value (.tmp 22)), #[(.tmp 26), (.tmp 31)], #[30, 30]⟩) (some (21, true)),
  .mk (some 33) (.binOp .lss 3 (.tmp 32) (.const (.int .i64 0)) 3) (some (21, true)),
  .mk (some 34) (.pick (.tmp 21) (.tmp 33) (.const (.bool false))) none]
def r48_4 : List PS := [.mk (some 37) (.move (.tmp 0)) none,
  .mk (some 38) (.move (.tmp 9)) none,
  .mk (some 39) (.move (.tmp 0)) none,
  .mk (some 40) (.move (.tmp 9)) none,
  .mk (some 41) (.binOp .sub 3 (.tmp 40) (.const (.int .i64 1)) 3) none,
  .mk (some 42) (.move (.tmp 0)) none,
  .mk (some 43) (.move (.tmp 9)) none,
  .mk (some 44) (.binOp .sub 3 (.tmp 43) (.const (.int .i64 1)) 3) none,
  .mk (some 45) (.indexAddr 65 (.tmp 42) (.tmp 44)) none,
  .mk (some 46) (.load 30 (.tmp 45)) none,
  .mk (some 47) (.move (.tmp 0)) none,
  .mk (some 48) (.move (.tmp 9)) none,
  .mk (some 49) (.indexAddr 65 (.tmp 47) (.tmp 48)) none,
  .mk (some 50) (.load 30 (.tmp 49)) none,
  .mk (some 51) (.indexAddr 65 (.tmp 37) (.tmp 38)) none,
  .mk none (.store 30 (.tmp 51) (.tmp 46)) none,
  .mk (some 52) (.indexAddr 65 (.tmp 39) (.tmp 41)) none,
  .mk none (.store 30 (.tmp 52) (.tmp 50)) none]
def r48_5 : List PS := [.mk (some 35) (.move (.tmp 9)) none,
  .mk (some 36) (.binOp .sub 3 (.tmp 35) (.const (.int .i64 1)) 3) none,
  .mk (some 9) (.assign (.tmp 36)) none]
def r48_6 : List PS := [.mk (some 15) (.move (.tmp 8)) none,
  .mk (some 16) (.binOp .add 3 (.tmp 15) (.const (.int .i64 1)) 3) none,
  .mk (some 8) (.assign (.tmp 16)) none]
def c48 : PC := (.seq (.reg false r48_0) (.block 0 (.loop (.seq (.seq (.reg false r48_1) (.cond (.tmp 14) .skip (.exit 0))) (.seq (.block 1 (.seq (.reg false r48_2) (.block 2 (.loop (.seq (.seq (.reg true r48_3) (.cond (.tmp 34) .skip (.exit 2))) (.seq (.block 3 (.reg true r48_4)) (.reg false r48_5))))))) (.reg false r48_6))))))
theorem e48 {args : List PV} {h : Heap} {K : PV → Heap → Prop} (hl : args.length = 4) (s : pwp Try.prog [] c48 (fin Try.prog [] h K) (slots0 (olds args)) h) : CanP Try.prog 48 args h K :=
  can_of2 (n := 53) mixed Try.func48 rfl (by kernel_rfl) (by rw [hl]; kernel_rfl) rfl (by kernel_rfl) s
/-! ### slices.swapRangeCmpFunc[naskh.api.Span]: function 51 -/
def r51_0 : List PS := [.mk (some 10) (.assign (.const (.int .i64 0))) none]
def r51_1 : List PS := [.mk (some 11) (.move (.tmp 10)) none,
  .mk (some 12) (.move (.tmp 3)) none,
  .mk (some 13) (.binOp .lss 3 (.tmp 11) (.tmp 12) 3) none]
def r51_2 : List PS := [.mk (some 16) (.move (.tmp 0)) none,
  .mk (some 17) (.move (.tmp 1)) none,
  .mk (some 18) (.move (.tmp 10)) none,
  .mk (some 19) (.binOp .add 3 (.tmp 17) (.tmp 18) 3) none,
  .mk (some 20) (.move (.tmp 0)) none,
  .mk (some 21) (.move (.tmp 2)) none,
  .mk (some 22) (.move (.tmp 10)) none,
  .mk (some 23) (.binOp .add 3 (.tmp 21) (.tmp 22) 3) none,
  .mk (some 24) (.move (.tmp 0)) none,
  .mk (some 25) (.move (.tmp 2)) none,
  .mk (some 26) (.move (.tmp 10)) none,
  .mk (some 27) (.binOp .add 3 (.tmp 25) (.tmp 26) 3) none,
  .mk (some 28) (.indexAddr 65 (.tmp 24) (.tmp 27)) none,
  .mk (some 29) (.load 30 (.tmp 28)) none,
  .mk (some 30) (.move (.tmp 0)) none,
  .mk (some 31) (.move (.tmp 1)) none,
  .mk (some 32) (.move (.tmp 10)) none,
  .mk (some 33) (.binOp .add 3 (.tmp 31) (.tmp 32) 3) none,
  .mk (some 34) (.indexAddr 65 (.tmp 30) (.tmp 33)) none,
  .mk (some 35) (.load 30 (.tmp 34)) none,
  .mk (some 36) (.indexAddr 65 (.tmp 16) (.tmp 19)) none,
  .mk none (.store 30 (.tmp 36) (.tmp 29)) none,
  .mk (some 37) (.indexAddr 65 (.tmp 20) (.tmp 23)) none,
  .mk none (.store 30 (.tmp 37) (.tmp 35)) none]
def r51_3 : List PS := [.mk (some 14) (.move (.tmp 10)) none,
  .mk (some 15) (.binOp .add 3 (.tmp 14) (.const (.int .i64 1)) 3) none,
  .mk (some 10) (.assign (.tmp 15)) none]
def c51 : PC := (.seq (.reg false r51_0) (.block 0 (.loop (.seq (.seq (.reg false r51_1) (.cond (.tmp 13) .skip (.exit 0))) (.seq (.block 1 (.reg true r51_2)) (.reg false r51_3))))))
theorem e51 {args : List PV} {h : Heap} {K : PV → Heap → Prop} (hl : args.length = 5) (s : pwp Try.prog [] c51 (fin Try.prog [] h K) (slots0 (olds args)) h) : CanP Try.prog 51 args h K :=
  can_of2 (n := 38) mixed Try.func51 rfl (by kernel_rfl) (by rw [hl]; kernel_rfl) rfl (by kernel_rfl) s
/-! ### slices.rotateCmpFunc[naskh.api.Span]: function 50 -/
def r50_0 : List PS := [.mk (some 12) (.move (.tmp 2)) none,
  .mk (some 13) (.move (.tmp 1)) none,
  .mk (some 14) (.binOp .sub 3 (.tmp 12) (.tmp 13) 3) none,
  .mk (some 10) (.assign (.tmp 14)) none]
def r50_1 : List PS := [.mk (some 15) (.move (.tmp 3)) none,
  .mk (some 16) (.move (.tmp 2)) none,
  .mk (some 17) (.binOp .sub 3 (.tmp 15) (.tmp 16) 3) none,
  .mk (some 11) (.assign (.tmp 17)) none]
def r50_2 : List PS := [.mk (some 18) (.move (.tmp 10)) none,
  .mk (some 19) (.move (.tmp 11)) none,
  .mk (some 20) (.binOp .neq 3 (.tmp 18) (.tmp 19) 3) none]
def r50_3 : List PS := [.mk (some 21) (.move (.tmp 10)) none,
  .mk (some 22) (.move (.tmp 11)) none,
  .mk (some 23) (.binOp .gtr 3 (.tmp 21) (.tmp 22) 3) none]
def r50_4 : List PS := [.mk (some 24) (.move (.tmp 0)) none,
  .mk (some 25) (.move (.tmp 2)) none,
  .mk (some 26) (.move (.tmp 10)) none,
  .mk (some 27) (.binOp .sub 3 (.tmp 25) (.tmp 26) 3) none,
  .mk (some 28) (.move (.tmp 2)) none,
  .mk (some 29) (.move (.tmp 11)) none,
  .mk (some 30) (.move (.tmp 4)) none,
  .mk (some 31) (.call ⟨(.value (.func 51)), #[(.tmp 24), (.tmp 27), (.tmp 28), (.tmp 29), (.tmp 30)], #[65, 3, 3, 3, 69]⟩) none]
def r50_5 : List PS := [.mk (some 32) (.move (.tmp 10)) none,
  .mk (some 33) (.move (.tmp 11)) none,
  .mk (some 34) (.binOp .sub 3 (.tmp 32) (.tmp 33) 3) none,
  .mk (some 10) (.assign (.tmp 34)) none]
def r50_6 : List PS := [.mk (some 35) (.move (.tmp 0)) none,
  .mk (some 36) (.move (.tmp 2)) none,
  .mk (some 37) (.move (.tmp 10)) none,
  .mk (some 38) (.binOp .sub 3 (.tmp 36) (.tmp 37) 3) none,
  .mk (some 39) (.move (.tmp 2)) none,
  .mk (some 40) (.move (.tmp 11)) none,
  .mk (some 41) (.binOp .add 3 (.tmp 39) (.tmp 40) 3) none,
  .mk (some 42) (.move (.tmp 10)) none,
  .mk (some 43) (.binOp .sub 3 (.tmp 41) (.tmp 42) 3) none,
  .mk (some 44) (.move (.tmp 10)) none,
  .mk (some 45) (.move (.tmp 4)) none,
  .mk (some 46) (.call ⟨(.value (.func 51)), #[(.tmp 35), (.tmp 38), (.tmp 43), (.tmp 44), (.tmp 45)], #[65, 3, 3, 3, 69]⟩) none]
def r50_7 : List PS := [.mk (some 47) (.move (.tmp 11)) none,
  .mk (some 48) (.move (.tmp 10)) none,
  .mk (some 49) (.binOp .sub 3 (.tmp 47) (.tmp 48) 3) none,
  .mk (some 11) (.assign (.tmp 49)) none]
def r50_8 : List PS := [.mk (some 50) (.move (.tmp 0)) none,
  .mk (some 51) (.move (.tmp 2)) none,
  .mk (some 52) (.move (.tmp 10)) none,
  .mk (some 53) (.binOp .sub 3 (.tmp 51) (.tmp 52) 3) none,
  .mk (some 54) (.move (.tmp 2)) none,
  .mk (some 55) (.move (.tmp 10)) none,
  .mk (some 56) (.move (.tmp 4)) none,
  .mk (some 57) (.call ⟨(.value (.func 51)), #[(.tmp 50), (.tmp 53), (.tmp 54), (.tmp 55), (.tmp 56)], #[65, 3, 3, 3, 69]⟩) none]
def c50 : PC := (.seq (.reg false r50_0) (.seq (.reg false r50_1) (.seq (.block 0 (.loop (.seq (.seq (.reg false r50_2) (.cond (.tmp 20) .skip (.exit 0))) (.block 1 (.seq (.reg false r50_3) (.cond (.tmp 23) (.seq (.reg false r50_4) (.reg false r50_5)) (.seq (.reg false r50_6) (.reg false r50_7)))))))) (.reg false r50_8))))
theorem e50 {args : List PV} {h : Heap} {K : PV → Heap → Prop} (hl : args.length = 5) (s : pwp Try.prog [] c50 (fin Try.prog [] h K) (slots0 (olds args)) h) : CanP Try.prog 50 args h K :=
  can_of2 (n := 58) mixed Try.func50 rfl (by kernel_rfl) (by rw [hl]; kernel_rfl) rfl (by kernel_rfl) s
/-! ### slices.symMergeCmpFunc[naskh.api.Span]: function 49 -/
def r49_0 : List PS := [.mk (some 25) (.move (.tmp 2)) none,
  .mk (some 26) (.move (.tmp 1)) none,
  .mk (some 27) (.binOp .sub 3 (.tmp 25) (.tmp 26) 3) none,
  .mk (some 28) (.binOp .eql 3 (.tmp 27) (.const (.int .i64 1)) 3) none]
def r49_1 : List PS := [.mk (some 29) (.move (.tmp 2)) none,
  .mk (some 10) (.assign (.tmp 29)) none]
def r49_2 : List PS := [.mk (some 30) (.move (.tmp 3)) none,
  .mk (some 11) (.assign (.tmp 30)) none]
def r49_3 : List PS := [.mk (some 31) (.move (.tmp 10)) none,
  .mk (some 32) (.move (.tmp 11)) none,
  .mk (some 33) (.binOp .lss 3 (.tmp 31) (.tmp 32) 3) none]
def r49_4 : List PS := [.mk (some 34) (.move (.tmp 10)) none,
  .mk (some 35) (.move (.tmp 11)) none,
  .mk (some 36) (.binOp .add 3 (.tmp 34) (.tmp 35) 3) none,
  .mk (some 37) (.convert 3 72 (.tmp 36)) none,
  .mk (some 38) (.binOp .shr 72 (.tmp 37) (.const (.int .u64 1)) 72) none,
  .mk (some 39) (.convert 72 3 (.tmp 38)) none,
  .mk (some 12) (.assign (.tmp 39)) none]
def r49_5 : List PS := [.mk (some 40) (.move (.tmp 4)) none,
  .mk (some 41) (.move (.tmp 0)) none,
  .mk (some 42) (.move (.tmp 12)) none,
  .mk (some 43) (.indexAddr 65 (.tmp 41) (.tmp 42)) none,
  .mk (some 44) (.load 30 (.tmp 43)) none,
  .mk (some 45) (.move (.tmp 0)) none,
  .mk (some 46) (.move (.tmp 1)) none,
  .mk (some 47) (.indexAddr 65 (.tmp 45) (.tmp 46)) none,
  .mk (some 48) (.load 30 (.tmp 47)) none,
  .mk (some 49) (.call ⟨(.value (.tmp 40)), #[(.tmp 44), (.tmp 48)], #[30, 30]⟩) none,
  .mk (some 50) (.binOp .lss 3 (.tmp 49) (.const (.int .i64 0)) 3) none]
def r49_6 : List PS := [.mk (some 51) (.move (.tmp 12)) none,
  .mk (some 52) (.binOp .add 3 (.tmp 51) (.const (.int .i64 1)) 3) none,
  .mk (some 10) (.assign (.tmp 52)) none]
def r49_7 : List PS := [.mk (some 53) (.move (.tmp 12)) none,
  .mk (some 11) (.assign (.tmp 53)) none]
def r49_8 : List PS := [.mk (some 54) (.move (.tmp 1)) none,
  .mk (some 13) (.assign (.tmp 54)) none]
def r49_9 : List PS := [.mk (some 55) (.move (.tmp 13)) none,
  .mk (some 56) (.move (.tmp 10)) none,
  .mk (some 57) (.binOp .sub 3 (.tmp 56) (.const (.int .i64 1)) 3) none,
  .mk (some 58) (.binOp .lss 3 (.tmp 55) (.tmp 57) 3) none]
def r49_10 : List PS := [.mk (some 61) (.move (.tmp 0)) none,
  .mk (some 62) (.move (.tmp 13)) none,
  .mk (some 63) (.move (.tmp 0)) none,
  .mk (some 64) (.move (.tmp 13)) none,
  .mk (some 65) (.binOp .add 3 (.tmp 64) (.const (.int .i64 1)) 3) none,
  .mk (some 66) (.move (.tmp 0)) none,
  .mk (some 67) (.move (.tmp 13)) none,
  .mk (some 68) (.binOp .add 3 (.tmp 67) (.const (.int .i64 1)) 3) none,
  .mk (some 69) (.indexAddr 65 (.tmp 66) (.tmp 68)) none,
  .mk (some 70) (.load 30 (.tmp 69)) none,
  .mk (some 71) (.move (.tmp 0)) none,
  .mk (some 72) (.move (.tmp 13)) none,
  .mk (some 73) (.indexAddr 65 (.tmp 71) (.tmp 72)) none,
  .mk (some 74) (.load 30 (.tmp 73)) none,
  .mk (some 75) (.indexAddr 65 (.tmp 61) (.tmp 62)) none,
  .mk none (.store 30 (.tmp 75) (.tmp 70)) none,
  .mk (some 76) (.indexAddr 65 (.tmp 63) (.tmp 65)) none,
  .mk none (.store 30 (.tmp 76) (.tmp 74)) none]
def r49_11 : List PS := [.mk (some 59) (.move (.tmp 13)) none,
  .mk (some 60) (.binOp .add 3 (.tmp 59) (.const (.int .i64 1)) 3) none,
  .mk (some 13) (.assign (.tmp 60)) none]
def r49_12 : List PS := [.mk (some 77) (.move (.tmp 3)) none,
  .mk (some 78) (.move (.tmp 2)) none,
  .mk (some 79) (.binOp .sub 3 (.tmp 77) (.tmp 78) 3) none,
  .mk (some 80) (.binOp .eql 3 (.tmp 79) (.const (.int .i64 1)) 3) none]
def r49_13 : List PS := [.mk (some 81) (.move (.tmp 1)) none,
  .mk (some 14) (.assign (.tmp 81)) none]
def r49_14 : List PS := [.mk (some 82) (.move (.tmp 2)) none,
  .mk (some 15) (.assign (.tmp 82)) none]
def r49_15 : List PS := [.mk (some 83) (.move (.tmp 14)) none,
  .mk (some 84) (.move (.tmp 15)) none,
  .mk (some 85) (.binOp .lss 3 (.tmp 83) (.tmp 84) 3) none]
def r49_16 : List PS := [.mk (some 86) (.move (.tmp 14)) none,
  .mk (some 87) (.move (.tmp 15)) none,
  .mk (some 88) (.binOp .add 3 (.tmp 86) (.tmp 87) 3) none,
  .mk (some 89) (.convert 3 72 (.tmp 88)) none,
  .mk (some 90) (.binOp .shr 72 (.tmp 89) (.const (.int .u64 1)) 72) none,
  .mk (some 91) (.convert 72 3 (.tmp 90)) none,
  .mk (some 16) (.assign (.tmp 91)) none]
def r49_17 : List PS := [.mk (some 92) (.move (.tmp 4)) none,
  .mk (some 93) (.move (.tmp 0)) none,
  .mk (some 94) (.move (.tmp 2)) none,
  .mk (some 95) (.indexAddr 65 (.tmp 93) (.tmp 94)) none,
  .mk (some 96) (.load 30 (.tmp 95)) none,
  .mk (some 97) (.move (.tmp 0)) none,
  .mk (some 98) (.move (.tmp 16)) none,
  .mk (some 99) (.indexAddr 65 (.tmp 97) (.tmp 98)) none,
  .mk (some 100) (.load 30 (.tmp 99)) none,
  .mk (some 101) (.call ⟨(.value (.tmp 92)), #[(.tmp 96), (.tmp 100)], #[30, 30]⟩) none,
  .mk (some 102) (.binOp .lss 3 (.tmp 101) (.const (.int .i64 0)) 3) none,
  .mk (some 103) (.unOp .not 4 (.tmp 102)) none]
def r49_18 : List PS := [.mk (some 104) (.move (.tmp 16)) none,
  .mk (some 105) (.binOp .add 3 (.tmp 104) (.const (.int .i64 1)) 3) none,
  .mk (some 14) (.assign (.tmp 105)) none]
def r49_19 : List PS := [.mk (some 106) (.move (.tmp 16)) none,
  .mk (some 15) (.assign (.tmp 106)) none]
def r49_20 : List PS := [.mk (some 107) (.move (.tmp 2)) none,
  .mk (some 17) (.assign (.tmp 107)) none]
def r49_21 : List PS := [.mk (some 108) (.move (.tmp 17)) none,
  .mk (some 109) (.move (.tmp 14)) none,
  .mk (some 110) (.binOp .gtr 3 (.tmp 108) (.tmp 109) 3) none]
def r49_22 : List PS := [.mk (some 113) (.move (.tmp 0)) none,
  .mk (some 114) (.move (.tmp 17)) none,
  .mk (some 115) (.move (.tmp 0)) none,
  .mk (some 116) (.move (.tmp 17)) none,
  .mk (some 117) (.binOp .sub 3 (.tmp 116) (.const (.int .i64 1)) 3) none,
  .mk (some 118) (.move (.tmp 0)) none,
  .mk (some 119) (.move (.tmp 17)) none,
  .mk (some 120) (.binOp .sub 3 (.tmp 119) (.const (.int .i64 1)) 3) none,
  .mk (some 121) (.indexAddr 65 (.tmp 118) (.tmp 120)) none,
  .mk (some 122) (.load 30 (.tmp 121)) none,
  .mk (some 123) (.move (.tmp 0)) none,
  .mk (some 124) (.move (.tmp 17)) none,
  .mk (some 125) (.indexAddr 65 (.tmp 123) (.tmp 124)) none,
  .mk (some 126) (.load 30 (.tmp 125)) none,
  .mk (some 127) (.indexAddr 65 (.tmp 113) (.tmp 114)) none,
  .mk none (.store 30 (.tmp 127) (.tmp 122)) none,
  .mk (some 128) (.indexAddr 65 (.tmp 115) (.tmp 117)) none,
  .mk none (.store 30 (.tmp 128) (.tmp 126)) none]
def r49_23 : List PS := [.mk (some 111) (.move (.tmp 17)) none,
  .mk (some 112) (.binOp .sub 3 (.tmp 111) (.const (.int .i64 1)) 3) none,
  .mk (some 17) (.assign (.tmp 112)) none]
def r49_24 : List PS := [.mk (some 129) (.move (.tmp 1)) none,
  .mk (some 130) (.move (.tmp 3)) none,
  .mk (some 131) (.binOp .add 3 (.tmp 129) (.tmp 130) 3) none,
  .mk (some 132) (.convert 3 72 (.tmp 131)) none,
  .mk (some 133) (.binOp .shr 72 (.tmp 132) (.const (.int .u64 1)) 72) none,
  .mk (some 134) (.convert 72 3 (.tmp 133)) none,
  .mk (some 18) (.assign (.tmp 134)) none]
def r49_25 : List PS := [.mk (some 135) (.move (.tmp 18)) none,
  .mk (some 136) (.move (.tmp 2)) none,
  .mk (some 137) (.binOp .add 3 (.tmp 135) (.tmp 136) 3) none,
  .mk (some 19) (.assign (.tmp 137)) none]
def r49_26 : List PS := [.mk (some 20) (.assign (.const (.int .i64 0))) none,
  .mk (some 21) (.assign (.const (.int .i64 0))) none]
def r49_27 : List PS := [.mk (some 138) (.move (.tmp 2)) none,
  .mk (some 139) (.move (.tmp 18)) none,
  .mk (some 140) (.binOp .gtr 3 (.tmp 138) (.tmp 139) 3) none]
def r49_28 : List PS := [.mk (some 141) (.move (.tmp 19)) none,
  .mk (some 142) (.move (.tmp 3)) none,
  .mk (some 143) (.binOp .sub 3 (.tmp 141) (.tmp 142) 3) none,
  .mk (some 20) (.assign (.tmp 143)) none]
def r49_29 : List PS := [.mk (some 144) (.move (.tmp 18)) none,
  .mk (some 21) (.assign (.tmp 144)) none]
def r49_30 : List PS := [.mk (some 145) (.move (.tmp 1)) none,
  .mk (some 20) (.assign (.tmp 145)) none]
def r49_31 : List PS := [.mk (some 146) (.move (.tmp 2)) none,
  .mk (some 21) (.assign (.tmp 146)) none]
def r49_32 : List PS := [.mk (some 147) (.move (.tmp 19)) none,
  .mk (some 148) (.binOp .sub 3 (.tmp 147) (.const (.int .i64 1)) 3) none,
  .mk (some 22) (.assign (.tmp 148)) none]
def r49_33 : List PS := [.mk (some 149) (.move (.tmp 20)) none,
  .mk (some 150) (.move (.tmp 21)) none,
  .mk (some 151) (.binOp .lss 3 (.tmp 149) (.tmp 150) 3) none]
def r49_34 : List PS := [.mk (some 152) (.move (.tmp 20)) none,
  .mk (some 153) (.move (.tmp 21)) none,
  .mk (some 154) (.binOp .add 3 (.tmp 152) (.tmp 153) 3) none,
  .mk (some 155) (.convert 3 72 (.tmp 154)) none,
  .mk (some 156) (.binOp .shr 72 (.tmp 155) (.const (.int .u64 1)) 72) none,
  .mk (some 157) (.convert 72 3 (.tmp 156)) none,
  .mk (some 23) (.assign (.tmp 157)) none]
def r49_35 : List PS := [.mk (some 158) (.move (.tmp 4)) none,
  .mk (some 159) (.move (.tmp 0)) none,
  .mk (some 160) (.move (.tmp 22)) none,
  .mk (some 161) (.move (.tmp 23)) none,
  .mk (some 162) (.binOp .sub 3 (.tmp 160) (.tmp 161) 3) none,
  .mk (some 163) (.indexAddr 65 (.tmp 159) (.tmp 162)) none,
  .mk (some 164) (.load 30 (.tmp 163)) none,
  .mk (some 165) (.move (.tmp 0)) none,
  .mk (some 166) (.move (.tmp 23)) none,
  .mk (some 167) (.indexAddr 65 (.tmp 165) (.tmp 166)) none,
  .mk (some 168) (.load 30 (.tmp 167)) none,
  .mk (some 169) (.call ⟨(.value (.tmp 158)), #[(.tmp 164), (.tmp 168)], #[30, 30]⟩) none,
  .mk (some 170) (.binOp .lss 3 (.tmp 169) (.const (.int .i64 0)) 3) none,
  .mk (some 171) (.unOp .not 4 (.tmp 170)) none]
def r49_36 : List PS := [.mk (some 172) (.move (.tmp 23)) none,
  .mk (some 173) (.binOp .add 3 (.tmp 172) (.const (.int .i64 1)) 3) none,
  .mk (some 20) (.assign (.tmp 173)) none]
def r49_37 : List PS := [.mk (some 174) (.move (.tmp 23)) none,
  .mk (some 21) (.assign (.tmp 174)) none]
def r49_38 : List PS := [.mk (some 175) (.move (.tmp 19)) none,
  .mk (some 176) (.move (.tmp 20)) none,
  .mk (some 177) (.binOp .sub 3 (.tmp 175) (.tmp 176) 3) none,
  .mk (some 24) (.assign (.tmp 177)) none]
def r49_39 : List PS := [.mk (some 178) (.move (.tmp 20)) none,
  .mk (some 179) (.move (.tmp 2)) none,
  .mk (some 180) (.binOp .lss 3 (.tmp 178) (.tmp 179) 3) none,
  .mk (some 181) (.move (.tmp 180)) none,
  .mk (some 182) (.move (.tmp 2)) (some (181, true)),
  .mk (some 183) (.move (.tmp 24)) (some (181, true)),
  .mk (some 184) (.binOp .lss 3 (.tmp 182) (.tmp 183) 3) (some (181, true)),
  .mk (some 185) (.pick (.tmp 181) (.tmp 184) (.const (.bool false))) none]
def r49_40 : List PS := [.mk (some 186) (.move (.tmp 0)) none,
  .mk (some 187) (.move (.tmp 20)) none,
  .mk (some 188) (.move (.tmp 2)) none,
  .mk (some 189) (.move (.tmp 24)) none,
  .mk (some 190) (.move (.tmp 4)) none,
  .mk (some 191) (.call ⟨(.value (.func 50)), #[(.tmp 186), (.tmp 187), (.tmp 188), (.tmp 189), (.tmp 190)], #[65, 3, 3, 3, 69]⟩) none]
def r49_41 : List PS := [.mk (some 192) (.move (.tmp 1)) none,
  .mk (some 193) (.move (.tmp 20)) none,
  .mk (some 194) (.binOp .lss 3 (.tmp 192) (.tmp 193) 3) none,
  .mk (some 195) (.move (.tmp 194)) none,
  .mk (some 196) (.move (.tmp 20)) (some (195, true)),
  .mk (some 197) (.move (.tmp 18)) (some (195, true)),
  .mk (some 198) (.binOp .lss 3 (.tmp 196) (.tmp 197) 3) (some (195, true)),
  .mk (some 199) (.pick (.tmp 195) (.tmp 198) (.const (.bool false))) none]
def r49_42 : List PS := [.mk (some 200) (.move (.tmp 0)) none,
  .mk (some 201) (.move (.tmp 1)) none,
  .mk (some 202) (.move (.tmp 20)) none,
  .mk (some 203) (.move (.tmp 18)) none,
  .mk (some 204) (.move (.tmp 4)) none,
  .mk (some 205) (.call ⟨(.value (.func 49)), #[(.tmp 200), (.tmp 201), (.tmp 202), (.tmp 203), (.tmp 204)], #[65, 3, 3, 3, 69]⟩) none]
def r49_43 : List PS := [.mk (some 206) (.move (.tmp 18)) none,
  .mk (some 207) (.move (.tmp 24)) none,
  .mk (some 208) (.binOp .lss 3 (.tmp 206) (.tmp 207) 3) none,
  .mk (some 209) (.move (.tmp 208)) none,
  .mk (some 210) (.move (.tmp 24)) (some (209, true)),
  .mk (some 211) (.move (.tmp 3)) (some (209, true)),
  .mk (some 212) (.binOp .lss 3 (.tmp 210) (.tmp 211) 3) (some (209, true)),
  .mk (some 213) (.pick (.tmp 209) (.tmp 212) (.const (.bool false))) none]
def r49_44 : List PS := [.mk (some 214) (.move (.tmp 0)) none,
  .mk (some 215) (.move (.tmp 18)) none,
  .mk (some 216) (.move (.tmp 24)) none,
  .mk (some 217) (.move (.tmp 3)) none,
  .mk (some 218) (.move (.tmp 4)) none,
  .mk (some 219) (.call ⟨(.value (.func 49)), #[(.tmp 214), (.tmp 215), (.tmp 216), (.tmp 217), (.tmp 218)], #[65, 3, 3, 3, 69]⟩) none]
def c49 : PC := (.seq (.seq (.reg false r49_0) (.cond (.tmp 28) (.seq (.reg false r49_1) (.seq (.reg false r49_2) (.seq (.block 0 (.loop (.seq (.seq (.reg false r49_3) (.cond (.tmp 33) .skip (.exit 0))) (.block 1 (.seq (.reg false r49_4) (.seq (.reg true r49_5) (.cond (.tmp 50) (.reg false r49_6) (.reg false r49_7)))))))) (.seq (.seq (.reg false r49_8) (.block 2 (.loop (.seq (.seq (.reg false r49_9) (.cond (.tmp 58) .skip (.exit 2))) (.seq (.block 3 (.reg true r49_10)) (.reg false r49_11)))))) .ret)))) .skip)) (.seq (.seq (.reg false r49_12) (.cond (.tmp 80) (.seq (.reg false r49_13) (.seq (.reg false r49_14) (.seq (.block 4 (.loop (.seq (.seq (.reg false r49_15) (.cond (.tmp 85) .skip (.exit 4))) (.block 5 (.seq (.reg false r49_16) (.seq (.reg true r49_17) (.cond (.tmp 103) (.reg false r49_18) (.reg false r49_19)))))))) (.seq (.seq (.reg false r49_20) (.block 6 (.loop (.seq (.seq (.reg false r49_21) (.cond (.tmp 110) .skip (.exit 6))) (.seq (.block 7 (.reg true r49_22)) (.reg false r49_23)))))) .ret)))) .skip)) (.seq (.reg false r49_24) (.seq (.reg false r49_25) (.seq (.reg false r49_26) (.seq (.seq (.reg false r49_27) (.cond (.tmp 140) (.seq (.reg false r49_28) (.reg false r49_29)) (.seq (.reg false r49_30) (.reg false r49_31)))) (.seq (.reg false r49_32) (.seq (.block 8 (.loop (.seq (.seq (.reg false r49_33) (.cond (.tmp 151) .skip (.exit 8))) (.block 9 (.seq (.reg false r49_34) (.seq (.reg true r49_35) (.cond (.tmp 171) (.reg false r49_36) (.reg false r49_37)))))))) (.seq (.reg false r49_38) (.seq (.seq (.reg false r49_39) (.cond (.tmp 185) (.reg false r49_40) .skip)) (.seq (.seq (.reg false r49_41) (.cond (.tmp 199) (.reg false r49_42) .skip)) (.seq (.reg false r49_43) (.cond (.tmp 213) (.reg false r49_44) .skip)))))))))))))
theorem e49 {args : List PV} {h : Heap} {K : PV → Heap → Prop} (hl : args.length = 5) (s : pwp Try.prog [] c49 (fin Try.prog [] h K) (slots0 (olds args)) h) : CanP Try.prog 49 args h K :=
  can_of2 (n := 220) mixed Try.func49 rfl (by kernel_rfl) (by rw [hl]; kernel_rfl) rfl (by kernel_rfl) s
/-! ### slices.stableCmpFunc[naskh.api.Span]: function 44 -/
def r44_0 : List PS := [.mk (some 6) (.assign (.const (.int .i64 20))) none]
def r44_1 : List PS := [.mk (some 10) (.move (.tmp 6)) none,
  .mk (some 7) (.assign (.const (.int .i64 0))) none,
  .mk (some 8) (.assign (.tmp 10)) none]
def r44_2 : List PS := [.mk (some 11) (.move (.tmp 8)) none,
  .mk (some 12) (.move (.tmp 1)) none,
  .mk (some 13) (.binOp .leq 3 (.tmp 11) (.tmp 12) 3) none]
def r44_3 : List PS := [.mk (some 14) (.move (.tmp 0)) none,
  .mk (some 15) (.move (.tmp 7)) none,
  .mk (some 16) (.move (.tmp 8)) none,
  .mk (some 17) (.move (.tmp 2)) none,
  .mk (some 18) (.call ⟨(.value (.func 48)), #[(.tmp 14), (.tmp 15), (.tmp 16), (.tmp 17)], #[65, 3, 3, 69]⟩) none]
def r44_4 : List PS := [.mk (some 19) (.move (.tmp 8)) none,
  .mk (some 7) (.assign (.tmp 19)) none]
def r44_5 : List PS := [.mk (some 20) (.move (.tmp 8)) none,
  .mk (some 21) (.move (.tmp 6)) none,
  .mk (some 22) (.binOp .add 3 (.tmp 20) (.tmp 21) 3) none,
  .mk (some 8) (.assign (.tmp 22)) none]
def r44_6 : List PS := [.mk (some 23) (.move (.tmp 0)) none,
  .mk (some 24) (.move (.tmp 7)) none,
  .mk (some 25) (.move (.tmp 1)) none,
  .mk (some 26) (.move (.tmp 2)) none,
  .mk (some 27) (.call ⟨(.value (.func 48)), #[(.tmp 23), (.tmp 24), (.tmp 25), (.tmp 26)], #[65, 3, 3, 69]⟩) none]
def r44_7 : List PS := [.mk (some 28) (.move (.tmp 6)) none,
  .mk (some 29) (.move (.tmp 1)) none,
  .mk (some 30) (.binOp .lss 3 (.tmp 28) (.tmp 29) 3) none]
def r44_8 : List PS := [.mk (some 31) (.move (.tmp 6)) none,
  .mk (some 32) (.binOp .mul 3 (.const (.int .i64 2)) (.tmp 31) 3) none,
  .mk (some 7) (.assign (.const (.int .i64 0))) none,
  .mk (some 8) (.assign (.tmp 32)) none]
def r44_9 : List PS := [.mk (some 33) (.move (.tmp 8)) none,
  .mk (some 34) (.move (.tmp 1)) none,
  .mk (some 35) (.binOp .leq 3 (.tmp 33) (.tmp 34) 3) none]
def r44_10 : List PS := [.mk (some 36) (.move (.tmp 0)) none,
  .mk (some 37) (.move (.tmp 7)) none,
  .mk (some 38) (.move (.tmp 7)) none,
  .mk (some 39) (.move (.tmp 6)) none,
  .mk (some 40) (.binOp .add 3 (.tmp 38) (.tmp 39) 3) none,
  .mk (some 41) (.move (.tmp 8)) none,
  .mk (some 42) (.move (.tmp 2)) none,
  .mk (some 43) (.call ⟨(.value (.func 49)), #[(.tmp 36), (.tmp 37), (.tmp 40), (.tmp 41), (.tmp 42)], #[65, 3, 3, 3, 69]⟩) none]
def r44_11 : List PS := [.mk (some 44) (.move (.tmp 8)) none,
  .mk (some 7) (.assign (.tmp 44)) none]
def r44_12 : List PS := [.mk (some 45) (.move (.tmp 8)) none,
  .mk (some 46) (.move (.tmp 6)) none,
  .mk (some 47) (.binOp .mul 3 (.const (.int .i64 2)) (.tmp 46) 3) none,
  .mk (some 48) (.binOp .add 3 (.tmp 45) (.tmp 47) 3) none,
  .mk (some 8) (.assign (.tmp 48)) none]
def r44_13 : List PS := [.mk (some 49) (.move (.tmp 7)) none,
  .mk (some 50) (.move (.tmp 6)) none,
  .mk (some 51) (.binOp .add 3 (.tmp 49) (.tmp 50) 3) none,
  .mk (some 9) (.assign (.tmp 51)) none]
def r44_14 : List PS := [.mk (some 52) (.move (.tmp 9)) none,
  .mk (some 53) (.move (.tmp 1)) none,
  .mk (some 54) (.binOp .lss 3 (.tmp 52) (.tmp 53) 3) none]
def r44_15 : List PS := [.mk (some 55) (.move (.tmp 0)) none,
  .mk (some 56) (.move (.tmp 7)) none,
  .mk (some 57) (.move (.tmp 9)) none,
  .mk (some 58) (.move (.tmp 1)) none,
  .mk (some 59) (.move (.tmp 2)) none,
  .mk (some 60) (.call ⟨(.value (.func 49)), #[(.tmp 55), (.tmp 56), (.tmp 57), (.tmp 58), (.tmp 59)], #[65, 3, 3, 3, 69]⟩) none]
def r44_16 : List PS := [.mk (some 61) (.move (.tmp 6)) none,
  .mk (some 62) (.binOp .mul 3 (.tmp 61) (.const (.int .i64 2)) 3) none,
  .mk (some 6) (.assign (.tmp 62)) none]
def c44 : PC := (.seq (.reg false r44_0) (.seq (.reg false r44_1) (.seq (.block 0 (.loop (.seq (.seq (.reg false r44_2) (.cond (.tmp 13) .skip (.exit 0))) (.block 1 (.seq (.reg false r44_3) (.seq (.reg false r44_4) (.reg false r44_5))))))) (.seq (.reg false r44_6) (.block 2 (.loop (.seq (.seq (.reg false r44_7) (.cond (.tmp 30) .skip (.exit 2))) (.block 3 (.seq (.reg false r44_8) (.seq (.block 4 (.loop (.seq (.seq (.reg false r44_9) (.cond (.tmp 35) .skip (.exit 4))) (.block 5 (.seq (.reg false r44_10) (.seq (.reg false r44_11) (.reg false r44_12))))))) (.seq (.seq (.reg false r44_13) (.seq (.reg false r44_14) (.cond (.tmp 54) (.reg false r44_15) .skip))) (.reg false r44_16))))))))))))
theorem e44 {args : List PV} {h : Heap} {K : PV → Heap → Prop} (hl : args.length = 3) (s : pwp Try.prog [] c44 (fin Try.prog [] h K) (slots0 (olds args)) h) : CanP Try.prog 44 args h K :=
  can_of2 (n := 63) mixed Try.func44 rfl (by kernel_rfl) (by rw [hl]; kernel_rfl) rfl (by kernel_rfl) s
/-! ### slices.SortStableFunc[[]naskh.api.Span,naskh.api.Span]: function 37 -/
def r37_0 : List PS := [.mk (some 4) (.move (.tmp 0)) none,
  .mk (some 5) (.move (.tmp 0)) none,
  .mk (some 6) (.call ⟨(.builtin .len), #[(.tmp 5)], #[65]⟩) none,
  .mk (some 7) (.move (.tmp 1)) none,
  .mk (some 8) (.call ⟨(.value (.func 44)), #[(.tmp 4), (.tmp 6), (.tmp 7)], #[65, 3, 69]⟩) none]
def c37 : PC := (.reg false r37_0)
theorem e37 {args : List PV} {h : Heap} {K : PV → Heap → Prop} (hl : args.length = 2) (s : pwp Try.prog [] c37 (fin Try.prog [] h K) (slots0 (olds args)) h) : CanP Try.prog 37 args h K :=
  can_of2 (n := 9) mixed Try.func37 rfl (by kernel_rfl) (by rw [hl]; kernel_rfl) rfl (by kernel_rfl) s
/-! ### cmp.Compare[int]: function 45 -/
def r45_0 : List PS := [.mk (some 4) (.assign (.const (.int .i64 0))) none]
def r45_1 : List PS := [.mk (some 7) (.move (.tmp 0)) none,
  .mk (some 8) (.call ⟨(.value (.func 46)), #[(.tmp 7)], #[3]⟩) none,
  .mk (some 5) (.assign (.tmp 8)) none]
def r45_2 : List PS := [.mk (some 9) (.move (.tmp 1)) none,
  .mk (some 10) (.call ⟨(.value (.func 46)), #[(.tmp 9)], #[3]⟩) none,
  .mk (some 6) (.assign (.tmp 10)) none]
def r45_3 : List PS := [.mk (some 11) (.move (.tmp 5)) none]
def r45_4 : List PS := [.mk (some 12) (.move (.tmp 6)) none]
def r45_5 : List PS := [.mk (some 4) (.assign (.const (.int .i64 0))) none]
def r45_6 : List PS := [.mk (some 4) (.assign (.const (.int .i64 (-1)))) none]
def r45_7 : List PS := [.mk (some 13) (.move (.tmp 6)) none]
def r45_8 : List PS := [.mk (some 4) (.assign (.const (.int .i64 1))) none]
def r45_9 : List PS := [.mk (some 14) (.move (.tmp 0)) none,
  .mk (some 15) (.move (.tmp 1)) none,
  .mk (some 16) (.binOp .lss 3 (.tmp 14) (.tmp 15) 3) none]
def r45_10 : List PS := [.mk (some 4) (.assign (.const (.int .i64 (-1)))) none]
def r45_11 : List PS := [.mk (some 17) (.move (.tmp 0)) none,
  .mk (some 18) (.move (.tmp 1)) none,
  .mk (some 19) (.binOp .gtr 3 (.tmp 17) (.tmp 18) 3) none]
def r45_12 : List PS := [.mk (some 4) (.assign (.const (.int .i64 1))) none]
def r45_13 : List PS := [.mk (some 4) (.assign (.const (.int .i64 0))) none]
def c45 : PC := (.seq (.reg false r45_0) (.seq (.reg false r45_1) (.seq (.reg false r45_2) (.seq (.seq (.reg false r45_3) (.cond (.tmp 11) (.seq (.seq (.reg false r45_4) (.cond (.tmp 12) (.seq (.reg false r45_5) .ret) .skip)) (.seq (.reg false r45_6) .ret)) .skip)) (.seq (.seq (.reg false r45_7) (.cond (.tmp 13) (.seq (.reg false r45_8) .ret) .skip)) (.seq (.seq (.reg false r45_9) (.cond (.tmp 16) (.seq (.reg false r45_10) .ret) .skip)) (.seq (.seq (.reg false r45_11) (.cond (.tmp 19) (.seq (.reg false r45_12) .ret) .skip)) (.seq (.reg false r45_13) .ret))))))))
theorem e45 {args : List PV} {h : Heap} {K : PV → Heap → Prop} (hl : args.length = 2) (s : pwp Try.prog [] c45 (fin Try.prog [.tmp 4] h K) (slots0 (olds args)) h) : CanP Try.prog 45 args h K :=
  can_of2 (n := 20) mixed Try.func45 rfl (by kernel_rfl) (by rw [hl]; kernel_rfl) rfl (by kernel_rfl) s
/-! ### naskh.cluster.byLo: function 38 -/
def r38_0 : List PS := [.mk (some 2) (.box 30 (.tmp 0)) none,
  .mk (some 3) (.box 30 (.tmp 1)) none,
  .mk (some 4) (.assign (.const (.int .i64 0))) none]
def r38_1 : List PS := [.mk (some 5) (.fieldAddr 30 (.tmp 2) 0) none,
  .mk (some 6) (.load 3 (.tmp 5)) none,
  .mk (some 7) (.fieldAddr 30 (.tmp 3) 0) none,
  .mk (some 8) (.load 3 (.tmp 7)) none,
  .mk (some 9) (.call ⟨(.value (.func 45)), #[(.tmp 6), (.tmp 8)], #[3, 3]⟩) none,
  .mk (some 4) (.assign (.tmp 9)) none]
def c38 : PC := (.seq (.reg false r38_0) (.seq (.reg false r38_1) .ret))
theorem e38 {args : List PV} {h : Heap} {K : PV → Heap → Prop} (hl : args.length = 2) (s : pwp Try.prog [] c38 (fin Try.prog [.tmp 4] h K) (slots0 (olds args)) h) : CanP Try.prog 38 args h K :=
  can_of2 (n := 10) mixed Try.func38 rfl (by kernel_rfl) (by rw [hl]; kernel_rfl) rfl (by kernel_rfl) s
/-! ### naskh.span.Right: function 33 -/
def r33_0 : List PS := [.mk (some 1) (.box 30 (.tmp 0)) none,
  .mk (some 2) (.assign (.const (.bool false))) none]
def r33_1 : List PS := [.mk (some 3) (.fieldAddr 30 (.tmp 1) 0) none,
  .mk (some 4) (.load 3 (.tmp 3)) none,
  .mk (some 5) (.binOp .leq 3 (.const (.int .i64 0)) (.tmp 4) 3) none,
  .mk (some 6) (.move (.tmp 5)) none,
  .mk (some 7) (.fieldAddr 30 (.tmp 1) 0) (some (6, true)),
  .mk (some 8) (.load 3 (.tmp 7)) (some (6, true)),
  .mk (some 9) (.fieldAddr 30 (.tmp 1) 1) (some (6, true)),
  .mk (some 10) (.load 3 (.tmp 9)) (some (6, true)),
  .mk (some 11) (.binOp .lss 3 (.tmp 8) (.tmp 10) 3) (some (6, true)),
  .mk (some 12) (.pick (.tmp 6) (.tmp 11) (.const (.bool false))) none,
  .mk (some 2) (.assign (.tmp 12)) none]
def c33 : PC := (.seq (.reg false r33_0) (.seq (.reg false r33_1) .ret))
theorem e33 {args : List PV} {h : Heap} {K : PV → Heap → Prop} (hl : args.length = 1) (s : pwp Try.prog [] c33 (fin Try.prog [.tmp 2] h K) (slots0 (olds args)) h) : CanP Try.prog 33 args h K :=
  can_of2 (n := 13) mixed Try.func33 rfl (by kernel_rfl) (by rw [hl]; kernel_rfl) rfl (by kernel_rfl) s
/-! ### naskh.span.Parts: function 39 -/
def r39_0 : List PS := [.mk (some 4) (.assign (.const (.bool false))) none]
def r39_1 : List PS := [.mk (some 5) (.assign (.const (.int .i64 0))) none]
def r39_2 : List PS := [.mk (some 8) (.move (.tmp 0)) none,
  .mk (some 9) (.call ⟨(.builtin .len), #[(.tmp 8)], #[65]⟩) none,
  .mk (some 10) (.move (.const (.int .i64 0))) none]
def r39_3 : List PS := [.mk (some 11) (.binOp .lss 3 (.tmp 10) (.tmp 9) 3) none]
def r39_4 : List PS := [.mk (some 12) (.indexAddr 65 (.tmp 8) (.tmp 10)) none,
  .mk (some 13) (.load 30 (.tmp 12)) none,
  .mk (some 7) (.alloc 30) none,
  .mk none (.store 30 (.tmp 7) (.tmp 13)) none,
  .frz 7]
def r39_5 : List PS := [.mk (some 14) (.fieldAddr 30 (.tmp 7) 0) none,
  .mk (some 15) (.load 3 (.tmp 14)) none,
  .mk (some 16) (.move (.tmp 5)) none,
  .mk (some 17) (.binOp .neq 3 (.tmp 15) (.tmp 16) 3) none,
  .mk (some 18) (.move (.tmp 17)) none,
  .mk (some 19) (.load 30 (.tmp 7)) (some (18, false)),
  .mk (some 20) (.call ⟨(.value (.func 33)), #[(.tmp 19)], #[30]⟩) (some (18, false)),
  .mk (some 21) (.unOp .not 4 (.tmp 20)) (some (18, false)),
  .mk (some 22) (.pick (.tmp 18) (.const (.bool true)) (.tmp 21)) none]
def r39_6 : List PS := [.mk (some 4) (.assign (.const (.bool false))) none]
def r39_7 : List PS := [.mk (some 23) (.fieldAddr 30 (.tmp 7) 1) none,
  .mk (some 24) (.load 3 (.tmp 23)) none,
  .mk (some 5) (.assign (.tmp 24)) none]
def r39_8 : List PS := [.mk (some 25) (.binOp .add 3 (.tmp 10) (.const (.int .i64 1)) 3) none,
  .mk (some 10) (.move (.tmp 25)) none]
def r39_9 : List PS := [.mk (some 26) (.move (.tmp 5)) none,
  .mk (some 27) (.move (.tmp 1)) none,
  .mk (some 28) (.binOp .eql 3 (.tmp 26) (.tmp 27) 3) none,
  .mk (some 4) (.assign (.tmp 28)) none]
def c39 : PC := (.seq (.reg false r39_0) (.seq (.reg false r39_1) (.seq (.seq (.reg false r39_2) (.block 0 (.loop (.seq (.reg false r39_3) (.seq (.cond (.tmp 11) .skip (.exit 0)) (.seq (.block 1 (.seq (.reg false r39_4) (.seq (.seq (.reg false r39_5) (.cond (.tmp 22) (.seq (.reg false r39_6) .ret) .skip)) (.reg false r39_7)))) (.reg false r39_8))))))) (.seq (.reg false r39_9) .ret))))
theorem e39 {args : List PV} {h : Heap} {K : PV → Heap → Prop} (hl : args.length = 2) (s : pwp Try.prog [7] c39 (fin Try.prog [.tmp 4] h K) (slots0 (olds args)) h) : CanP Try.prog 39 args h K :=
  can_of2 (n := 29) mixed Try.func39 rfl (by kernel_rfl) (by rw [hl]; kernel_rfl) rfl (by kernel_rfl) s
/-! ### naskh.cluster.Check: function 25 -/
def r25_0 : List PS := [.mk (some 6) (.assign (.const (.bool false))) none]
def r25_1 : List PS := [.mk (some 10) (.move (.tmp 0)) none,
  .mk (some 11) (.call ⟨(.value (.func 36)), #[(.tmp 10)], #[44]⟩) none,
  .mk (some 9) (.move (.tmp 11)) none,
  .mk (some 12) (.extract (.tmp 9) 0) none,
  .mk (some 13) (.extract (.tmp 9) 1) none,
  .mk (some 7) (.assign (.tmp 12)) none,
  .mk (some 8) (.assign (.tmp 13)) none,
  .frz 7]
def r25_2 : List PS := [.mk (some 14) (.move (.tmp 8)) none,
  .mk (some 15) (.call ⟨(.value (.func 37)), #[(.tmp 14), (.func 38)], #[65, 69]⟩) none]
def r25_3 : List PS := [.frz 8,
  .mk (some 16) (.move (.tmp 7)) none,
  .mk (some 17) (.move (.tmp 1)) none,
  .mk (some 18) (.call ⟨(.value (.func 39)), #[(.tmp 16), (.tmp 17)], #[65, 3]⟩) none,
  .mk (some 19) (.move (.tmp 18)) none,
  .mk (some 20) (.move (.tmp 8)) (some (19, true)),
  .mk (some 21) (.move (.tmp 2)) (some (19, true)),
  .mk (some 22) (.call ⟨(.value (.func 39)), #[(.tmp 20), (.tmp 21)], #[65, 3]⟩) (some (19, true)),
  .mk (some 23) (.pick (.tmp 19) (.tmp 22) (.const (.bool false))) none,
  .mk (some 6) (.assign (.tmp 23)) none]
def c25 : PC := (.seq (.reg false r25_0) (.seq (.reg false r25_1) (.seq (.reg false r25_2) (.seq (.reg false r25_3) .ret))))
theorem e25 {args : List PV} {h : Heap} {K : PV → Heap → Prop} (hl : args.length = 3) (s : pwp Try.prog [] c25 (fin Try.prog [.tmp 6] h K) (slots0 (olds args)) h) : CanP Try.prog 25 args h K :=
  can_of2 (n := 24) mixed Try.func25 rfl (by kernel_rfl) (by rw [hl]; kernel_rfl) rfl (by kernel_rfl) s
/-! ### (*naskh.index.Index).Clusters: function 22 -/
def r22_0 : List PS := [.mk (some 6) (.assign (.const (.slice none 0 0))) none,
  .mk (some 7) (.assign (.const (.int .i64 0))) none]
def r22_1 : List PS := [.mk (some 11) (.move (.tmp 0)) none,
  .mk (some 12) (.call ⟨(.value (.func 28)), #[(.tmp 11)], #[25]⟩) none,
  .mk (some 13) (.unOp .not 4 (.tmp 12)) none,
  .mk (some 14) (.move (.tmp 13)) none,
  .mk (some 15) (.move (.tmp 2)) (some (14, false)),
  .mk (some 16) (.call ⟨(.value (.func 28)), #[(.tmp 15)], #[25]⟩) (some (14, false)),
  .mk (some 17) (.unOp .not 4 (.tmp 16)) (some (14, false)),
  .mk (some 18) (.pick (.tmp 14) (.const (.bool true)) (.tmp 17)) none]
def r22_2 : List PS := [.mk (some 6) (.assign (.const (.slice none 0 0))) none,
  .mk (some 7) (.assign (.const (.int .i64 1))) none]
def r22_3 : List PS := [.mk (some 19) (.move (.tmp 1)) none,
  .mk (some 20) (.move (.tmp 0)) none,
  .mk (some 21) (.nilCheck (.tmp 20)) none,
  .mk (some 22) (.fieldAddr 56 (.tmp 21) 0) none,
  .mk (some 23) (.call ⟨(.value (.func 32)), #[(.tmp 22)], #[54]⟩) none,
  .mk (some 24) (.move (.tmp 2)) none,
  .mk (some 25) (.nilCheck (.tmp 24)) none,
  .mk (some 26) (.fieldAddr 56 (.tmp 25) 0) none,
  .mk (some 27) (.call ⟨(.value (.func 32)), #[(.tmp 26)], #[54]⟩) none,
  .mk (some 28) (.call ⟨(.value (.func 25)), #[(.tmp 19), (.tmp 23), (.tmp 27)], #[44, 3, 3]⟩) none,
  .mk (some 29) (.unOp .not 4 (.tmp 28)) none]
def r22_4 : List PS := [.mk (some 6) (.assign (.const (.slice none 0 0))) none,
  .mk (some 7) (.assign (.const (.int .i64 13))) none]
def r22_5 : List PS := [.mk (some 8) (.assign (.const (.slice none 0 0))) none]
def r22_6 : List PS := [.mk (some 30) (.move (.tmp 1)) none,
  .mk (some 31) (.call ⟨(.builtin .len), #[(.tmp 30)], #[44]⟩) none,
  .mk (some 32) (.move (.const (.int .i64 0))) none]
def r22_7 : List PS := [.mk (some 33) (.binOp .lss 3 (.tmp 32) (.tmp 31) 3) none]
def r22_8 : List PS := [.mk (some 34) (.indexAddr 44 (.tmp 30) (.tmp 32)) none,
  .mk (some 35) (.load 50 (.tmp 34)) none,
  .mk (some 10) (.alloc 50) none,
  .mk none (.store 50 (.tmp 10) (.tmp 35)) none]
def r22_9 : List PS := [.mk (some 36) (.move (.tmp 0)) none,
  .mk (some 37) (.nilCheck (.tmp 36)) none,
  .mk (some 38) (.fieldAddr 56 (.tmp 37) 0) none,
  .mk (some 39) (.fieldAddr 50 (.tmp 10) 0) none,
  .mk (some 40) (.load 30 (.tmp 39)) none,
  .mk (some 41) (.call ⟨(.value (.func 26)), #[(.tmp 38), (.tmp 40)], #[54, 30]⟩) none,
  .mk (some 42) (.move (.tmp 2)) none,
  .mk (some 43) (.nilCheck (.tmp 42)) none,
  .mk (some 44) (.fieldAddr 56 (.tmp 43) 0) none,
  .mk (some 45) (.fieldAddr 50 (.tmp 10) 1) none,
  .mk (some 46) (.load 30 (.tmp 45)) none,
  .mk (some 47) (.call ⟨(.value (.func 26)), #[(.tmp 44), (.tmp 46)], #[54, 30]⟩) none,
  .mk (some 48) (.fieldAddr 50 (.tmp 10) 0) none,
  .mk none (.store 30 (.tmp 48) (.tmp 41)) none,
  .mk (some 49) (.fieldAddr 50 (.tmp 10) 1) none,
  .mk none (.store 30 (.tmp 49) (.tmp 47)) none]
def r22_10 : List PS := [.mk (some 50) (.fieldAddr 50 (.tmp 10) 0) none,
  .mk (some 51) (.load 30 (.tmp 50)) none,
  .mk (some 52) (.call ⟨(.value (.func 33)), #[(.tmp 51)], #[30]⟩) none,
  .mk (some 53) (.move (.tmp 52)) none,
  .mk (some 54) (.fieldAddr 50 (.tmp 10) 1) (some (53, true)),
  .mk (some 55) (.load 30 (.tmp 54)) (some (53, true)),
  .mk (some 56) (.call ⟨(.value (.func 33)), #[(.tmp 55)], #[30]⟩) (some (53, true)),
  .mk (some 57) (.pick (.tmp 53) (.tmp 56) (.const (.bool false))) none]
def r22_11 : List PS := [.mk (some 58) (.move (.tmp 8)) none,
  .mk (some 59) (.load 50 (.tmp 10)) none,
  .mk (some 60) (.buildSlice 44 1 #[(0, (.tmp 59))]) none,
  .mk (some 61) (.call ⟨(.builtin .append), #[(.tmp 58), (.tmp 60)], #[44, 44]⟩) none,
  .mk (some 8) (.assign (.tmp 61)) none]
def r22_12 : List PS := [.mk (some 62) (.binOp .add 3 (.tmp 32) (.const (.int .i64 1)) 3) none,
  .mk (some 32) (.move (.tmp 62)) none]
def r22_13 : List PS := [.mk (some 63) (.move (.tmp 8)) none,
  .mk (some 6) (.assign (.tmp 63)) none,
  .mk (some 7) (.assign (.const (.int .i64 0))) none]
def c22 : PC := (.seq (.reg false r22_0) (.seq (.seq (.reg false r22_1) (.cond (.tmp 18) (.seq (.reg false r22_2) .ret) .skip)) (.seq (.seq (.reg true r22_3) (.cond (.tmp 29) (.seq (.reg false r22_4) .ret) .skip)) (.seq (.reg false r22_5) (.seq (.seq (.reg false r22_6) (.block 0 (.loop (.seq (.reg false r22_7) (.seq (.cond (.tmp 33) .skip (.exit 0)) (.seq (.block 1 (.seq (.reg false r22_8) (.seq (.reg true r22_9) (.seq (.reg false r22_10) (.cond (.tmp 57) (.reg false r22_11) .skip))))) (.reg false r22_12))))))) (.seq (.reg false r22_13) .ret))))))
theorem e22 {args : List PV} {h : Heap} {K : PV → Heap → Prop} (hl : args.length = 3) (s : pwp Try.prog [10] c22 (fin Try.prog [.tmp 6, .tmp 7] h K) (slots0 (olds args)) h) : CanP Try.prog 22 args h K :=
  can_of2 (n := 64) mixed Try.func22 rfl (by kernel_rfl) (by rw [hl]; kernel_rfl) rfl (by kernel_rfl) s
/-! ### naskh.naskhref03.Right: function 47 -/
def r47_0 : List PS := [.mk (some 1) (.box 30 (.tmp 0)) none,
  .mk (some 2) (.assign (.const (.bool false))) none]
def r47_1 : List PS := [.mk (some 3) (.fieldAddr 30 (.tmp 1) 0) none,
  .mk (some 4) (.load 3 (.tmp 3)) none,
  .mk (some 5) (.binOp .geq 3 (.tmp 4) (.const (.int .i64 0)) 3) none,
  .mk (some 6) (.move (.tmp 5)) none,
  .mk (some 7) (.fieldAddr 30 (.tmp 1) 0) (some (6, true)),
  .mk (some 8) (.load 3 (.tmp 7)) (some (6, true)),
  .mk (some 9) (.fieldAddr 30 (.tmp 1) 1) (some (6, true)),
  .mk (some 10) (.load 3 (.tmp 9)) (some (6, true)),
  .mk (some 11) (.binOp .lss 3 (.tmp 8) (.tmp 10) 3) (some (6, true)),
  .mk (some 12) (.pick (.tmp 6) (.tmp 11) (.const (.bool false))) none,
  .mk (some 2) (.assign (.tmp 12)) none]
def c47 : PC := (.seq (.reg false r47_0) (.seq (.reg false r47_1) .ret))
theorem e47 {args : List PV} {h : Heap} {K : PV → Heap → Prop} (hl : args.length = 1) (s : pwp Try.prog [] c47 (fin Try.prog [.tmp 2] h K) (slots0 (olds args)) h) : CanP Try.prog 47 args h K :=
  can_of2 (n := 13) mixed Try.func47 rfl (by kernel_rfl) (by rw [hl]; kernel_rfl) rfl (by kernel_rfl) s
/-! ### naskh.naskhref03.Parts: function 42 -/
def r42_0 : List PS := [.mk (some 4) (.assign (.const (.bool false))) none]
def r42_1 : List PS := [.mk (some 5) (.assign (.const (.int .i64 0))) none]
def r42_2 : List PS := [.mk (some 6) (.assign (.const (.int .i64 0))) none]
def r42_3 : List PS := [.mk (some 7) (.move (.tmp 6)) none,
  .mk (some 8) (.move (.tmp 0)) none,
  .mk (some 9) (.call ⟨(.builtin .len), #[(.tmp 8)], #[65]⟩) none,
  .mk (some 10) (.binOp .lss 3 (.tmp 7) (.tmp 9) 3) none]
def r42_4 : List PS := [.mk (some 13) (.move (.tmp 0)) none,
  .mk (some 14) (.move (.tmp 6)) none,
  .mk (some 15) (.indexAddr 65 (.tmp 13) (.tmp 14)) none,
  .mk (some 16) (.load 30 (.tmp 15)) none,
  .mk (some 17) (.call ⟨(.value (.func 47)), #[(.tmp 16)], #[30]⟩) none,
  .mk (some 18) (.unOp .not 4 (.tmp 17)) none,
  .mk (some 19) (.move (.tmp 18)) none,
  .mk (some 20) (.move (.tmp 0)) (some (19, false)),
  .mk (some 21) (.move (.tmp 6)) (some (19, false)),
  .mk (some 22) (.indexAddr 65 (.tmp 20) (.tmp 21)) (some (19, false)),
  .mk (some 23) (.fieldAddr 30 (.tmp 22) 0) (some (19, false)),
  .mk (some 24) (.load 3 (.tmp 23)) (some (19, false)),
  .mk (some 25) (.move (.tmp 5)) (some (19, false)),
  .mk (some 26) (.binOp .neq 3 (.tmp 24) (.tmp 25) 3) (some (19, false)),
  .mk (some 27) (.pick (.tmp 19) (.const (.bool true)) (.tmp 26)) none]
def r42_5 : List PS := [.mk (some 4) (.assign (.const (.bool false))) none]
def r42_6 : List PS := [.mk (some 28) (.move (.tmp 0)) none,
  .mk (some 29) (.move (.tmp 6)) none,
  .mk (some 30) (.indexAddr 65 (.tmp 28) (.tmp 29)) none,
  .mk (some 31) (.fieldAddr 30 (.tmp 30) 1) none,
  .mk (some 32) (.load 3 (.tmp 31)) none,
  .mk (some 5) (.assign (.tmp 32)) none]
def r42_7 : List PS := [.mk (some 11) (.move (.tmp 6)) none,
  .mk (some 12) (.binOp .add 3 (.tmp 11) (.const (.int .i64 1)) 3) none,
  .mk (some 6) (.assign (.tmp 12)) none]
def r42_8 : List PS := [.mk (some 33) (.move (.tmp 5)) none,
  .mk (some 34) (.move (.tmp 1)) none,
  .mk (some 35) (.binOp .eql 3 (.tmp 33) (.tmp 34) 3) none,
  .mk (some 4) (.assign (.tmp 35)) none]
def c42 : PC := (.seq (.reg false r42_0) (.seq (.reg false r42_1) (.seq (.seq (.reg false r42_2) (.block 0 (.loop (.seq (.seq (.reg false r42_3) (.cond (.tmp 10) .skip (.exit 0))) (.seq (.block 1 (.seq (.seq (.reg false r42_4) (.cond (.tmp 27) (.seq (.reg false r42_5) .ret) .skip)) (.reg false r42_6))) (.reg false r42_7)))))) (.seq (.reg false r42_8) .ret))))
theorem e42 {args : List PV} {h : Heap} {K : PV → Heap → Prop} (hl : args.length = 2) (s : pwp Try.prog [] c42 (fin Try.prog [.tmp 4] h K) (slots0 (olds args)) h) : CanP Try.prog 42 args h K :=
  can_of2 (n := 36) mixed Try.func42 rfl (by kernel_rfl) (by rw [hl]; kernel_rfl) rfl (by kernel_rfl) s
/-! ### naskh.naskhref04.sorted: function 43 -/
def r43_0 : List PS := [.mk (some 2) (.assign (.const (.slice none 0 0))) none]
def r43_1 : List PS := [.mk (some 3) (.assign (.const (.slice none 0 0))) none]
def r43_2 : List PS := [.mk (some 4) (.assign (.const (.int .i64 0))) none]
def r43_3 : List PS := [.mk (some 6) (.move (.tmp 4)) none,
  .mk (some 7) (.move (.tmp 0)) none,
  .mk (some 8) (.call ⟨(.builtin .len), #[(.tmp 7)], #[65]⟩) none,
  .mk (some 9) (.binOp .lss 3 (.tmp 6) (.tmp 8) 3) none]
def r43_4 : List PS := [.frz 3,
  .mk (some 5) (.assign (.const (.int .i64 0))) none]
def r43_5 : List PS := [.mk (some 12) (.move (.tmp 5)) none,
  .mk (some 13) (.move (.tmp 3)) none,
  .mk (some 14) (.call ⟨(.builtin .len), #[(.tmp 13)], #[65]⟩) none,
  .mk (some 15) (.binOp .lss 3 (.tmp 12) (.tmp 14) 3) none,
  .mk (some 16) (.move (.tmp 15)) none,
  .mk (some 17) (.move (.tmp 3)) (some (16, true)),
  .mk (some 18) (.move (.tmp 5)) (some (16, true)),
  .mk (some 19) (.indexAddr 65 (.tmp 17) (.tmp 18)) (some (16, true)),
  .mk (some 20) (.fieldAddr 30 (.tmp 19) 0) (some (16, true)),
  .mk (some 21) (.load 3 (.tmp 20)) (some (16, true)),
  .mk (some 22) (.move (.tmp 0)) (some (16, true)),
  .mk (some 23) (.move (.tmp 4)) (some (16, true)),
  .mk (some 24) (.indexAddr 65 (.tmp 22) (.tmp 23)) (some (16, true)),
  .mk (some 25) (.fieldAddr 30 (.tmp 24) 0) (some (16, true)),
  .mk (some 26) (.load 3 (.tmp 25)) (some (16, true)),
  .mk (some 27) (.binOp .leq 3 (.tmp 21) (.tmp 26) 3) (some (16, true)),
  .mk (some 28) (.pick (.tmp 16) (.tmp 27) (.const (.bool false))) none]
def r43_6 : List PS := [.mk (some 29) (.move (.tmp 5)) none,
  .mk (some 30) (.binOp .add 3 (.tmp 29) (.const (.int .i64 1)) 3) none,
  .frz 3,
  .mk (some 5) (.assign (.tmp 30)) none]
def r43_7 : List PS := [.mk (some 31) (.move (.tmp 3)) none,
  .mk (some 32) (.move (.tmp 5)) none,
  .mk (some 33) (.slice 65 (.tmp 31) none (some (.tmp 32)) none) none,
  .mk (some 34) (.call ⟨(.builtin .append), #[(.const (.slice none 0 0)), (.tmp 33)], #[65, 65]⟩) none,
  .mk (some 35) (.move (.tmp 0)) none,
  .mk (some 36) (.move (.tmp 4)) none,
  .mk (some 37) (.indexAddr 65 (.tmp 35) (.tmp 36)) none,
  .mk (some 38) (.load 30 (.tmp 37)) none,
  .mk (some 39) (.buildSlice 65 1 #[(0, (.tmp 38))]) none,
  .mk (some 40) (.call ⟨(.builtin .append), #[(.tmp 34), (.tmp 39)], #[65, 65]⟩) none,
  .mk (some 41) (.move (.tmp 3)) none,
  .mk (some 42) (.move (.tmp 5)) none,
  .mk (some 43) (.slice 65 (.tmp 41) (some (.tmp 42)) none none) none,
  .mk (some 44) (.call ⟨(.builtin .append), #[(.tmp 40), (.tmp 43)], #[65, 65]⟩) none,
  .mk (some 3) (.assign (.tmp 44)) none]
def r43_8 : List PS := [.mk (some 10) (.move (.tmp 4)) none,
  .mk (some 11) (.binOp .add 3 (.tmp 10) (.const (.int .i64 1)) 3) none,
  .mk (some 4) (.assign (.tmp 11)) none]
def r43_9 : List PS := [.mk (some 45) (.move (.tmp 3)) none,
  .mk (some 2) (.assign (.tmp 45)) none]
def c43 : PC := (.seq (.reg false r43_0) (.seq (.reg false r43_1) (.seq (.seq (.reg false r43_2) (.block 0 (.loop (.seq (.seq (.reg false r43_3) (.cond (.tmp 9) .skip (.exit 0))) (.seq (.block 1 (.seq (.reg false r43_4) (.seq (.block 2 (.loop (.seq (.seq (.reg true r43_5) (.cond (.tmp 28) .skip (.exit 2))) (.block 3 (.reg false r43_6))))) (.reg true r43_7)))) (.reg false r43_8)))))) (.seq (.reg false r43_9) .ret))))
theorem e43 {args : List PV} {h : Heap} {K : PV → Heap → Prop} (hl : args.length = 1) (s : pwp Try.prog [38] c43 (fin Try.prog [.tmp 2] h K) (slots0 (olds args)) h) : CanP Try.prog 43 args h K :=
  can_of2 (n := 46) mixed Try.func43 rfl (by kernel_rfl) (by rw [hl]; kernel_rfl) rfl (by kernel_rfl) s
/-! ### naskh.naskhref04.Check: function 34 -/
def r34_0 : List PS := [.mk (some 6) (.assign (.const (.bool false))) none]
def r34_1 : List PS := [.mk (some 7) (.assign (.const (.slice none 0 0))) none,
  .mk (some 8) (.assign (.const (.slice none 0 0))) none]
def r34_2 : List PS := [.mk (some 9) (.assign (.const (.int .i64 0))) none]
def r34_3 : List PS := [.mk (some 10) (.move (.tmp 9)) none,
  .mk (some 11) (.move (.tmp 0)) none,
  .mk (some 12) (.call ⟨(.builtin .len), #[(.tmp 11)], #[44]⟩) none,
  .mk (some 13) (.binOp .lss 3 (.tmp 10) (.tmp 12) 3) none]
def r34_4 : List PS := [.mk (some 16) (.move (.tmp 7)) none,
  .mk (some 17) (.move (.tmp 0)) none,
  .mk (some 18) (.move (.tmp 9)) none,
  .mk (some 19) (.indexAddr 44 (.tmp 17) (.tmp 18)) none,
  .mk (some 20) (.fieldAddr 50 (.tmp 19) 0) none,
  .mk (some 21) (.load 30 (.tmp 20)) none,
  .mk (some 22) (.buildSlice 65 1 #[(0, (.tmp 21))]) none,
  .mk (some 23) (.call ⟨(.builtin .append), #[(.tmp 16), (.tmp 22)], #[65, 65]⟩) none,
  .mk (some 24) (.move (.tmp 8)) none,
  .mk (some 25) (.move (.tmp 0)) none,
  .mk (some 26) (.move (.tmp 9)) none,
  .mk (some 27) (.indexAddr 44 (.tmp 25) (.tmp 26)) none,
  .mk (some 28) (.fieldAddr 50 (.tmp 27) 1) none,
  .mk (some 29) (.load 30 (.tmp 28)) none,
  .mk (some 30) (.buildSlice 65 1 #[(0, (.tmp 29))]) none,
  .mk (some 31) (.call ⟨(.builtin .append), #[(.tmp 24), (.tmp 30)], #[65, 65]⟩) none,
  .mk (some 7) (.assign (.tmp 23)) none,
  .mk (some 8) (.assign (.tmp 31)) none]
def r34_5 : List PS := [.mk (some 14) (.move (.tmp 9)) none,
  .mk (some 15) (.binOp .add 3 (.tmp 14) (.const (.int .i64 1)) 3) none,
  .mk (some 9) (.assign (.tmp 15)) none]
def r34_6 : List PS := [.frz 7,
  .frz 8,
  .mk (some 32) (.move (.tmp 7)) none,
  .mk (some 33) (.move (.tmp 1)) none,
  .mk (some 34) (.call ⟨(.value (.func 42)), #[(.tmp 32), (.tmp 33)], #[65, 3]⟩) none,
  .mk (some 35) (.move (.tmp 34)) none,
  .mk (some 36) (.move (.tmp 8)) (some (35, true)),
  .mk (some 37) (.call ⟨(.value (.func 43)), #[(.tmp 36)], #[65]⟩) (some (35, true)),
  .mk (some 38) (.move (.tmp 2)) (some (35, true)),
  .mk (some 39) (.call ⟨(.value (.func 42)), #[(.tmp 37), (.tmp 38)], #[65, 3]⟩) (some (35, true)),
  .mk (some 40) (.pick (.tmp 35) (.tmp 39) (.const (.bool false))) none,
  .mk (some 6) (.assign (.tmp 40)) none]
def c34 : PC := (.seq (.reg false r34_0) (.seq (.reg false r34_1) (.seq (.seq (.reg false r34_2) (.block 0 (.loop (.seq (.seq (.reg false r34_3) (.cond (.tmp 13) .skip (.exit 0))) (.seq (.block 1 (.reg true r34_4)) (.reg false r34_5)))))) (.seq (.reg false r34_6) .ret))))
theorem e34 {args : List PV} {h : Heap} {K : PV → Heap → Prop} (hl : args.length = 3) (s : pwp Try.prog [29] c34 (fin Try.prog [.tmp 6] h K) (slots0 (olds args)) h) : CanP Try.prog 34 args h K :=
  can_of2 (n := 41) mixed Try.func34 rfl (by kernel_rfl) (by rw [hl]; kernel_rfl) rfl (by kernel_rfl) s
/-! ### (*naskh.naskhref05.Index).units: function 35 -/
def r35_0 : List PS := [.mk (some 3) (.box 30 (.tmp 1)) none,
  .mk (some 4) (.alloc 30) none]
def r35_1 : List PS := [.mk (some 10) (.move (.tmp 0)) none,
  .mk (some 11) (.fieldAddr 30 (.tmp 3) 0) none,
  .mk (some 12) (.load 3 (.tmp 11)) none,
  .mk (some 13) (.call ⟨(.value (.func 15)), #[(.tmp 10), (.tmp 12)], #[37, 3]⟩) none,
  .mk (some 9) (.move (.tmp 13)) none,
  .mk (some 14) (.extract (.tmp 9) 0) none,
  .mk (some 15) (.extract (.tmp 9) 1) none,
  .mk (some 5) (.alloc 30) none,
  .mk none (.store 30 (.tmp 5) (.tmp 14)) none,
  .frz 5,
  .mk (some 6) (.assign (.tmp 15)) none]
def r35_2 : List PS := [.mk (some 17) (.move (.tmp 0)) none,
  .mk (some 18) (.fieldAddr 30 (.tmp 3) 1) none,
  .mk (some 19) (.load 3 (.tmp 18)) none,
  .mk (some 20) (.binOp .sub 3 (.tmp 19) (.const (.int .i64 1)) 3) none,
  .mk (some 21) (.call ⟨(.value (.func 15)), #[(.tmp 17), (.tmp 20)], #[37, 3]⟩) none,
  .mk (some 16) (.move (.tmp 21)) none,
  .mk (some 22) (.extract (.tmp 16) 0) none,
  .mk (some 23) (.extract (.tmp 16) 1) none,
  .mk (some 7) (.alloc 30) none,
  .mk none (.store 30 (.tmp 7) (.tmp 22)) none,
  .frz 7,
  .mk (some 8) (.assign (.tmp 23)) none]
def r35_3 : List PS := [.mk (some 24) (.fieldAddr 30 (.tmp 5) 0) none,
  .mk (some 25) (.load 3 (.tmp 24)) none,
  .mk (some 26) (.fieldAddr 30 (.tmp 7) 1) none,
  .mk (some 27) (.load 3 (.tmp 26)) none,
  .mk (some 28) (.build 30 #[(0, (.tmp 25)), (1, (.tmp 27))]) none,
  .mk none (.store 30 (.tmp 4) (.tmp 28)) none]
def c35 : PC := (.seq (.reg false r35_0) (.seq (.reg false r35_1) (.seq (.reg false r35_2) (.seq (.reg false r35_3) .ret))))
theorem e35 {args : List PV} {h : Heap} {K : PV → Heap → Prop} (hl : args.length = 2) (s : pwp Try.prog [4, 5, 7] c35 (fin Try.prog [.cell 4 30] h K) (slots0 (olds args)) h) : CanP Try.prog 35 args h K :=
  can_of2 (n := 29) mixed Try.func35 rfl (by kernel_rfl) (by rw [hl]; kernel_rfl) rfl (by kernel_rfl) s
/-! ### (*naskh.naskhref05.Index).Clusters: function 23 -/
def r23_0 : List PS := [.mk (some 6) (.assign (.const (.slice none 0 0))) none,
  .mk (some 7) (.assign (.const (.int .i64 0))) none]
def r23_1 : List PS := [.mk (some 10) (.move (.tmp 1)) none,
  .mk (some 11) (.move (.tmp 0)) none,
  .mk (some 12) (.call ⟨(.value (.func 20)), #[(.tmp 11)], #[37]⟩) none,
  .mk (some 13) (.move (.tmp 2)) none,
  .mk (some 14) (.call ⟨(.value (.func 20)), #[(.tmp 13)], #[37]⟩) none,
  .mk (some 15) (.call ⟨(.value (.func 34)), #[(.tmp 10), (.tmp 12), (.tmp 14)], #[44, 3, 3]⟩) none,
  .mk (some 16) (.unOp .not 4 (.tmp 15)) none]
def r23_2 : List PS := [.mk (some 6) (.assign (.const (.slice none 0 0))) none,
  .mk (some 7) (.assign (.const (.int .i64 13))) none]
def r23_3 : List PS := [.mk (some 8) (.assign (.const (.slice none 0 0))) none]
def r23_4 : List PS := [.mk (some 9) (.assign (.const (.int .i64 0))) none]
def r23_5 : List PS := [.mk (some 17) (.move (.tmp 9)) none,
  .mk (some 18) (.move (.tmp 1)) none,
  .mk (some 19) (.call ⟨(.builtin .len), #[(.tmp 18)], #[44]⟩) none,
  .mk (some 20) (.binOp .lss 3 (.tmp 17) (.tmp 19) 3) none]
def r23_6 : List PS := [.mk (some 23) (.move (.tmp 8)) none,
  .mk (some 24) (.move (.tmp 0)) none,
  .mk (some 25) (.move (.tmp 1)) none,
  .mk (some 26) (.move (.tmp 9)) none,
  .mk (some 27) (.indexAddr 44 (.tmp 25) (.tmp 26)) none,
  .mk (some 28) (.fieldAddr 50 (.tmp 27) 0) none,
  .mk (some 29) (.load 30 (.tmp 28)) none,
  .mk (some 30) (.call ⟨(.value (.func 35)), #[(.tmp 24), (.tmp 29)], #[37, 30]⟩) none,
  .mk (some 31) (.move (.tmp 2)) none,
  .mk (some 32) (.move (.tmp 1)) none,
  .mk (some 33) (.move (.tmp 9)) none,
  .mk (some 34) (.indexAddr 44 (.tmp 32) (.tmp 33)) none,
  .mk (some 35) (.fieldAddr 50 (.tmp 34) 1) none,
  .mk (some 36) (.load 30 (.tmp 35)) none,
  .mk (some 37) (.call ⟨(.value (.func 35)), #[(.tmp 31), (.tmp 36)], #[37, 30]⟩) none,
  .mk (some 38) (.build 50 #[(0, (.tmp 30)), (1, (.tmp 37))]) none,
  .mk (some 39) (.buildSlice 44 1 #[(0, (.tmp 38))]) none,
  .mk (some 40) (.call ⟨(.builtin .append), #[(.tmp 23), (.tmp 39)], #[44, 44]⟩) none,
  .mk (some 8) (.assign (.tmp 40)) none]
def r23_7 : List PS := [.mk (some 21) (.move (.tmp 9)) none,
  .mk (some 22) (.binOp .add 3 (.tmp 21) (.const (.int .i64 1)) 3) none,
  .mk (some 9) (.assign (.tmp 22)) none]
def r23_8 : List PS := [.mk (some 41) (.move (.tmp 8)) none,
  .mk (some 6) (.assign (.tmp 41)) none,
  .mk (some 7) (.assign (.const (.int .i64 0))) none]
def c23 : PC := (.seq (.reg false r23_0) (.seq (.seq (.reg false r23_1) (.cond (.tmp 16) (.seq (.reg false r23_2) .ret) .skip)) (.seq (.reg false r23_3) (.seq (.seq (.reg false r23_4) (.block 0 (.loop (.seq (.seq (.reg false r23_5) (.cond (.tmp 20) .skip (.exit 0))) (.seq (.block 1 (.reg true r23_6)) (.reg false r23_7)))))) (.seq (.reg false r23_8) .ret)))))
theorem e23 {args : List PV} {h : Heap} {K : PV → Heap → Prop} (hl : args.length = 3) (s : pwp Try.prog [] c23 (fin Try.prog [.tmp 6, .tmp 7] h K) (slots0 (olds args)) h) : CanP Try.prog 23 args h K :=
  can_of2 (n := 42) mixed Try.func23 rfl (by kernel_rfl) (by rw [hl]; kernel_rfl) rfl (by kernel_rfl) s
/-! ### slices.Equal[[]naskh.api.Cluster,naskh.api.Cluster]: function 24 -/
def r24_0 : List PS := [.mk (some 4) (.assign (.const (.bool false))) none]
def r24_1 : List PS := [.mk (some 6) (.move (.tmp 0)) none,
  .mk (some 7) (.call ⟨(.builtin .len), #[(.tmp 6)], #[44]⟩) none,
  .mk (some 8) (.move (.tmp 1)) none,
  .mk (some 9) (.call ⟨(.builtin .len), #[(.tmp 8)], #[44]⟩) none,
  .mk (some 10) (.binOp .neq 3 (.tmp 7) (.tmp 9) 3) none]
def r24_2 : List PS := [.mk (some 4) (.assign (.const (.bool false))) none]
def r24_3 : List PS := [.mk (some 11) (.move (.tmp 0)) none,
  .mk (some 12) (.call ⟨(.builtin .len), #[(.tmp 11)], #[44]⟩) none,
  .mk (some 13) (.move (.const (.int .i64 0))) none]
def r24_4 : List PS := [.mk (some 14) (.binOp .lss 3 (.tmp 13) (.tmp 12) 3) none]
def r24_5 : List PS := [.mk (some 15) (.move (.tmp 13)) none,
  .mk (some 5) (.assign (.tmp 15)) none]
def r24_6 : List PS := [.mk (some 16) (.move (.tmp 0)) none,
  .mk (some 17) (.move (.tmp 5)) none,
  .mk (some 18) (.indexAddr 44 (.tmp 16) (.tmp 17)) none,
  .mk (some 19) (.load 50 (.tmp 18)) none,
  .mk (some 20) (.move (.tmp 1)) none,
  .mk (some 21) (.move (.tmp 5)) none,
  .mk (some 22) (.indexAddr 44 (.tmp 20) (.tmp 21)) none,
  .mk (some 23) (.load 50 (.tmp 22)) none,
  .mk (some 24) (.binOp .neq 50 (.tmp 19) (.tmp 23) 50) none]
def r24_7 : List PS := [.mk (some 4) (.assign (.const (.bool false))) none]
def r24_8 : List PS := [.mk (some 25) (.binOp .add 3 (.tmp 13) (.const (.int .i64 1)) 3) none,
  .mk (some 13) (.move (.tmp 25)) none]
def r24_9 : List PS := [.mk (some 4) (.assign (.const (.bool true))) none]
def c24 : PC := (.seq (.reg false r24_0) (.seq (.seq (.reg false r24_1) (.cond (.tmp 10) (.seq (.reg false r24_2) .ret) .skip)) (.seq (.seq (.reg false r24_3) (.block 0 (.loop (.seq (.reg false r24_4) (.seq (.cond (.tmp 14) .skip (.exit 0)) (.seq (.block 1 (.seq (.reg false r24_5) (.seq (.reg true r24_6) (.cond (.tmp 24) (.seq (.reg false r24_7) .ret) .skip)))) (.reg false r24_8))))))) (.seq (.reg false r24_9) .ret))))
theorem e24 {args : List PV} {h : Heap} {K : PV → Heap → Prop} (hl : args.length = 2) (s : pwp Try.prog [] c24 (fin Try.prog [.tmp 4] h K) (slots0 (olds args)) h) : CanP Try.prog 24 args h K :=
  can_of2 (n := 26) mixed Try.func24 rfl (by kernel_rfl) (by rw [hl]; kernel_rfl) rfl (by kernel_rfl) s
/-! ### naskh.naskhlaw05.IndexClusters: function 5 -/
def r5_0 : List PS := [.mk (some 6) (.assign (.const (.bool false))) none]
def r5_1 : List PS := [.mk (some 21) (.move (.tmp 0)) none,
  .mk (some 22) (.call ⟨(.value (.func 6)), #[(.tmp 21)], #[22]⟩) none,
  .mk (some 23) (.unOp .not 4 (.tmp 22)) none,
  .mk (some 24) (.move (.tmp 23)) none,
  .mk (some 25) (.move (.tmp 1)) (some (24, false)),
  .mk (some 26) (.call ⟨(.value (.func 6)), #[(.tmp 25)], #[22]⟩) (some (24, false)),
  .mk (some 27) (.unOp .not 4 (.tmp 26)) (some (24, false)),
  .mk (some 28) (.pick (.tmp 24) (.const (.bool true)) (.tmp 27)) none,
  .mk (some 29) (.move (.tmp 28)) none,
  .mk (some 30) (.move (.tmp 2)) (some (29, false)),
  .mk (some 31) (.call ⟨(.builtin .len), #[(.tmp 30)], #[44]⟩) (some (29, false)),
  .mk (some 32) (.binOp .gtr 3 (.tmp 31) (.const (.int .i64 60)) 3) (some (29, false)),
  .mk (some 33) (.pick (.tmp 29) (.const (.bool true)) (.tmp 32)) none]
def r5_2 : List PS := [.mk (some 34) (.call ⟨(.value (.func 7)), #[], #[]⟩) none,
  .mk (some 6) (.assign (.tmp 34)) none]
def r5_3 : List PS := [.mk (some 36) (.move (.tmp 0)) none,
  .mk (some 37) (.call ⟨(.value (.func 8)), #[(.tmp 36)], #[22]⟩) none,
  .mk (some 35) (.move (.tmp 37)) none,
  .mk (some 38) (.extract (.tmp 35) 0) none,
  .mk (some 39) (.extract (.tmp 35) 1) none,
  .mk (some 7) (.assign (.tmp 38)) none,
  .mk (some 8) (.assign (.tmp 39)) none]
def r5_4 : List PS := [.mk (some 41) (.move (.tmp 1)) none,
  .mk (some 42) (.call ⟨(.value (.func 8)), #[(.tmp 41)], #[22]⟩) none,
  .mk (some 40) (.move (.tmp 42)) none,
  .mk (some 43) (.extract (.tmp 40) 0) none,
  .mk (some 44) (.extract (.tmp 40) 1) none,
  .mk (some 9) (.assign (.tmp 43)) none,
  .mk (some 10) (.assign (.tmp 44)) none]
def r5_5 : List PS := [.mk (some 46) (.move (.tmp 0)) none,
  .mk (some 47) (.call ⟨(.value (.func 13)), #[(.tmp 46)], #[22]⟩) none,
  .mk (some 45) (.move (.tmp 47)) none,
  .mk (some 48) (.extract (.tmp 45) 0) none,
  .mk (some 49) (.extract (.tmp 45) 1) none,
  .mk (some 11) (.assign (.tmp 48)) none,
  .mk (some 12) (.assign (.tmp 49)) none]
def r5_6 : List PS := [.mk (some 51) (.move (.tmp 1)) none,
  .mk (some 52) (.call ⟨(.value (.func 13)), #[(.tmp 51)], #[22]⟩) none,
  .mk (some 50) (.move (.tmp 52)) none,
  .mk (some 53) (.extract (.tmp 50) 0) none,
  .mk (some 54) (.extract (.tmp 50) 1) none,
  .mk (some 13) (.assign (.tmp 53)) none,
  .mk (some 14) (.assign (.tmp 54)) none]
def r5_7 : List PS := [.mk (some 55) (.move (.tmp 8)) none,
  .mk (some 56) (.binOp .neq 26 (.tmp 55) (.const (.int .i64 0)) 26) none,
  .mk (some 57) (.move (.tmp 56)) none,
  .mk (some 58) (.move (.tmp 10)) (some (57, false)),
  .mk (some 59) (.binOp .neq 26 (.tmp 58) (.const (.int .i64 0)) 26) (some (57, false)),
  .mk (some 60) (.pick (.tmp 57) (.const (.bool true)) (.tmp 59)) none]
def r5_8 : List PS := [.mk (some 61) (.call ⟨(.value (.func 7)), #[], #[]⟩) none,
  .mk (some 6) (.assign (.tmp 61)) none]
def r5_9 : List PS := [.mk (some 63) (.move (.tmp 7)) none,
  .mk (some 64) (.move (.tmp 2)) none,
  .mk (some 65) (.move (.tmp 9)) none,
  .mk (some 66) (.call ⟨(.value (.func 22)), #[(.tmp 63), (.tmp 64), (.tmp 65)], #[25, 44, 25]⟩) none,
  .mk (some 62) (.move (.tmp 66)) none,
  .mk (some 67) (.extract (.tmp 62) 0) none,
  .mk (some 68) (.extract (.tmp 62) 1) none,
  .mk (some 15) (.assign (.tmp 67)) none,
  .mk (some 16) (.assign (.tmp 68)) none]
def r5_10 : List PS := [.mk (some 70) (.move (.tmp 11)) none,
  .mk (some 71) (.move (.tmp 2)) none,
  .mk (some 72) (.move (.tmp 13)) none,
  .mk (some 73) (.call ⟨(.value (.func 23)), #[(.tmp 70), (.tmp 71), (.tmp 72)], #[37, 44, 37]⟩) none,
  .mk (some 69) (.move (.tmp 73)) none,
  .mk (some 74) (.extract (.tmp 69) 0) none,
  .mk (some 75) (.extract (.tmp 69) 1) none,
  .mk (some 17) (.assign (.tmp 74)) none,
  .mk (some 18) (.assign (.tmp 75)) none]
def r5_11 : List PS := [.mk (some 77) (.move (.tmp 7)) none,
  .mk (some 78) (.move (.tmp 2)) none,
  .mk (some 79) (.call ⟨(.value (.func 22)), #[(.tmp 77), (.tmp 78), (.const (.pointer none))], #[25, 44, 25]⟩) none,
  .mk (some 76) (.move (.tmp 79)) none,
  .mk (some 80) (.extract (.tmp 76) 0) none,
  .mk (some 81) (.extract (.tmp 76) 1) none,
  .mk (some 19) (.assign (.tmp 80)) none,
  .mk (some 20) (.assign (.tmp 81)) none]
def r5_12 : List PS := [.mk (some 82) (.move (.tmp 16)) none,
  .mk (some 83) (.move (.tmp 18)) none,
  .mk (some 84) (.binOp .eql 26 (.tmp 82) (.tmp 83) 26) none,
  .mk (some 85) (.move (.tmp 84)) none,
  .mk (some 86) (.move (.tmp 15)) (some (85, true)),
  .mk (some 87) (.move (.tmp 17)) (some (85, true)),
  .mk (some 88) (.call ⟨(.value (.func 24)), #[(.tmp 86), (.tmp 87)], #[44, 44]⟩) (some (85, true)),
  .mk (some 89) (.pick (.tmp 85) (.tmp 88) (.const (.bool false))) none,
  .mk (some 90) (.move (.tmp 89)) none,
  .mk (some 91) (.move (.tmp 16)) (some (90, true)),
  .mk (some 92) (.binOp .neq 26 (.tmp 91) (.const (.int .i64 0)) 26) (some (90, true)),
  .mk (some 93) (.move (.tmp 92)) (some (90, true)),
  .mk (some 94) (.move (.tmp 15)) (some (93, false)),
  .mk (some 95) (.move (.tmp 7)) (some (93, false)),
  .mk (some 96) (.call ⟨(.value (.func 11)), #[(.tmp 95)], #[25]⟩) (some (93, false)),
  .mk (some 97) (.move (.tmp 9)) (some (93, false)),
  .mk (some 98) (.call ⟨(.value (.func 11)), #[(.tmp 97)], #[25]⟩) (some (93, false)),
  .mk (some 99) (.call ⟨(.value (.func 25)), #[(.tmp 94), (.tmp 96), (.tmp 98)], #[44, 3, 3]⟩) (some (93, false)),
  .mk (some 100) (.pick (.tmp 93) (.const (.bool true)) (.tmp 99)) (some (90, true)),
  .mk (some 101) (.pick (.tmp 90) (.tmp 100) (.const (.bool false))) none,
  .mk (some 102) (.move (.tmp 101)) none,
  .mk (some 103) (.move (.tmp 20)) (some (102, true)),
  .mk (some 104) (.binOp .eql 26 (.tmp 103) (.const (.int .i64 1)) 26) (some (102, true)),
  .mk (some 105) (.pick (.tmp 102) (.tmp 104) (.const (.bool false))) none,
  .mk (some 106) (.move (.tmp 105)) none,
  .mk (some 107) (.call ⟨(.value (.func 7)), #[], #[]⟩) (some (106, true)),
  .mk (some 108) (.pick (.tmp 106) (.tmp 107) (.const (.bool false))) none,
  .mk (some 6) (.assign (.tmp 108)) none]
def c5 : PC := (.seq (.reg false r5_0) (.seq (.seq (.reg false r5_1) (.cond (.tmp 33) (.seq (.reg false r5_2) .ret) .skip)) (.seq (.reg false r5_3) (.seq (.reg false r5_4) (.seq (.reg false r5_5) (.seq (.reg false r5_6) (.seq (.seq (.reg false r5_7) (.cond (.tmp 60) (.seq (.reg false r5_8) .ret) .skip)) (.seq (.reg false r5_9) (.seq (.reg false r5_10) (.seq (.reg false r5_11) (.seq (.reg false r5_12) .ret)))))))))))
theorem e5 {args : List PV} {h : Heap} {K : PV → Heap → Prop} (hl : args.length = 3) (s : pwp Try.prog [] c5 (fin Try.prog [.tmp 6] h K) (slots0 (olds args)) h) : CanP Try.prog 5 args h K :=
  can_of2 (n := 109) mixed Try.func5 rfl (by kernel_rfl) (by rw [hl]; kernel_rfl) rfl (by kernel_rfl) s
end Go.Proofs.Ytkjkgogfilgjpaa
