/-
  The functions that the statements of this seat reach, told in short, and facts on their types. Printed by this project's own program.
  Conditions: none.
-/
import Derived.Test.YtbaammcbkjfmhaaPmO
import Derived.Test.YtbaammcbkjfmhaaProg
import Derived.KernelRfl
namespace Go.Proofs.Ytbaammcbkjfmhaa
open Go.Pm
set_option maxRecDepth 100000
set_option linter.unusedVariables false
theorem mixed : Try.prog.follows .mixedOrders = true := by kernel_rfl
theorem tag3 : tag Try.prog 3 = some false := by kernel_rfl
theorem tsz3 : tsz Try.prog 3 = some 1 := by kernel_rfl
theorem und3 : und Try.prog 3 = true := by kernel_rfl
theorem ik3 : ik Try.prog 3 = some .i64 := by kernel_rfl
theorem kd3 : kd Try.prog 3 = none := by kernel_rfl
theorem esz3 : esz Try.prog 3 = none := by kernel_rfl
theorem zc3 : zc Try.prog 3 = some [.int .i64 0] := by kernel_rfl
theorem ars3 : ars Try.prog 3 = none := by kernel_rfl
theorem tag4 : tag Try.prog 4 = some false := by kernel_rfl
theorem tsz4 : tsz Try.prog 4 = some 1 := by kernel_rfl
theorem und4 : und Try.prog 4 = true := by kernel_rfl
theorem ik4 : ik Try.prog 4 = none := by kernel_rfl
theorem kd4 : kd Try.prog 4 = some 3 := by kernel_rfl
theorem esz4 : esz Try.prog 4 = none := by kernel_rfl
theorem zc4 : zc Try.prog 4 = some [.bool false] := by kernel_rfl
theorem ars4 : ars Try.prog 4 = none := by kernel_rfl
theorem tag22 : tag Try.prog 22 = some false := by kernel_rfl
theorem tsz22 : tsz Try.prog 22 = some 1 := by kernel_rfl
theorem und22 : und Try.prog 22 = true := by kernel_rfl
theorem ik22 : ik Try.prog 22 = none := by kernel_rfl
theorem kd22 : kd Try.prog 22 = some 1 := by kernel_rfl
theorem esz22 : esz Try.prog 22 = some 1 := by kernel_rfl
theorem elt22 : elt Try.prog 22 = some 3 := by kernel_rfl
theorem zc22 : zc Try.prog 22 = some [.nils] := by kernel_rfl
theorem ars22 : ars Try.prog 22 = none := by kernel_rfl
theorem eli22 : eli Try.prog 22 = some (1, 8, [.int .i64 0]) := by kernel_rfl
theorem tag25 : tag Try.prog 25 = some false := by kernel_rfl
theorem tsz25 : tsz Try.prog 25 = some 1 := by kernel_rfl
theorem und25 : und Try.prog 25 = true := by kernel_rfl
theorem ik25 : ik Try.prog 25 = none := by kernel_rfl
theorem kd25 : kd Try.prog 25 = some 2 := by kernel_rfl
theorem esz25 : esz Try.prog 25 = none := by kernel_rfl
theorem zc25 : zc Try.prog 25 = some [.nilp] := by kernel_rfl
theorem ars25 : ars Try.prog 25 = none := by kernel_rfl
theorem tag33 : tag Try.prog 33 = some false := by kernel_rfl
theorem tsz33 : tsz Try.prog 33 = some 1 := by kernel_rfl
theorem und33 : und Try.prog 33 = true := by kernel_rfl
theorem ik33 : ik Try.prog 33 = none := by kernel_rfl
theorem kd33 : kd Try.prog 33 = none := by kernel_rfl
theorem esz33 : esz Try.prog 33 = none := by kernel_rfl
theorem zc33 : zc Try.prog 33 = some [.nilf] := by kernel_rfl
theorem ars33 : ars Try.prog 33 = none := by kernel_rfl
theorem tag36 : tag Try.prog 36 = some false := by kernel_rfl
theorem tsz36 : tsz Try.prog 36 = some 1 := by kernel_rfl
theorem und36 : und Try.prog 36 = true := by kernel_rfl
theorem ik36 : ik Try.prog 36 = none := by kernel_rfl
theorem kd36 : kd Try.prog 36 = some 2 := by kernel_rfl
theorem esz36 : esz Try.prog 36 = none := by kernel_rfl
theorem zc36 : zc Try.prog 36 = some [.nilp] := by kernel_rfl
theorem ars36 : ars Try.prog 36 = none := by kernel_rfl
theorem tag37 : tag Try.prog 37 = some false := by kernel_rfl
theorem tsz37 : tsz Try.prog 37 = some 1 := by kernel_rfl
theorem und37 : und Try.prog 37 = true := by kernel_rfl
theorem ik37 : ik Try.prog 37 = some .i64 := by kernel_rfl
theorem kd37 : kd Try.prog 37 = none := by kernel_rfl
theorem esz37 : esz Try.prog 37 = none := by kernel_rfl
theorem zc37 : zc Try.prog 37 = some [.int .i64 0] := by kernel_rfl
theorem ars37 : ars Try.prog 37 = none := by kernel_rfl
theorem tag40 : tag Try.prog 40 = some false := by kernel_rfl
theorem tsz40 : tsz Try.prog 40 = some 1 := by kernel_rfl
theorem und40 : und Try.prog 40 = true := by kernel_rfl
theorem ik40 : ik Try.prog 40 = none := by kernel_rfl
theorem kd40 : kd Try.prog 40 = some 1 := by kernel_rfl
theorem esz40 : esz Try.prog 40 = some 3 := by kernel_rfl
theorem elt40 : elt Try.prog 40 = some 59 := by kernel_rfl
theorem zc40 : zc Try.prog 40 = some [.nils] := by kernel_rfl
theorem ars40 : ars Try.prog 40 = none := by kernel_rfl
theorem eli40 : eli Try.prog 40 = some (3, 24, [.int .i64 0, .int .i64 0, .int .i64 0]) := by kernel_rfl
theorem tag43 : tag Try.prog 43 = some true := by kernel_rfl
theorem tsz43 : tsz Try.prog 43 = some 2 := by kernel_rfl
theorem und43 : und Try.prog 43 = true := by kernel_rfl
theorem ik43 : ik Try.prog 43 = none := by kernel_rfl
theorem kd43 : kd Try.prog 43 = none := by kernel_rfl
theorem esz43 : esz Try.prog 43 = none := by kernel_rfl
theorem zc43 : zc Try.prog 43 = some [.nilp, .nilp] := by kernel_rfl
theorem ars43 : ars Try.prog 43 = none := by kernel_rfl
theorem fld43_0 : fld Try.prog 43 0 = some (0, false, 1) := by kernel_rfl
theorem fld43_1 : fld Try.prog 43 1 = some (1, false, 1) := by kernel_rfl
theorem plc43 : plc Try.prog 43 = some fun i => [(0, 1), (1, 1)][i]? := by kernel_rfl
theorem tag45 : tag Try.prog 45 = some true := by kernel_rfl
theorem tsz45 : tsz Try.prog 45 = some 2 := by kernel_rfl
theorem und45 : und Try.prog 45 = true := by kernel_rfl
theorem ik45 : ik Try.prog 45 = none := by kernel_rfl
theorem kd45 : kd Try.prog 45 = none := by kernel_rfl
theorem esz45 : esz Try.prog 45 = none := by kernel_rfl
theorem zc45 : zc Try.prog 45 = some [.nilp, .nilp] := by kernel_rfl
theorem ars45 : ars Try.prog 45 = none := by kernel_rfl
theorem fld45_0 : fld Try.prog 45 0 = some (0, true, 2) := by kernel_rfl
theorem plc45 : plc Try.prog 45 = some fun i => [(0, 2)][i]? := by kernel_rfl
theorem tag48 : tag Try.prog 48 = some false := by kernel_rfl
theorem tsz48 : tsz Try.prog 48 = some 1 := by kernel_rfl
theorem und48 : und Try.prog 48 = true := by kernel_rfl
theorem ik48 : ik Try.prog 48 = none := by kernel_rfl
theorem kd48 : kd Try.prog 48 = some 1 := by kernel_rfl
theorem esz48 : esz Try.prog 48 = some 128 := by kernel_rfl
theorem elt48 : elt Try.prog 48 = some 54 := by kernel_rfl
theorem zc48 : zc Try.prog 48 = some [.nils] := by kernel_rfl
theorem ars48 : ars Try.prog 48 = none := by kernel_rfl
theorem eli48 : eli Try.prog 48 = some (128, 1024, List.replicate 128 (.int .i64 0)) := by kernel_rfl
theorem tag50 : tag Try.prog 50 = some true := by kernel_rfl
theorem tsz50 : tsz Try.prog 50 = some 2 := by kernel_rfl
theorem und50 : und Try.prog 50 = true := by kernel_rfl
theorem ik50 : ik Try.prog 50 = none := by kernel_rfl
theorem kd50 : kd Try.prog 50 = none := by kernel_rfl
theorem esz50 : esz Try.prog 50 = none := by kernel_rfl
theorem zc50 : zc Try.prog 50 = some [.nils, .nils] := by kernel_rfl
theorem ars50 : ars Try.prog 50 = none := by kernel_rfl
theorem fld50_0 : fld Try.prog 50 0 = some (0, false, 1) := by kernel_rfl
theorem fld50_1 : fld Try.prog 50 1 = some (1, false, 1) := by kernel_rfl
theorem plc50 : plc Try.prog 50 = some fun i => [(0, 1), (1, 1)][i]? := by kernel_rfl
theorem tag52 : tag Try.prog 52 = some true := by kernel_rfl
theorem tsz52 : tsz Try.prog 52 = some 4 := by kernel_rfl
theorem und52 : und Try.prog 52 = true := by kernel_rfl
theorem ik52 : ik Try.prog 52 = none := by kernel_rfl
theorem kd52 : kd Try.prog 52 = none := by kernel_rfl
theorem esz52 : esz Try.prog 52 = none := by kernel_rfl
theorem zc52 : zc Try.prog 52 = some [.nils, .nils, .int .i64 0, .bool false] := by kernel_rfl
theorem ars52 : ars Try.prog 52 = none := by kernel_rfl
theorem fld52_0 : fld Try.prog 52 0 = some (0, true, 2) := by kernel_rfl
theorem fld52_1 : fld Try.prog 52 1 = some (2, false, 1) := by kernel_rfl
theorem fld52_2 : fld Try.prog 52 2 = some (3, false, 1) := by kernel_rfl
theorem plc52 : plc Try.prog 52 = some fun i => [(0, 2), (2, 1), (3, 1)][i]? := by kernel_rfl
theorem tag54 : tag Try.prog 54 = some true := by kernel_rfl
theorem tsz54 : tsz Try.prog 54 = some 128 := by kernel_rfl
theorem und54 : und Try.prog 54 = true := by kernel_rfl
theorem ik54 : ik Try.prog 54 = none := by kernel_rfl
theorem kd54 : kd Try.prog 54 = some 266 := by kernel_rfl
theorem esz54 : esz Try.prog 54 = none := by kernel_rfl
theorem zc54 : zc Try.prog 54 = some (List.replicate 128 (.int .i64 0)) := by kernel_rfl
theorem ars54 : ars Try.prog 54 = some (128, 1, false) := by kernel_rfl
theorem plc54 : plc Try.prog 54 = some fun i => some (i * 1, 1) := by kernel_rfl
theorem tag59 : tag Try.prog 59 = some true := by kernel_rfl
theorem tsz59 : tsz Try.prog 59 = some 3 := by kernel_rfl
theorem und59 : und Try.prog 59 = true := by kernel_rfl
theorem ik59 : ik Try.prog 59 = none := by kernel_rfl
theorem kd59 : kd Try.prog 59 = some 16 := by kernel_rfl
theorem esz59 : esz Try.prog 59 = none := by kernel_rfl
theorem zc59 : zc Try.prog 59 = some [.int .i64 0, .int .i64 0, .int .i64 0] := by kernel_rfl
theorem ars59 : ars Try.prog 59 = none := by kernel_rfl
theorem fld59_0 : fld Try.prog 59 0 = some (0, false, 1) := by kernel_rfl
theorem fld59_1 : fld Try.prog 59 1 = some (1, false, 1) := by kernel_rfl
theorem fld59_2 : fld Try.prog 59 2 = some (2, false, 1) := by kernel_rfl
theorem plc59 : plc Try.prog 59 = some fun i => [(0, 1), (1, 1), (2, 1)][i]? := by kernel_rfl
theorem tag61 : tag Try.prog 61 = some false := by kernel_rfl
theorem tsz61 : tsz Try.prog 61 = some 1 := by kernel_rfl
theorem und61 : und Try.prog 61 = true := by kernel_rfl
theorem ik61 : ik Try.prog 61 = none := by kernel_rfl
theorem kd61 : kd Try.prog 61 = some 2 := by kernel_rfl
theorem esz61 : esz Try.prog 61 = none := by kernel_rfl
theorem zc61 : zc Try.prog 61 = some [.nilp] := by kernel_rfl
theorem ars61 : ars Try.prog 61 = none := by kernel_rfl
theorem ft : (tag Try.prog 3 = some false) ∧
    (tsz Try.prog 3 = some 1) ∧
    (und Try.prog 3 = true) ∧
    (ik Try.prog 3 = some .i64) ∧
    (kd Try.prog 3 = none) ∧
    (esz Try.prog 3 = none) ∧
    (zc Try.prog 3 = some [.int .i64 0]) ∧
    (ars Try.prog 3 = none) ∧
    (tag Try.prog 4 = some false) ∧
    (tsz Try.prog 4 = some 1) ∧
    (und Try.prog 4 = true) ∧
    (ik Try.prog 4 = none) ∧
    (kd Try.prog 4 = some 3) ∧
    (esz Try.prog 4 = none) ∧
    (zc Try.prog 4 = some [.bool false]) ∧
    (ars Try.prog 4 = none) ∧
    (tag Try.prog 22 = some false) ∧
    (tsz Try.prog 22 = some 1) ∧
    (und Try.prog 22 = true) ∧
    (ik Try.prog 22 = none) ∧
    (kd Try.prog 22 = some 1) ∧
    (esz Try.prog 22 = some 1) ∧
    (elt Try.prog 22 = some 3) ∧
    (zc Try.prog 22 = some [.nils]) ∧
    (ars Try.prog 22 = none) ∧
    (eli Try.prog 22 = some (1, 8, [.int .i64 0])) ∧
    (tag Try.prog 25 = some false) ∧
    (tsz Try.prog 25 = some 1) ∧
    (und Try.prog 25 = true) ∧
    (ik Try.prog 25 = none) ∧
    (kd Try.prog 25 = some 2) ∧
    (esz Try.prog 25 = none) ∧
    (zc Try.prog 25 = some [.nilp]) ∧
    (ars Try.prog 25 = none) ∧
    (tag Try.prog 33 = some false) ∧
    (tsz Try.prog 33 = some 1) ∧
    (und Try.prog 33 = true) ∧
    (ik Try.prog 33 = none) ∧
    (kd Try.prog 33 = none) ∧
    (esz Try.prog 33 = none) ∧
    (zc Try.prog 33 = some [.nilf]) ∧
    (ars Try.prog 33 = none) ∧
    (tag Try.prog 36 = some false) ∧
    (tsz Try.prog 36 = some 1) ∧
    (und Try.prog 36 = true) ∧
    (ik Try.prog 36 = none) ∧
    (kd Try.prog 36 = some 2) ∧
    (esz Try.prog 36 = none) ∧
    (zc Try.prog 36 = some [.nilp]) ∧
    (ars Try.prog 36 = none) ∧
    (tag Try.prog 37 = some false) ∧
    (tsz Try.prog 37 = some 1) ∧
    (und Try.prog 37 = true) ∧
    (ik Try.prog 37 = some .i64) ∧
    (kd Try.prog 37 = none) ∧
    (esz Try.prog 37 = none) ∧
    (zc Try.prog 37 = some [.int .i64 0]) ∧
    (ars Try.prog 37 = none) ∧
    (tag Try.prog 40 = some false) ∧
    (tsz Try.prog 40 = some 1) ∧
    (und Try.prog 40 = true) ∧
    (ik Try.prog 40 = none) ∧
    (kd Try.prog 40 = some 1) ∧
    (esz Try.prog 40 = some 3) ∧
    (elt Try.prog 40 = some 59) ∧
    (zc Try.prog 40 = some [.nils]) ∧
    (ars Try.prog 40 = none) ∧
    (eli Try.prog 40 = some (3, 24, [.int .i64 0, .int .i64 0, .int .i64 0])) ∧
    (tag Try.prog 43 = some true) ∧
    (tsz Try.prog 43 = some 2) ∧
    (und Try.prog 43 = true) ∧
    (ik Try.prog 43 = none) ∧
    (kd Try.prog 43 = none) ∧
    (esz Try.prog 43 = none) ∧
    (zc Try.prog 43 = some [.nilp, .nilp]) ∧
    (ars Try.prog 43 = none) ∧
    (fld Try.prog 43 0 = some (0, false, 1)) ∧
    (fld Try.prog 43 1 = some (1, false, 1)) ∧
    (plc Try.prog 43 = some fun i => [(0, 1), (1, 1)][i]?) ∧
    (tag Try.prog 45 = some true) ∧
    (tsz Try.prog 45 = some 2) ∧
    (und Try.prog 45 = true) ∧
    (ik Try.prog 45 = none) ∧
    (kd Try.prog 45 = none) ∧
    (esz Try.prog 45 = none) ∧
    (zc Try.prog 45 = some [.nilp, .nilp]) ∧
    (ars Try.prog 45 = none) ∧
    (fld Try.prog 45 0 = some (0, true, 2)) ∧
    (plc Try.prog 45 = some fun i => [(0, 2)][i]?) ∧
    (tag Try.prog 48 = some false) ∧
    (tsz Try.prog 48 = some 1) ∧
    (und Try.prog 48 = true) ∧
    (ik Try.prog 48 = none) ∧
    (kd Try.prog 48 = some 1) ∧
    (esz Try.prog 48 = some 128) ∧
    (elt Try.prog 48 = some 54) ∧
    (zc Try.prog 48 = some [.nils]) ∧
    (ars Try.prog 48 = none) ∧
    (eli Try.prog 48 = some (128, 1024, List.replicate 128 (.int .i64 0))) ∧
    (tag Try.prog 50 = some true) ∧
    (tsz Try.prog 50 = some 2) ∧
    (und Try.prog 50 = true) ∧
    (ik Try.prog 50 = none) ∧
    (kd Try.prog 50 = none) ∧
    (esz Try.prog 50 = none) ∧
    (zc Try.prog 50 = some [.nils, .nils]) ∧
    (ars Try.prog 50 = none) ∧
    (fld Try.prog 50 0 = some (0, false, 1)) ∧
    (fld Try.prog 50 1 = some (1, false, 1)) ∧
    (plc Try.prog 50 = some fun i => [(0, 1), (1, 1)][i]?) ∧
    (tag Try.prog 52 = some true) ∧
    (tsz Try.prog 52 = some 4) ∧
    (und Try.prog 52 = true) ∧
    (ik Try.prog 52 = none) ∧
    (kd Try.prog 52 = none) ∧
    (esz Try.prog 52 = none) ∧
    (zc Try.prog 52 = some [.nils, .nils, .int .i64 0, .bool false]) ∧
    (ars Try.prog 52 = none) ∧
    (fld Try.prog 52 0 = some (0, true, 2)) ∧
    (fld Try.prog 52 1 = some (2, false, 1)) ∧
    (fld Try.prog 52 2 = some (3, false, 1)) ∧
    (plc Try.prog 52 = some fun i => [(0, 2), (2, 1), (3, 1)][i]?) ∧
    (tag Try.prog 54 = some true) ∧
    (tsz Try.prog 54 = some 128) ∧
    (und Try.prog 54 = true) ∧
    (ik Try.prog 54 = none) ∧
    (kd Try.prog 54 = some 266) ∧
    (esz Try.prog 54 = none) ∧
    (zc Try.prog 54 = some (List.replicate 128 (.int .i64 0))) ∧
    (ars Try.prog 54 = some (128, 1, false)) ∧
    (plc Try.prog 54 = some fun i => some (i * 1, 1)) ∧
    (tag Try.prog 59 = some true) ∧
    (tsz Try.prog 59 = some 3) ∧
    (und Try.prog 59 = true) ∧
    (ik Try.prog 59 = none) ∧
    (kd Try.prog 59 = some 16) ∧
    (esz Try.prog 59 = none) ∧
    (zc Try.prog 59 = some [.int .i64 0, .int .i64 0, .int .i64 0]) ∧
    (ars Try.prog 59 = none) ∧
    (fld Try.prog 59 0 = some (0, false, 1)) ∧
    (fld Try.prog 59 1 = some (1, false, 1)) ∧
    (fld Try.prog 59 2 = some (2, false, 1)) ∧
    (plc Try.prog 59 = some fun i => [(0, 1), (1, 1), (2, 1)][i]?) ∧
    (tag Try.prog 61 = some false) ∧
    (tsz Try.prog 61 = some 1) ∧
    (und Try.prog 61 = true) ∧
    (ik Try.prog 61 = none) ∧
    (kd Try.prog 61 = some 2) ∧
    (esz Try.prog 61 = none) ∧
    (zc Try.prog 61 = some [.nilp]) ∧
    (ars Try.prog 61 = none) :=
  ⟨tag3, tsz3, und3, ik3, kd3, esz3, zc3, ars3, tag4, tsz4, und4, ik4, kd4, esz4, zc4, ars4, tag22, tsz22, und22, ik22, kd22, esz22, elt22, zc22, ars22, eli22, tag25, tsz25, und25, ik25, kd25, esz25, zc25, ars25, tag33, tsz33, und33, ik33, kd33, esz33, zc33, ars33, tag36, tsz36, und36, ik36, kd36, esz36, zc36, ars36, tag37, tsz37, und37, ik37, kd37, esz37, zc37, ars37, tag40, tsz40, und40, ik40, kd40, esz40, elt40, zc40, ars40, eli40, tag43, tsz43, und43, ik43, kd43, esz43, zc43, ars43, fld43_0, fld43_1, plc43, tag45, tsz45, und45, ik45, kd45, esz45, zc45, ars45, fld45_0, plc45, tag48, tsz48, und48, ik48, kd48, esz48, elt48, zc48, ars48, eli48, tag50, tsz50, und50, ik50, kd50, esz50, zc50, ars50, fld50_0, fld50_1, plc50, tag52, tsz52, und52, ik52, kd52, esz52, zc52, ars52, fld52_0, fld52_1, fld52_2, plc52, tag54, tsz54, und54, ik54, kd54, esz54, zc54, ars54, plc54, tag59, tsz59, und59, ik59, kd59, esz59, zc59, ars59, fld59_0, fld59_1, fld59_2, plc59, tag61, tsz61, und61, ik61, kd61, esz61, zc61, ars61⟩
/-! ### naskh.digit.each: function 11 -/
def r11_0 : List PS := [.mk (some 4) (.assign (.const (.slice none 0 0))) none]
def r11_1 : List PS := [.mk (some 8) (.move (.tmp 0)) none,
  .mk (some 9) (.call ⟨(.builtin .len), #[(.tmp 8)], #[22]⟩) none,
  .mk (some 10) (.makeSlice 22 (.tmp 9) (.tmp 9)) none,
  .mk (some 5) (.assign (.tmp 10)) none]
def r11_2 : List PS := [.mk (some 11) (.move (.tmp 0)) none,
  .mk (some 12) (.call ⟨(.builtin .len), #[(.tmp 11)], #[22]⟩) none,
  .mk (some 13) (.move (.const (.int .i64 0))) none]
def r11_3 : List PS := [.mk (some 14) (.binOp .lss 3 (.tmp 13) (.tmp 12) 3) none]
def r11_4 : List PS := [.mk (some 15) (.move (.tmp 13)) none,
  .mk (some 16) (.indexAddr 22 (.tmp 11) (.tmp 13)) none,
  .mk (some 17) (.load 3 (.tmp 16)) none,
  .mk (some 6) (.assign (.tmp 15)) none,
  .mk (some 7) (.assign (.tmp 17)) none]
def r11_5 : List PS := [.mk (some 18) (.move (.tmp 5)) none,
  .mk (some 19) (.move (.tmp 6)) none,
  .mk (some 20) (.move (.tmp 1)) none,
  .mk (some 21) (.move (.tmp 6)) none,
  .mk (some 22) (.move (.tmp 7)) none,
  .mk (some 23) (.call ⟨(.value (.tmp 20)), #[(.tmp 21), (.tmp 22)], #[3, 3]⟩) none,
  .mk (some 24) (.indexAddr 22 (.tmp 18) (.tmp 19)) none,
  .mk none (.store 3 (.tmp 24) (.tmp 23)) none]
def r11_6 : List PS := [.mk (some 25) (.binOp .add 3 (.tmp 13) (.const (.int .i64 1)) 3) none,
  .mk (some 13) (.move (.tmp 25)) none]
def r11_7 : List PS := [.mk (some 26) (.move (.tmp 5)) none,
  .mk (some 4) (.assign (.tmp 26)) none]
def c11 : PC := (.seq (.reg false r11_0) (.seq (.reg false r11_1) (.seq (.seq (.reg false r11_2) (.block 0 (.loop (.seq (.reg false r11_3) (.seq (.cond (.tmp 14) .skip (.exit 0)) (.seq (.block 1 (.seq (.reg false r11_4) (.reg false r11_5))) (.reg false r11_6))))))) (.seq (.reg false r11_7) .ret))))
theorem e11 {args : List PV} {h : Heap} {K : PV → Heap → Prop} (hl : args.length = 2) (s : pwp Try.prog [] c11 (fin Try.prog [.tmp 4] h K) (slots0 (olds args)) h) : CanP Try.prog 11 args h K :=
  can_of2 (n := 27) mixed Try.func11 rfl (by kernel_rfl) (by rw [hl]; kernel_rfl) rfl (by kernel_rfl) s
/-! ### naskh.digit.which: function 20 -/
def r20_0 : List PS := [.mk (some 2) (.assign (.const (.int .i64 0))) none,
  .mk (some 3) (.assign (.const (.int .i64 0))) none]
def r20_1 : List PS := [.mk (some 7) (.buildSlice 22 3 #[(0, (.const (.int .i64 48))), (1, (.const (.int .i64 1632))), (2, (.const (.int .i64 1776)))]) none,
  .mk (some 8) (.call ⟨(.builtin .len), #[(.tmp 7)], #[22]⟩) none,
  .mk (some 9) (.move (.const (.int .i64 0))) none]
def r20_2 : List PS := [.mk (some 10) (.binOp .lss 3 (.tmp 9) (.tmp 8) 3) none]
def r20_3 : List PS := [.mk (some 11) (.indexAddr 22 (.tmp 7) (.tmp 9)) none,
  .mk (some 12) (.load 3 (.tmp 11)) none,
  .mk (some 5) (.assign (.tmp 12)) none]
def r20_4 : List PS := [.mk (some 13) (.move (.tmp 0)) none,
  .mk (some 14) (.move (.tmp 5)) none,
  .mk (some 15) (.binOp .sub 3 (.tmp 13) (.tmp 14) 3) none,
  .mk (some 6) (.assign (.tmp 15)) none]
def r20_5 : List PS := [.mk (some 16) (.move (.tmp 0)) none,
  .mk (some 17) (.move (.tmp 5)) none,
  .mk (some 18) (.binOp .geq 3 (.tmp 16) (.tmp 17) 3) none,
  .mk (some 19) (.move (.tmp 18)) none,
  .mk (some 20) (.move (.tmp 6)) (some (19, true)),
  .mk (some 21) (.binOp .lss 3 (.tmp 20) (.const (.int .i64 10)) 3) (some (19, true)),
  .mk (some 22) (.pick (.tmp 19) (.tmp 21) (.const (.bool false))) none]
def r20_6 : List PS := [.mk (some 23) (.move (.tmp 6)) none,
  .mk (some 24) (.move (.tmp 5)) none,
  .mk (some 2) (.assign (.tmp 23)) none,
  .mk (some 3) (.assign (.tmp 24)) none]
def r20_7 : List PS := [.mk (some 25) (.binOp .add 3 (.tmp 9) (.const (.int .i64 1)) 3) none,
  .mk (some 9) (.move (.tmp 25)) none]
def r20_8 : List PS := [.mk (some 2) (.assign (.const (.int .i64 0))) none,
  .mk (some 3) (.assign (.const (.int .i64 0))) none]
def c20 : PC := (.seq (.reg false r20_0) (.seq (.seq (.reg false r20_1) (.block 0 (.loop (.seq (.reg false r20_2) (.seq (.cond (.tmp 10) .skip (.exit 0)) (.seq (.block 1 (.seq (.reg false r20_3) (.seq (.reg false r20_4) (.seq (.reg false r20_5) (.cond (.tmp 22) (.seq (.reg false r20_6) .ret) .skip))))) (.reg false r20_7))))))) (.seq (.reg false r20_8) .ret)))
theorem e20 {args : List PV} {h : Heap} {K : PV → Heap → Prop} (hl : args.length = 1) (s : pwp Try.prog [] c20 (fin Try.prog [.tmp 2, .tmp 3] h K) (slots0 (olds args)) h) : CanP Try.prog 20 args h K :=
  can_of2 (n := 26) mixed Try.func20 rfl (by kernel_rfl) (by rw [hl]; kernel_rfl) rfl (by kernel_rfl) s
/-! ### naskh.digit.One: function 10 -/
def r10_0 : List PS := [.mk (some 6) (.assign (.const (.int .i64 0))) none]
def r10_1 : List PS := [.mk (some 10) (.move (.tmp 0)) none,
  .mk (some 11) (.call ⟨(.value (.func 20)), #[(.tmp 10)], #[3]⟩) none,
  .mk (some 9) (.move (.tmp 11)) none,
  .mk (some 12) (.extract (.tmp 9) 0) none,
  .mk (some 13) (.extract (.tmp 9) 1) none,
  .mk (some 7) (.assign (.tmp 12)) none,
  .mk (some 8) (.assign (.tmp 13)) none]
def r10_2 : List PS := [.mk (some 15) (.move (.tmp 8)) none,
  .mk (some 16) (.binOp .eql 3 (.tmp 15) (.const (.int .i64 0)) 3) none,
  .mk (some 14) (.assign (.tmp 16)) none]
def r10_3 : List PS := [.mk (some 17) (.move (.tmp 0)) none,
  .mk (some 6) (.assign (.tmp 17)) none]
def r10_4 : List PS := [.mk (some 19) (.move (.tmp 1)) none,
  .mk (some 20) (.unOp .not 4 (.tmp 19)) none,
  .mk (some 18) (.assign (.tmp 20)) none]
def r10_5 : List PS := [.mk (some 21) (.move (.tmp 7)) none,
  .mk (some 22) (.binOp .add 3 (.const (.int .i64 48)) (.tmp 21) 3) none,
  .mk (some 6) (.assign (.tmp 22)) none]
def r10_6 : List PS := [.mk (some 24) (.move (.tmp 8)) none,
  .mk (some 25) (.binOp .neq 3 (.tmp 24) (.const (.int .i64 48)) 3) none,
  .mk (some 23) (.assign (.tmp 25)) none]
def r10_7 : List PS := [.mk (some 26) (.move (.tmp 0)) none,
  .mk (some 6) (.assign (.tmp 26)) none]
def r10_8 : List PS := [.mk (some 28) (.move (.tmp 2)) none,
  .mk (some 27) (.assign (.tmp 28)) none]
def r10_9 : List PS := [.mk (some 29) (.move (.tmp 7)) none,
  .mk (some 30) (.binOp .add 3 (.const (.int .i64 1776)) (.tmp 29) 3) none,
  .mk (some 6) (.assign (.tmp 30)) none]
def r10_10 : List PS := [.mk (some 31) (.move (.tmp 7)) none,
  .mk (some 32) (.binOp .add 3 (.const (.int .i64 1632)) (.tmp 31) 3) none,
  .mk (some 6) (.assign (.tmp 32)) none]
def c10 : PC := (.seq (.reg false r10_0) (.seq (.reg false r10_1) (.seq (.block 0 (.seq (.reg false r10_2) (.cond (.tmp 14) (.seq (.reg false r10_3) .ret) (.seq (.reg false r10_4) (.cond (.tmp 18) (.seq (.reg false r10_5) .ret) (.seq (.reg false r10_6) (.cond (.tmp 23) (.seq (.reg false r10_7) .ret) (.seq (.reg false r10_8) (.cond (.tmp 27) (.seq (.reg false r10_9) .ret) .skip))))))))) (.seq (.reg false r10_10) .ret))))
theorem e10 {args : List PV} {h : Heap} {K : PV → Heap → Prop} (hl : args.length = 3) (s : pwp Try.prog [] c10 (fin Try.prog [.tmp 6] h K) (slots0 (olds args)) h) : CanP Try.prog 10 args h K :=
  can_of2 (n := 33) mixed Try.func10 rfl (by kernel_rfl) (by rw [hl]; kernel_rfl) rfl (by kernel_rfl) s
/-! ### naskh.digit.Text$1: function 12 -/
def r12_0 : List PS := [.mk (some 6) (.assign (.const (.int .i64 0))) none]
def r12_1 : List PS := [.mk (some 7) (.move (.tmp 1)) none,
  .mk (some 8) (.load 3 (.tmp 2)) none,
  .mk (some 9) (.binOp .eql 3 (.tmp 8) (.const (.int .i64 1)) 3) none,
  .mk (some 10) (.load 4 (.tmp 3)) none,
  .mk (some 11) (.call ⟨(.value (.func 10)), #[(.tmp 7), (.tmp 9), (.tmp 10)], #[3, 4, 4]⟩) none,
  .mk (some 6) (.assign (.tmp 11)) none]
def c12 : PC := (.seq (.reg false r12_0) (.seq (.reg false r12_1) .ret))
theorem e12 {args : List PV} {h : Heap} {K : PV → Heap → Prop} (hl : args.length = 4) (s : pwp Try.prog [] c12 (fin Try.prog [.tmp 6] h K) (slots0 (olds args)) h) : CanP Try.prog 12 args h K :=
  can_of2 (n := 12) mixed Try.func12 rfl (by kernel_rfl) (by rw [hl]; kernel_rfl) rfl (by kernel_rfl) s
/-! ### (*naskh.props.Props).made: function 22 -/
def r22_0 : List PS := [.mk (some 2) (.assign (.const (.bool false))) none]
def r22_1 : List PS := [.mk (some 3) (.move (.tmp 0)) none,
  .mk (some 4) (.binOp .neq 25 (.tmp 3) (.const (.pointer none)) 25) none,
  .mk (some 5) (.move (.tmp 4)) none,
  .mk (some 6) (.move (.tmp 0)) (some (5, true)),
  .mk (some 7) (.nilCheck (.tmp 6)) (some (5, true)),
  .mk (some 8) (.fieldAddr 45 (.tmp 7) 0) (some (5, true)),
  .mk (some 9) (.fieldAddr 43 (.tmp 8) 0) (some (5, true)),
  .mk (some 10) (.load 36 (.tmp 9)) (some (5, true)),
  .mk (some 11) (.binOp .neq 36 (.tmp 10) (.const (.pointer none)) 36) (some (5, true)),
  .mk (some 12) (.pick (.tmp 5) (.tmp 11) (.const (.bool false))) none,
  .mk (some 2) (.assign (.tmp 12)) none]
def c22 : PC := (.seq (.reg false r22_0) (.seq (.reg false r22_1) .ret))
theorem e22 {args : List PV} {h : Heap} {K : PV → Heap → Prop} (hl : args.length = 1) (s : pwp Try.prog [] c22 (fin Try.prog [.tmp 2] h K) (slots0 (olds args)) h) : CanP Try.prog 22 args h K :=
  can_of2 (n := 13) mixed Try.func22 rfl (by kernel_rfl) (by rw [hl]; kernel_rfl) rfl (by kernel_rfl) s
/-! ### naskh.props.code: function 23 -/
def r23_0 : List PS := [.mk (some 2) (.assign (.const (.bool false))) none]
def r23_1 : List PS := [.mk (some 3) (.move (.tmp 0)) none,
  .mk (some 4) (.binOp .geq 3 (.tmp 3) (.const (.int .i64 0)) 3) none,
  .mk (some 5) (.move (.tmp 4)) none,
  .mk (some 6) (.move (.tmp 0)) (some (5, true)),
  .mk (some 7) (.binOp .leq 3 (.tmp 6) (.const (.int .i64 1114111)) 3) (some (5, true)),
  .mk (some 8) (.pick (.tmp 5) (.tmp 7) (.const (.bool false))) none,
  .mk (some 2) (.assign (.tmp 8)) none]
def c23 : PC := (.seq (.reg false r23_0) (.seq (.reg false r23_1) .ret))
theorem e23 {args : List PV} {h : Heap} {K : PV → Heap → Prop} (hl : args.length = 1) (s : pwp Try.prog [] c23 (fin Try.prog [.tmp 2] h K) (slots0 (olds args)) h) : CanP Try.prog 23 args h K :=
  can_of2 (n := 9) mixed Try.func23 rfl (by kernel_rfl) (by rw [hl]; kernel_rfl) rfl (by kernel_rfl) s
/-! ### (*naskh.trie.Table).has: function 28 -/
def r28_0 : List PS := [.mk (some 4) (.assign (.const (.bool false))) none]
def r28_1 : List PS := [.mk (some 5) (.move (.tmp 0)) none,
  .mk (some 6) (.binOp .neq 36 (.tmp 5) (.const (.pointer none)) 36) none,
  .mk (some 7) (.move (.tmp 6)) none,
  .mk (some 8) (.move (.tmp 0)) (some (7, true)),
  .mk (some 9) (.nilCheck (.tmp 8)) (some (7, true)),
  .mk (some 10) (.fieldAddr 52 (.tmp 9) 2) (some (7, true)),
  .mk (some 11) (.load 4 (.tmp 10)) (some (7, true)),
  .mk (some 12) (.pick (.tmp 7) (.tmp 11) (.const (.bool false))) none,
  .mk (some 13) (.move (.tmp 12)) none,
  .mk (some 14) (.move (.tmp 1)) (some (13, true)),
  .mk (some 15) (.binOp .geq 3 (.tmp 14) (.const (.int .i64 0)) 3) (some (13, true)),
  .mk (some 16) (.pick (.tmp 13) (.tmp 15) (.const (.bool false))) none,
  .mk (some 17) (.move (.tmp 16)) none,
  .mk (some 18) (.move (.tmp 1)) (some (17, true)),
  .mk (some 19) (.binOp .leq 3 (.tmp 18) (.const (.int .i64 1114111)) 3) (some (17, true)),
  .mk (some 20) (.pick (.tmp 17) (.tmp 19) (.const (.bool false))) none,
  .mk (some 4) (.assign (.tmp 20)) none]
def c28 : PC := (.seq (.reg false r28_0) (.seq (.reg false r28_1) .ret))
theorem e28 {args : List PV} {h : Heap} {K : PV → Heap → Prop} (hl : args.length = 2) (s : pwp Try.prog [] c28 (fin Try.prog [.tmp 4] h K) (slots0 (olds args)) h) : CanP Try.prog 28 args h K :=
  can_of2 (n := 21) mixed Try.func28 rfl (by kernel_rfl) (by rw [hl]; kernel_rfl) rfl (by kernel_rfl) s
/-! ### (*naskh.trie.stages).at: function 29 -/
def r29_0 : List PS := [.mk (some 4) (.assign (.const (.int .i64 0))) none]
def r29_1 : List PS := [.mk (some 5) (.move (.tmp 0)) none,
  .mk (some 6) (.nilCheck (.tmp 5)) none,
  .mk (some 7) (.fieldAddr 50 (.tmp 6) 1) none,
  .mk (some 8) (.load 48 (.tmp 7)) none,
  .mk (some 9) (.move (.tmp 0)) none,
  .mk (some 10) (.nilCheck (.tmp 9)) none,
  .mk (some 11) (.fieldAddr 50 (.tmp 10) 0) none,
  .mk (some 12) (.load 22 (.tmp 11)) none,
  .mk (some 13) (.move (.tmp 1)) none,
  .mk (some 14) (.binOp .shr 3 (.tmp 13) (.const (.int .u64 7)) 62) none,
  .mk (some 15) (.indexAddr 22 (.tmp 12) (.tmp 14)) none,
  .mk (some 16) (.load 3 (.tmp 15)) none,
  .mk (some 17) (.move (.tmp 1)) none,
  .mk (some 18) (.binOp .and 3 (.tmp 17) (.const (.int .i64 127)) 3) none,
  .mk (some 19) (.indexAddr 48 (.tmp 8) (.tmp 16)) none,
  .mk (some 20) (.indexAddr 54 (.tmp 19) (.tmp 18)) none,
  .mk (some 21) (.load 3 (.tmp 20)) none,
  .mk (some 4) (.assign (.tmp 21)) none]
def c29 : PC := (.seq (.reg false r29_0) (.seq (.reg true r29_1) .ret))
theorem e29 {args : List PV} {h : Heap} {K : PV → Heap → Prop} (hl : args.length = 2) (s : pwp Try.prog [] c29 (fin Try.prog [.tmp 4] h K) (slots0 (olds args)) h) : CanP Try.prog 29 args h K :=
  can_of2 (n := 22) mixed Try.func29 rfl (by kernel_rfl) (by rw [hl]; kernel_rfl) rfl (by kernel_rfl) s
/-! ### (*naskh.trie.Table).Get: function 24 -/
def r24_0 : List PS := [.mk (some 4) (.assign (.const (.int .i64 0))) none]
def r24_1 : List PS := [.mk (some 6) (.move (.tmp 0)) none,
  .mk (some 7) (.move (.tmp 1)) none,
  .mk (some 8) (.call ⟨(.value (.func 28)), #[(.tmp 6), (.tmp 7)], #[36, 3]⟩) none,
  .mk (some 5) (.assign (.tmp 8)) none]
def r24_2 : List PS := [.mk (some 9) (.move (.tmp 0)) none,
  .mk (some 10) (.nilCheck (.tmp 9)) none,
  .mk (some 11) (.fieldAddr 52 (.tmp 10) 0) none,
  .mk (some 12) (.move (.tmp 1)) none,
  .mk (some 13) (.call ⟨(.value (.func 29)), #[(.tmp 11), (.tmp 12)], #[50, 3]⟩) none,
  .mk (some 4) (.assign (.tmp 13)) none]
def r24_3 : List PS := [.mk (some 15) (.move (.tmp 0)) none,
  .mk (some 16) (.binOp .eql 36 (.tmp 15) (.const (.pointer none)) 36) none,
  .mk (some 14) (.assign (.tmp 16)) none]
def r24_4 : List PS := [.mk (some 4) (.assign (.const (.int .i64 0))) none]
def r24_5 : List PS := [.mk (some 17) (.move (.tmp 0)) none,
  .mk (some 18) (.nilCheck (.tmp 17)) none,
  .mk (some 19) (.fieldAddr 52 (.tmp 18) 1) none,
  .mk (some 20) (.load 3 (.tmp 19)) none,
  .mk (some 4) (.assign (.tmp 20)) none]
def c24 : PC := (.seq (.reg false r24_0) (.seq (.block 0 (.seq (.reg false r24_1) (.cond (.tmp 5) (.seq (.reg false r24_2) .ret) (.seq (.reg false r24_3) (.cond (.tmp 14) (.seq (.reg false r24_4) .ret) .skip))))) (.seq (.reg false r24_5) .ret)))
theorem e24 {args : List PV} {h : Heap} {K : PV → Heap → Prop} (hl : args.length = 2) (s : pwp Try.prog [] c24 (fin Try.prog [.tmp 4] h K) (slots0 (olds args)) h) : CanP Try.prog 24 args h K :=
  can_of2 (n := 21) mixed Try.func24 rfl (by kernel_rfl) (by rw [hl]; kernel_rfl) rfl (by kernel_rfl) s
/-! ### (*naskh.props.Props).Class: function 15 -/
def r15_0 : List PS := [.mk (some 4) (.assign (.const (.int .i64 0))) none]
def r15_1 : List PS := [.mk (some 5) (.move (.tmp 0)) none,
  .mk (some 6) (.call ⟨(.value (.func 22)), #[(.tmp 5)], #[25]⟩) none,
  .mk (some 7) (.unOp .not 4 (.tmp 6)) none,
  .mk (some 8) (.move (.tmp 7)) none,
  .mk (some 9) (.move (.tmp 1)) (some (8, false)),
  .mk (some 10) (.call ⟨(.value (.func 23)), #[(.tmp 9)], #[3]⟩) (some (8, false)),
  .mk (some 11) (.unOp .not 4 (.tmp 10)) (some (8, false)),
  .mk (some 12) (.pick (.tmp 8) (.const (.bool true)) (.tmp 11)) none]
def r15_2 : List PS := [.mk (some 4) (.assign (.const (.int .i64 13))) none]
def r15_3 : List PS := [.mk (some 13) (.move (.tmp 0)) none,
  .mk (some 14) (.nilCheck (.tmp 13)) none,
  .mk (some 15) (.fieldAddr 45 (.tmp 14) 0) none,
  .mk (some 16) (.fieldAddr 43 (.tmp 15) 0) none,
  .mk (some 17) (.load 36 (.tmp 16)) none,
  .mk (some 18) (.move (.tmp 1)) none,
  .mk (some 19) (.call ⟨(.value (.func 24)), #[(.tmp 17), (.tmp 18)], #[36, 3]⟩) none,
  .mk (some 4) (.assign (.tmp 19)) none]
def c15 : PC := (.seq (.reg false r15_0) (.seq (.seq (.reg false r15_1) (.cond (.tmp 12) (.seq (.reg false r15_2) .ret) .skip)) (.seq (.reg false r15_3) .ret)))
theorem e15 {args : List PV} {h : Heap} {K : PV → Heap → Prop} (hl : args.length = 2) (s : pwp Try.prog [] c15 (fin Try.prog [.tmp 4] h K) (slots0 (olds args)) h) : CanP Try.prog 15 args h K :=
  can_of2 (n := 20) mixed Try.func15 rfl (by kernel_rfl) (by rw [hl]; kernel_rfl) rfl (by kernel_rfl) s
/-! ### (*naskh.props.Props).is: function 21 -/
def r21_0 : List PS := [.mk (some 6) (.assign (.const (.bool false))) none]
def r21_1 : List PS := [.mk (some 10) (.move (.tmp 0)) none,
  .mk (some 11) (.call ⟨(.value (.func 22)), #[(.tmp 10)], #[25]⟩) none,
  .mk (some 12) (.unOp .not 4 (.tmp 11)) none]
def r21_2 : List PS := [.mk (some 6) (.assign (.const (.bool false))) none]
def r21_3 : List PS := [.mk (some 13) (.move (.tmp 0)) none,
  .mk (some 14) (.move (.tmp 1)) none,
  .mk (some 15) (.call ⟨(.value (.func 15)), #[(.tmp 13), (.tmp 14)], #[25, 3]⟩) none,
  .mk (some 7) (.assign (.tmp 15)) none]
def r21_4 : List PS := [.mk (some 16) (.move (.tmp 2)) none,
  .mk (some 17) (.call ⟨(.builtin .len), #[(.tmp 16)], #[22]⟩) none,
  .mk (some 18) (.move (.const (.int .i64 0))) none]
def r21_5 : List PS := [.mk (some 19) (.binOp .lss 3 (.tmp 18) (.tmp 17) 3) none]
def r21_6 : List PS := [.mk (some 20) (.indexAddr 22 (.tmp 16) (.tmp 18)) none,
  .mk (some 21) (.load 3 (.tmp 20)) none,
  .mk (some 9) (.assign (.tmp 21)) none]
def r21_7 : List PS := [.mk (some 22) (.move (.tmp 7)) none,
  .mk (some 23) (.move (.tmp 9)) none,
  .mk (some 24) (.binOp .eql 3 (.tmp 22) (.tmp 23) 3) none]
def r21_8 : List PS := [.mk (some 6) (.assign (.const (.bool true))) none]
def r21_9 : List PS := [.mk (some 25) (.binOp .add 3 (.tmp 18) (.const (.int .i64 1)) 3) none,
  .mk (some 18) (.move (.tmp 25)) none]
def r21_10 : List PS := [.mk (some 6) (.assign (.const (.bool false))) none]
def c21 : PC := (.seq (.reg false r21_0) (.seq (.seq (.reg false r21_1) (.cond (.tmp 12) (.seq (.reg false r21_2) .ret) .skip)) (.seq (.reg false r21_3) (.seq (.seq (.reg false r21_4) (.block 0 (.loop (.seq (.reg false r21_5) (.seq (.cond (.tmp 19) .skip (.exit 0)) (.seq (.block 1 (.seq (.reg false r21_6) (.seq (.reg false r21_7) (.cond (.tmp 24) (.seq (.reg false r21_8) .ret) .skip)))) (.reg false r21_9))))))) (.seq (.reg false r21_10) .ret)))))
theorem e21 {args : List PV} {h : Heap} {K : PV → Heap → Prop} (hl : args.length = 3) (s : pwp Try.prog [] c21 (fin Try.prog [.tmp 6] h K) (slots0 (olds args)) h) : CanP Try.prog 21 args h K :=
  can_of2 (n := 26) mixed Try.func21 rfl (by kernel_rfl) (by rw [hl]; kernel_rfl) rfl (by kernel_rfl) s
/-! ### (*naskh.props.Props).Strong: function 14 -/
def r14_0 : List PS := [.mk (some 4) (.assign (.const (.bool false))) none]
def r14_1 : List PS := [.mk (some 5) (.move (.tmp 0)) none,
  .mk (some 6) (.move (.tmp 1)) none,
  .mk (some 7) (.buildSlice 22 3 #[(0, (.const (.int .i64 0))), (1, (.const (.int .i64 1))), (2, (.const (.int .i64 2)))]) none,
  .mk (some 8) (.call ⟨(.value (.func 21)), #[(.tmp 5), (.tmp 6), (.tmp 7)], #[25, 3, 22]⟩) none,
  .mk (some 4) (.assign (.tmp 8)) none]
def c14 : PC := (.seq (.reg false r14_0) (.seq (.reg false r14_1) .ret))
theorem e14 {args : List PV} {h : Heap} {K : PV → Heap → Prop} (hl : args.length = 2) (s : pwp Try.prog [] c14 (fin Try.prog [.tmp 4] h K) (slots0 (olds args)) h) : CanP Try.prog 14 args h K :=
  can_of2 (n := 9) mixed Try.func14 rfl (by kernel_rfl) (by rw [hl]; kernel_rfl) rfl (by kernel_rfl) s
/-! ### naskh.digit.Text$2: function 13 -/
def r13_0 : List PS := [.mk (some 7) (.assign (.const (.int .i64 0))) none]
def r13_1 : List PS := [.mk (some 8) (.load 25 (.tmp 2)) none,
  .mk (some 9) (.move (.tmp 1)) none,
  .mk (some 10) (.call ⟨(.value (.func 14)), #[(.tmp 8), (.tmp 9)], #[25, 3]⟩) none]
def r13_2 : List PS := [.mk (some 11) (.load 25 (.tmp 2)) none,
  .mk (some 12) (.move (.tmp 1)) none,
  .mk (some 13) (.call ⟨(.value (.func 15)), #[(.tmp 11), (.tmp 12)], #[25, 3]⟩) none,
  .mk (some 14) (.binOp .eql 3 (.tmp 13) (.const (.int .i64 2)) 3) none,
  .mk none (.store 4 (.tmp 3) (.tmp 14)) none]
def r13_3 : List PS := [.mk (some 15) (.load 4 (.tmp 3)) none,
  .mk (some 16) (.unOp .not 4 (.tmp 15)) none]
def r13_4 : List PS := [.mk (some 17) (.move (.tmp 1)) none,
  .mk (some 7) (.assign (.tmp 17)) none]
def r13_5 : List PS := [.mk (some 18) (.move (.tmp 1)) none,
  .mk (some 19) (.load 4 (.tmp 4)) none,
  .mk (some 20) (.call ⟨(.value (.func 10)), #[(.tmp 18), (.const (.bool true)), (.tmp 19)], #[3, 4, 4]⟩) none,
  .mk (some 7) (.assign (.tmp 20)) none]
def c13 : PC := (.seq (.reg false r13_0) (.seq (.seq (.reg false r13_1) (.cond (.tmp 10) (.reg false r13_2) .skip)) (.seq (.seq (.reg false r13_3) (.cond (.tmp 16) (.seq (.reg false r13_4) .ret) .skip)) (.seq (.reg false r13_5) .ret))))
theorem e13 {args : List PV} {h : Heap} {K : PV → Heap → Prop} (hl : args.length = 5) (s : pwp Try.prog [] c13 (fin Try.prog [.tmp 7] h K) (slots0 (olds args)) h) : CanP Try.prog 13 args h K :=
  can_of2 (n := 21) mixed Try.func13 rfl (by kernel_rfl) (by rw [hl]; kernel_rfl) rfl (by kernel_rfl) s
/-! ### naskh.digit.Text$3: function 16 -/
def r16_0 : List PS := [.mk (some 4) (.assign (.const (.int .i64 0))) none]
def r16_1 : List PS := [.mk (some 5) (.move (.tmp 1)) none,
  .mk (some 4) (.assign (.tmp 5)) none]
def c16 : PC := (.seq (.reg false r16_0) (.seq (.reg false r16_1) .ret))
theorem e16 {args : List PV} {h : Heap} {K : PV → Heap → Prop} (hl : args.length = 2) (s : pwp Try.prog [] c16 (fin Try.prog [.tmp 4] h K) (slots0 (olds args)) h) : CanP Try.prog 16 args h K :=
  can_of2 (n := 6) mixed Try.func16 rfl (by kernel_rfl) (by rw [hl]; kernel_rfl) rfl (by kernel_rfl) s
/-! ### naskh.digit.Text: function 6 -/
def r6_0 : List PS := [.mk (some 4) (.box 25 (.tmp 0)) none,
  .mk (some 6) (.box 3 (.tmp 2)) none,
  .mk (some 7) (.box 4 (.tmp 3)) none,
  .mk (some 8) (.assign (.const (.slice none 0 0))) none]
def r6_1 : List PS := [.mk (some 9) (.alloc 4) none,
  .mk none (.store 4 (.tmp 9) (.const (.bool false))) none]
def r6_2 : List PS := [.mk (some 10) (.load 3 (.tmp 6)) none]
def r6_3 : List PS := [.mk (some 12) (.binOp .eql 3 (.tmp 10) (.const (.int .i64 1)) 3) none,
  .mk (some 11) (.assign (.tmp 12)) none]
def r6_4 : List PS := [.mk (some 13) (.binOp .eql 3 (.tmp 10) (.const (.int .i64 2)) 3) none,
  .mk (some 11) (.assign (.tmp 13)) none]
def r6_5 : List PS := [.mk (some 15) (.binOp .eql 3 (.tmp 10) (.const (.int .i64 4)) 3) none,
  .mk (some 14) (.assign (.tmp 15)) none]
def r6_6 : List PS := [.mk (some 17) (.binOp .eql 3 (.tmp 10) (.const (.int .i64 3)) 3) none,
  .mk (some 16) (.assign (.tmp 17)) none]
def r6_7 : List PS := [.mk (some 18) (.move (.tmp 1)) none,
  .mk (some 19) (.makeFunc (.func 12) #[] #[(.tmp 6), (.tmp 7)]) none,
  .mk (some 20) (.call ⟨(.value (.func 11)), #[(.tmp 18), (.tmp 19)], #[22, 33]⟩) none,
  .mk (some 8) (.assign (.tmp 20)) none]
def r6_8 : List PS := [.mk none (.store 4 (.tmp 9) (.const (.bool true))) none]
def r6_9 : List PS := [.mk (some 21) (.move (.tmp 1)) none,
  .mk (some 22) (.makeFunc (.func 13) #[] #[(.tmp 4), (.tmp 9), (.tmp 7)]) none,
  .mk (some 23) (.call ⟨(.value (.func 11)), #[(.tmp 21), (.tmp 22)], #[22, 33]⟩) none,
  .mk (some 8) (.assign (.tmp 23)) none]
def r6_10 : List PS := [.mk (some 24) (.move (.tmp 1)) none,
  .mk (some 25) (.call ⟨(.value (.func 11)), #[(.tmp 24), (.func 16)], #[22, 33]⟩) none,
  .mk (some 8) (.assign (.tmp 25)) none]
def c6 : PC := (.seq (.reg false r6_0) (.seq (.reg false r6_1) (.seq (.seq (.reg false r6_2) (.block 0 (.seq (.block 3 (.seq (.block 2 (.seq (.block 1 (.seq (.seq (.seq (.seq (.reg false r6_3) (.cond (.tmp 11) .skip (.reg false r6_4))) (.cond (.tmp 11) (.exit 1) .skip)) (.seq (.seq (.reg false r6_5) (.cond (.tmp 14) (.exit 2) .skip)) (.seq (.reg false r6_6) (.cond (.tmp 16) (.exit 3) .skip)))) (.exit 0))) (.seq (.seq (.reg false r6_7) .ret) (.exit 0)))) (.reg false r6_8))) (.seq (.seq (.reg false r6_9) .ret) (.exit 0))))) (.seq (.reg false r6_10) .ret))))
theorem e6 {args : List PV} {h : Heap} {K : PV → Heap → Prop} (hl : args.length = 4) (s : pwp Try.prog [9] c6 (fin Try.prog [.tmp 8] h K) (slots0 (olds args)) h) : CanP Try.prog 6 args h K :=
  can_of2 (n := 26) mixed Try.func6 rfl (by kernel_rfl) (by rw [hl]; kernel_rfl) rfl (by kernel_rfl) s
/-! ### naskh.trie.may: function 25 -/
def r25_0 : List PS := [.mk (some 2) (.assign (.const (.int .i64 0))) none]
def r25_1 : List PS := [.mk (some 6) (.move (.tmp 0)) none,
  .mk (some 7) (.call ⟨(.builtin .len), #[(.tmp 6)], #[40]⟩) none,
  .mk (some 8) (.binOp .gtr 3 (.tmp 7) (.const (.int .i64 4096)) 3) none]
def r25_2 : List PS := [.mk (some 2) (.assign (.const (.int .i64 6))) none]
def r25_3 : List PS := [.mk (some 3) (.assign (.const (.int .i64 (-1)))) none]
def r25_4 : List PS := [.mk (some 9) (.move (.tmp 0)) none,
  .mk (some 10) (.call ⟨(.builtin .len), #[(.tmp 9)], #[40]⟩) none,
  .mk (some 11) (.move (.const (.int .i64 0))) none]
def r25_5 : List PS := [.mk (some 12) (.binOp .lss 3 (.tmp 11) (.tmp 10) 3) none]
def r25_6 : List PS := [.mk (some 13) (.indexAddr 40 (.tmp 9) (.tmp 11)) none,
  .mk (some 14) (.load 59 (.tmp 13)) none,
  .mk (some 5) (.alloc 59) none,
  .mk none (.store 59 (.tmp 5) (.tmp 14)) none,
  .frz 5]
def r25_7 : List PS := [.mk (some 15) (.fieldAddr 59 (.tmp 5) 0) none,
  .mk (some 16) (.load 3 (.tmp 15)) none,
  .mk (some 17) (.move (.tmp 3)) none,
  .mk (some 18) (.binOp .leq 3 (.tmp 16) (.tmp 17) 3) none,
  .mk (some 19) (.move (.tmp 18)) none,
  .mk (some 20) (.fieldAddr 59 (.tmp 5) 1) (some (19, false)),
  .mk (some 21) (.load 3 (.tmp 20)) (some (19, false)),
  .mk (some 22) (.fieldAddr 59 (.tmp 5) 0) (some (19, false)),
  .mk (some 23) (.load 3 (.tmp 22)) (some (19, false)),
  .mk (some 24) (.binOp .lss 3 (.tmp 21) (.tmp 23) 3) (some (19, false)),
  .mk (some 25) (.pick (.tmp 19) (.const (.bool true)) (.tmp 24)) none,
  .mk (some 26) (.move (.tmp 25)) none,
  .mk (some 27) (.fieldAddr 59 (.tmp 5) 1) (some (26, false)),
  .mk (some 28) (.load 3 (.tmp 27)) (some (26, false)),
  .mk (some 29) (.binOp .gtr 3 (.tmp 28) (.const (.int .i64 1114111)) 3) (some (26, false)),
  .mk (some 30) (.pick (.tmp 26) (.const (.bool true)) (.tmp 29)) none]
def r25_8 : List PS := [.mk (some 2) (.assign (.const (.int .i64 10))) none]
def r25_9 : List PS := [.mk (some 31) (.fieldAddr 59 (.tmp 5) 1) none,
  .mk (some 32) (.load 3 (.tmp 31)) none,
  .mk (some 3) (.assign (.tmp 32)) none]
def r25_10 : List PS := [.mk (some 33) (.binOp .add 3 (.tmp 11) (.const (.int .i64 1)) 3) none,
  .mk (some 11) (.move (.tmp 33)) none]
def r25_11 : List PS := [.mk (some 2) (.assign (.const (.int .i64 0))) none]
def c25 : PC := (.seq (.reg false r25_0) (.seq (.seq (.reg false r25_1) (.cond (.tmp 8) (.seq (.reg false r25_2) .ret) .skip)) (.seq (.reg false r25_3) (.seq (.seq (.reg false r25_4) (.block 0 (.loop (.seq (.reg false r25_5) (.seq (.cond (.tmp 12) .skip (.exit 0)) (.seq (.block 1 (.seq (.reg false r25_6) (.seq (.seq (.reg false r25_7) (.cond (.tmp 30) (.seq (.reg false r25_8) .ret) .skip)) (.reg false r25_9)))) (.reg false r25_10))))))) (.seq (.reg false r25_11) .ret)))))
theorem e25 {args : List PV} {h : Heap} {K : PV → Heap → Prop} (hl : args.length = 1) (s : pwp Try.prog [5] c25 (fin Try.prog [.tmp 2] h K) (slots0 (olds args)) h) : CanP Try.prog 25 args h K :=
  can_of2 (n := 34) mixed Try.func25 rfl (by kernel_rfl) (by rw [hl]; kernel_rfl) rfl (by kernel_rfl) s
/-! ### naskh.trie.even: function 30 -/
def r30_0 : List PS := [.mk (some 2) (.alloc 54) none]
def r30_1 : List PS := [.mk (some 3) (.alloc 54) none]
def r30_2 : List PS := [.mk (some 5) (.move (.const (.int .i64 0))) none]
def r30_3 : List PS := [.mk (some 6) (.binOp .lss 3 (.tmp 5) (.const (.int .i64 128)) 3) none]
def r30_4 : List PS := [.mk (some 7) (.move (.tmp 5)) none,
  .mk (some 4) (.assign (.tmp 7)) none]
def r30_5 : List PS := [.mk (some 8) (.move (.tmp 4)) none,
  .mk (some 9) (.move (.tmp 0)) none,
  .mk (some 10) (.indexAddr 54 (.tmp 3) (.tmp 8)) none,
  .mk none (.store 3 (.tmp 10) (.tmp 9)) none]
def r30_6 : List PS := [.mk (some 11) (.binOp .add 3 (.tmp 5) (.const (.int .i64 1)) 3) none,
  .mk (some 5) (.move (.tmp 11)) none]
def r30_7 : List PS := [.mk (some 12) (.load 54 (.tmp 3)) none,
  .mk none (.store 54 (.tmp 2) (.tmp 12)) none]
def c30 : PC := (.seq (.reg false r30_0) (.seq (.reg false r30_1) (.seq (.seq (.reg false r30_2) (.block 0 (.loop (.seq (.reg false r30_3) (.seq (.cond (.tmp 6) .skip (.exit 0)) (.seq (.block 1 (.seq (.reg false r30_4) (.reg false r30_5))) (.reg false r30_6))))))) (.seq (.reg false r30_7) .ret))))
theorem e30 {args : List PV} {h : Heap} {K : PV → Heap → Prop} (hl : args.length = 1) (s : pwp Try.prog [2, 3] c30 (fin Try.prog [.cell 2 54] h K) (slots0 (olds args)) h) : CanP Try.prog 30 args h K :=
  can_of2 (n := 13) mixed Try.func30 rfl (by kernel_rfl) (by rw [hl]; kernel_rfl) rfl (by kernel_rfl) s
/-! ### naskh.trie.filled: function 26 -/
def r26_0 : List PS := [.mk (some 8) (.alloc 54) none,
  .mk (some 9) (.assign (.const (.int .i64 0))) none]
def r26_1 : List PS := [.mk (some 14) (.move (.tmp 3)) none,
  .mk (some 15) (.call ⟨(.value (.func 30)), #[(.tmp 14)], #[3]⟩) none,
  .mk (some 10) (.alloc 54) none,
  .mk none (.store 54 (.tmp 10) (.tmp 15)) none]
def r26_2 : List PS := [.mk (some 16) (.move (.tmp 1)) none,
  .mk (some 17) (.binOp .mul 3 (.tmp 16) (.const (.int .i64 128)) 3) none,
  .mk (some 11) (.assign (.tmp 17)) none]
def r26_3 : List PS := [.mk (some 18) (.move (.tmp 2)) none,
  .mk (some 19) (.move (.tmp 0)) none,
  .mk (some 20) (.call ⟨(.builtin .len), #[(.tmp 19)], #[40]⟩) none,
  .mk (some 21) (.binOp .lss 3 (.tmp 18) (.tmp 20) 3) none,
  .mk (some 22) (.move (.tmp 21)) none,
  .mk (some 23) (.move (.tmp 0)) (some (22, true)),
  .mk (some 24) (.move (.tmp 2)) (some (22, true)),
  .mk (some 25) (.indexAddr 40 (.tmp 23) (.tmp 24)) (some (22, true)),
  .mk (some 26) (.fieldAddr 59 (.tmp 25) 0) (some (22, true)),
  .mk (some 27) (.load 3 (.tmp 26)) (some (22, true)),
  .mk (some 28) (.move (.tmp 11)) (some (22, true)),
  .mk (some 29) (.binOp .add 3 (.tmp 28) (.const (.int .i64 128)) 3) (some (22, true)),
  .mk (some 30) (.binOp .lss 3 (.tmp 27) (.tmp 29) 3) (some (22, true)),
  .mk (some 31) (.pick (.tmp 22) (.tmp 30) (.const (.bool false))) none]
def r26_4 : List PS := [.mk (some 34) (.move (.tmp 0)) none,
  .mk (some 35) (.move (.tmp 2)) none,
  .mk (some 36) (.indexAddr 40 (.tmp 34) (.tmp 35)) none,
  .mk (some 37) (.load 59 (.tmp 36)) none,
  .mk (some 12) (.alloc 59) none,
  .mk none (.store 59 (.tmp 12) (.tmp 37)) none,
  .frz 12]
def r26_5 : List PS := [.mk (some 38) (.fieldAddr 59 (.tmp 12) 0) none,
  .mk (some 39) (.load 3 (.tmp 38)) none,
  .mk (some 40) (.move (.tmp 11)) none,
  .mk (some 41) (.call ⟨(.builtin .max), #[(.tmp 39), (.tmp 40)], #[3, 3]⟩) none,
  .mk (some 13) (.assign (.tmp 41)) none]
def r26_6 : List PS := [.mk (some 42) (.move (.tmp 13)) none,
  .mk (some 43) (.fieldAddr 59 (.tmp 12) 1) none,
  .mk (some 44) (.load 3 (.tmp 43)) none,
  .mk (some 45) (.move (.tmp 11)) none,
  .mk (some 46) (.binOp .add 3 (.tmp 45) (.const (.int .i64 128)) 3) none,
  .mk (some 47) (.binOp .sub 3 (.tmp 46) (.const (.int .i64 1)) 3) none,
  .mk (some 48) (.call ⟨(.builtin .min), #[(.tmp 44), (.tmp 47)], #[3, 3]⟩) none,
  .mk (some 49) (.binOp .leq 3 (.tmp 42) (.tmp 48) 3) none]
def r26_7 : List PS := [.mk (some 52) (.move (.tmp 13)) none,
  .mk (some 53) (.move (.tmp 11)) none,
  .mk (some 54) (.binOp .sub 3 (.tmp 52) (.tmp 53) 3) none,
  .mk (some 55) (.fieldAddr 59 (.tmp 12) 2) none,
  .mk (some 56) (.load 3 (.tmp 55)) none,
  .mk (some 57) (.indexAddr 54 (.tmp 10) (.tmp 54)) none,
  .mk none (.store 3 (.tmp 57) (.tmp 56)) none]
def r26_8 : List PS := [.mk (some 50) (.move (.tmp 13)) none,
  .mk (some 51) (.binOp .add 3 (.tmp 50) (.const (.int .i64 1)) 3) none,
  .mk (some 13) (.assign (.tmp 51)) none]
def r26_9 : List PS := [.mk (some 58) (.fieldAddr 59 (.tmp 12) 1) none,
  .mk (some 59) (.load 3 (.tmp 58)) none,
  .mk (some 60) (.move (.tmp 11)) none,
  .mk (some 61) (.binOp .add 3 (.tmp 60) (.const (.int .i64 128)) 3) none,
  .mk (some 62) (.binOp .geq 3 (.tmp 59) (.tmp 61) 3) none]
def r26_10 : List PS := [.mk (some 32) (.move (.tmp 2)) none,
  .mk (some 33) (.binOp .add 3 (.tmp 32) (.const (.int .i64 1)) 3) none,
  .mk (some 2) (.assign (.tmp 33)) none]
def r26_11 : List PS := [.mk (some 63) (.load 54 (.tmp 10)) none,
  .mk (some 64) (.move (.tmp 2)) none,
  .mk none (.store 54 (.tmp 8) (.tmp 63)) none,
  .mk (some 9) (.assign (.tmp 64)) none]
def c26 : PC := (.seq (.reg false r26_0) (.seq (.reg false r26_1) (.seq (.reg false r26_2) (.seq (.block 0 (.loop (.seq (.seq (.reg false r26_3) (.cond (.tmp 31) .skip (.exit 0))) (.seq (.block 1 (.seq (.reg false r26_4) (.seq (.seq (.reg false r26_5) (.block 2 (.loop (.seq (.seq (.reg false r26_6) (.cond (.tmp 49) .skip (.exit 2))) (.seq (.block 3 (.reg false r26_7)) (.reg false r26_8)))))) (.seq (.reg false r26_9) (.cond (.tmp 62) (.exit 0) .skip))))) (.reg false r26_10))))) (.seq (.reg false r26_11) .ret)))))
theorem e26 {args : List PV} {h : Heap} {K : PV → Heap → Prop} (hl : args.length = 4) (s : pwp Try.prog [8, 10, 12] c26 (fin Try.prog [.cell 8 54, .tmp 9] h K) (slots0 (olds args)) h) : CanP Try.prog 26 args h K :=
  can_of2 (n := 65) mixed Try.func26 rfl (by kernel_rfl) (by rw [hl]; kernel_rfl) rfl (by kernel_rfl) s
/-! ### (*naskh.trie.stages).add: function 27 -/
def r27_0 : List PS := [.mk (some 3) (.box 54 (.tmp 1)) none,
  .mk (some 4) (.assign (.const (.int .i64 0))) none]
def r27_1 : List PS := [.mk (some 6) (.move (.tmp 0)) none,
  .mk (some 7) (.nilCheck (.tmp 6)) none,
  .mk (some 8) (.fieldAddr 50 (.tmp 7) 1) none,
  .mk (some 9) (.load 48 (.tmp 8)) none,
  .mk (some 10) (.call ⟨(.builtin .len), #[(.tmp 9)], #[48]⟩) none,
  .mk (some 11) (.move (.const (.int .i64 0))) none]
def r27_2 : List PS := [.mk (some 12) (.binOp .lss 3 (.tmp 11) (.tmp 10) 3) none]
def r27_3 : List PS := [.mk (some 13) (.move (.tmp 11)) none,
  .mk (some 5) (.assign (.tmp 13)) none]
def r27_4 : List PS := [.mk (some 14) (.move (.tmp 0)) none,
  .mk (some 15) (.nilCheck (.tmp 14)) none,
  .mk (some 16) (.fieldAddr 50 (.tmp 15) 1) none,
  .mk (some 17) (.load 48 (.tmp 16)) none,
  .mk (some 18) (.move (.tmp 5)) none,
  .mk (some 19) (.indexAddr 48 (.tmp 17) (.tmp 18)) none,
  .mk (some 20) (.load 54 (.tmp 19)) none,
  .mk (some 21) (.load 54 (.tmp 3)) none,
  .mk (some 22) (.binOp .eql 54 (.tmp 20) (.tmp 21) 54) none]
def r27_5 : List PS := [.mk (some 23) (.move (.tmp 5)) none,
  .mk (some 4) (.assign (.tmp 23)) none]
def r27_6 : List PS := [.mk (some 24) (.binOp .add 3 (.tmp 11) (.const (.int .i64 1)) 3) none,
  .mk (some 11) (.move (.tmp 24)) none]
def r27_7 : List PS := [.mk (some 25) (.move (.tmp 0)) none,
  .mk (some 26) (.move (.tmp 0)) none,
  .mk (some 27) (.nilCheck (.tmp 26)) none,
  .mk (some 28) (.fieldAddr 50 (.tmp 27) 1) none,
  .mk (some 29) (.load 48 (.tmp 28)) none,
  .mk (some 30) (.load 54 (.tmp 3)) none,
  .mk (some 31) (.buildSlice 48 1 #[(0, (.tmp 30))]) none,
  .mk (some 32) (.call ⟨(.builtin .append), #[(.tmp 29), (.tmp 31)], #[48, 48]⟩) none,
  .mk (some 33) (.nilCheck (.tmp 25)) none,
  .mk (some 34) (.fieldAddr 50 (.tmp 33) 1) none,
  .mk none (.store 48 (.tmp 34) (.tmp 32)) none]
def r27_8 : List PS := [.mk (some 35) (.move (.tmp 0)) none,
  .mk (some 36) (.nilCheck (.tmp 35)) none,
  .mk (some 37) (.fieldAddr 50 (.tmp 36) 1) none,
  .mk (some 38) (.load 48 (.tmp 37)) none,
  .mk (some 39) (.call ⟨(.builtin .len), #[(.tmp 38)], #[48]⟩) none,
  .mk (some 40) (.binOp .sub 3 (.tmp 39) (.const (.int .i64 1)) 3) none,
  .mk (some 4) (.assign (.tmp 40)) none]
def c27 : PC := (.seq (.reg false r27_0) (.seq (.seq (.reg false r27_1) (.block 0 (.loop (.seq (.reg false r27_2) (.seq (.cond (.tmp 12) .skip (.exit 0)) (.seq (.block 1 (.seq (.reg false r27_3) (.seq (.reg true r27_4) (.cond (.tmp 22) (.seq (.reg false r27_5) .ret) .skip)))) (.reg false r27_6))))))) (.seq (.reg true r27_7) (.seq (.reg false r27_8) .ret))))
theorem e27 {args : List PV} {h : Heap} {K : PV → Heap → Prop} (hl : args.length = 2) (s : pwp Try.prog [] c27 (fin Try.prog [.tmp 4] h K) (slots0 (olds args)) h) : CanP Try.prog 27 args h K :=
  can_of2 (n := 41) mixed Try.func27 rfl (by kernel_rfl) (by rw [hl]; kernel_rfl) rfl (by kernel_rfl) s
/-! ### naskh.trie.Build: function 17 -/
def r17_0 : List PS := [.mk (some 4) (.assign (.const (.pointer none))) none,
  .mk (some 5) (.assign (.const (.int .i64 0))) none]
def r17_1 : List PS := [.mk (some 13) (.move (.tmp 0)) none,
  .mk (some 14) (.call ⟨(.value (.func 25)), #[(.tmp 13)], #[40]⟩) none,
  .mk (some 6) (.assign (.tmp 14)) none]
def r17_2 : List PS := [.mk (some 15) (.move (.tmp 6)) none,
  .mk (some 16) (.binOp .neq 37 (.tmp 15) (.const (.int .i64 0)) 37) none]
def r17_3 : List PS := [.mk (some 17) (.move (.tmp 6)) none,
  .mk (some 4) (.assign (.const (.pointer none))) none,
  .mk (some 5) (.assign (.tmp 17)) none]
def r17_4 : List PS := [.mk (some 18) (.move (.tmp 1)) none,
  .mk (some 19) (.build 52 #[(1, (.tmp 18)), (2, (.const (.bool true)))]) none,
  .mk (some 20) (.box 52 (.tmp 19)) none,
  .mk (some 7) (.assign (.tmp 20)) none]
def r17_5 : List PS := [.mk (some 21) (.move (.tmp 7)) none,
  .mk (some 22) (.makeSlice 22 (.const (.int .i64 8704)) (.const (.int .i64 8704))) none,
  .mk (some 23) (.nilCheck (.tmp 21)) none,
  .mk (some 24) (.fieldAddr 52 (.tmp 23) 0) none,
  .mk (some 25) (.fieldAddr 50 (.tmp 24) 0) none,
  .mk none (.store 22 (.tmp 25) (.tmp 22)) none]
def r17_6 : List PS := [.mk (some 8) (.assign (.const (.int .i64 0))) none]
def r17_7 : List PS := [.mk (some 26) (.build 54 #[]) none,
  .mk (some 9) (.alloc 54) none,
  .mk none (.store 54 (.tmp 9) (.tmp 26)) none,
  .mk (some 10) (.assign (.const (.int .i64 (-1)))) none]
def r17_8 : List PS := [.mk (some 27) (.move (.const (.int .i64 0))) none]
def r17_9 : List PS := [.mk (some 28) (.binOp .lss 3 (.tmp 27) (.const (.int .i64 8704)) 3) none]
def r17_10 : List PS := [.mk (some 29) (.move (.tmp 27)) none,
  .mk (some 11) (.assign (.tmp 29)) none]
def r17_11 : List PS := [.mk (some 12) (.alloc 54) none]
def r17_12 : List PS := [.mk (some 31) (.move (.tmp 0)) none,
  .mk (some 32) (.move (.tmp 11)) none,
  .mk (some 33) (.move (.tmp 8)) none,
  .mk (some 34) (.move (.tmp 1)) none,
  .mk (some 35) (.call ⟨(.value (.func 26)), #[(.tmp 31), (.tmp 32), (.tmp 33), (.tmp 34)], #[40, 3, 3, 3]⟩) none,
  .mk (some 30) (.move (.tmp 35)) none,
  .mk (some 36) (.extract (.tmp 30) 0) none,
  .mk (some 37) (.extract (.tmp 30) 1) none,
  .mk none (.store 54 (.tmp 12) (.tmp 36)) none,
  .frz 12,
  .mk (some 8) (.assign (.tmp 37)) none]
def r17_13 : List PS := [.mk (some 38) (.move (.tmp 10)) none,
  .mk (some 39) (.binOp .lss 3 (.tmp 38) (.const (.int .i64 0)) 3) none,
  .mk (some 40) (.move (.tmp 39)) none,
  .mk (some 41) (.load 54 (.tmp 12)) (some (40, false)),
  .mk (some 42) (.load 54 (.tmp 9)) (some (40, false)),
  .mk (some 43) (.binOp .neq 54 (.tmp 41) (.tmp 42) 54) (some (40, false)),
  .mk (some 44) (.pick (.tmp 40) (.const (.bool true)) (.tmp 43)) none]
def r17_14 : List PS := [.mk (some 45) (.load 54 (.tmp 12)) none,
  .mk (some 46) (.move (.tmp 7)) none,
  .mk (some 47) (.nilCheck (.tmp 46)) none,
  .mk (some 48) (.fieldAddr 52 (.tmp 47) 0) none,
  .mk (some 49) (.load 54 (.tmp 12)) none,
  .mk (some 50) (.call ⟨(.value (.func 27)), #[(.tmp 48), (.tmp 49)], #[50, 54]⟩) none,
  .mk none (.store 54 (.tmp 9) (.tmp 45)) none,
  .mk (some 10) (.assign (.tmp 50)) none]
def r17_15 : List PS := [.mk (some 51) (.move (.tmp 7)) none,
  .mk (some 52) (.nilCheck (.tmp 51)) none,
  .mk (some 53) (.fieldAddr 52 (.tmp 52) 0) none,
  .mk (some 54) (.fieldAddr 50 (.tmp 53) 0) none,
  .mk (some 55) (.load 22 (.tmp 54)) none,
  .mk (some 56) (.move (.tmp 11)) none,
  .mk (some 57) (.move (.tmp 10)) none,
  .mk (some 58) (.indexAddr 22 (.tmp 55) (.tmp 56)) none,
  .mk none (.store 3 (.tmp 58) (.tmp 57)) none]
def r17_16 : List PS := [.mk (some 59) (.binOp .add 3 (.tmp 27) (.const (.int .i64 1)) 3) none,
  .mk (some 27) (.move (.tmp 59)) none]
def r17_17 : List PS := [.frzc 7 0,
  .frzc 7 1,
  .mk (some 60) (.move (.tmp 7)) none,
  .mk (some 4) (.assign (.tmp 60)) none,
  .mk (some 5) (.assign (.const (.int .i64 0))) none]
def c17 : PC := (.seq (.reg false r17_0) (.seq (.seq (.reg false r17_1) (.seq (.reg false r17_2) (.cond (.tmp 16) (.seq (.reg false r17_3) .ret) .skip))) (.seq (.reg false r17_4) (.seq (.reg false r17_5) (.seq (.reg false r17_6) (.seq (.reg false r17_7) (.seq (.seq (.reg false r17_8) (.block 0 (.loop (.seq (.reg false r17_9) (.seq (.cond (.tmp 28) .skip (.exit 0)) (.seq (.block 1 (.seq (.reg false r17_10) (.seq (.reg false r17_11) (.seq (.reg false r17_12) (.seq (.seq (.reg false r17_13) (.cond (.tmp 44) (.reg true r17_14) .skip)) (.reg false r17_15)))))) (.reg false r17_16))))))) (.seq (.reg false r17_17) .ret))))))))
theorem e17 {args : List PV} {h : Heap} {K : PV → Heap → Prop} (hl : args.length = 2) (s : pwp Try.prog [9, 12, 20, 45, 50] c17 (fin Try.prog [.tmp 4, .tmp 5] h K) (slots0 (olds args)) h) : CanP Try.prog 17 args h K :=
  can_of2 (n := 61) mixed Try.func17 rfl (by kernel_rfl) (by rw [hl]; kernel_rfl) rfl (by kernel_rfl) s
/-! ### naskh.api.BidiRanges: function 18 -/
def r18_0 : List PS := [.mk (some 0) (.assign (.const (.slice none 0 0))) none]
def r18_1 : List PS := [.mk (some 1) (.build 59 #[(0, (.const (.int .i64 0))), (1, (.const (.int .i64 8))), (2, (.const (.int .i64 9)))]) none,
  .mk (some 2) (.build 59 #[(0, (.const (.int .i64 9))), (1, (.const (.int .i64 9))), (2, (.const (.int .i64 11)))]) none,
  .mk (some 3) (.build 59 #[(0, (.const (.int .i64 10))), (1, (.const (.int .i64 10))), (2, (.const (.int .i64 10)))]) none,
  .mk (some 4) (.build 59 #[(0, (.const (.int .i64 11))), (1, (.const (.int .i64 11))), (2, (.const (.int .i64 11)))]) none,
  .mk (some 5) (.build 59 #[(0, (.const (.int .i64 12))), (1, (.const (.int .i64 12))), (2, (.const (.int .i64 12)))]) none,
  .mk (some 6) (.build 59 #[(0, (.const (.int .i64 13))), (1, (.const (.int .i64 13))), (2, (.const (.int .i64 10)))]) none,
  .mk (some 7) (.build 59 #[(0, (.const (.int .i64 14))), (1, (.const (.int .i64 27))), (2, (.const (.int .i64 9)))]) none,
  .mk (some 8) (.build 59 #[(0, (.const (.int .i64 28))), (1, (.const (.int .i64 30))), (2, (.const (.int .i64 10)))]) none,
  .mk (some 9) (.build 59 #[(0, (.const (.int .i64 31))), (1, (.const (.int .i64 31))), (2, (.const (.int .i64 11)))]) none,
  .mk (some 10) (.build 59 #[(0, (.const (.int .i64 32))), (1, (.const (.int .i64 32))), (2, (.const (.int .i64 12)))]) none,
  .mk (some 11) (.build 59 #[(0, (.const (.int .i64 33))), (1, (.const (.int .i64 34))), (2, (.const (.int .i64 13)))]) none,
  .mk (some 12) (.build 59 #[(0, (.const (.int .i64 35))), (1, (.const (.int .i64 37))), (2, (.const (.int .i64 5)))]) none,
  .mk (some 13) (.build 59 #[(0, (.const (.int .i64 38))), (1, (.const (.int .i64 42))), (2, (.const (.int .i64 13)))]) none,
  .mk (some 14) (.build 59 #[(0, (.const (.int .i64 43))), (1, (.const (.int .i64 43))), (2, (.const (.int .i64 4)))]) none,
  .mk (some 15) (.build 59 #[(0, (.const (.int .i64 44))), (1, (.const (.int .i64 44))), (2, (.const (.int .i64 7)))]) none,
  .mk (some 16) (.build 59 #[(0, (.const (.int .i64 45))), (1, (.const (.int .i64 45))), (2, (.const (.int .i64 4)))]) none,
  .mk (some 17) (.build 59 #[(0, (.const (.int .i64 46))), (1, (.const (.int .i64 47))), (2, (.const (.int .i64 7)))]) none,
  .mk (some 18) (.build 59 #[(0, (.const (.int .i64 48))), (1, (.const (.int .i64 57))), (2, (.const (.int .i64 3)))]) none,
  .mk (some 19) (.build 59 #[(0, (.const (.int .i64 58))), (1, (.const (.int .i64 58))), (2, (.const (.int .i64 7)))]) none,
  .mk (some 20) (.build 59 #[(0, (.const (.int .i64 59))), (1, (.const (.int .i64 64))), (2, (.const (.int .i64 13)))]) none,
  .mk (some 21) (.build 59 #[(0, (.const (.int .i64 91))), (1, (.const (.int .i64 96))), (2, (.const (.int .i64 13)))]) none,
  .mk (some 22) (.build 59 #[(0, (.const (.int .i64 123))), (1, (.const (.int .i64 126))), (2, (.const (.int .i64 13)))]) none,
  .mk (some 23) (.build 59 #[(0, (.const (.int .i64 127))), (1, (.const (.int .i64 132))), (2, (.const (.int .i64 9)))]) none,
  .mk (some 24) (.build 59 #[(0, (.const (.int .i64 133))), (1, (.const (.int .i64 133))), (2, (.const (.int .i64 10)))]) none,
  .mk (some 25) (.build 59 #[(0, (.const (.int .i64 134))), (1, (.const (.int .i64 159))), (2, (.const (.int .i64 9)))]) none,
  .mk (some 26) (.build 59 #[(0, (.const (.int .i64 160))), (1, (.const (.int .i64 160))), (2, (.const (.int .i64 7)))]) none,
  .mk (some 27) (.build 59 #[(0, (.const (.int .i64 161))), (1, (.const (.int .i64 161))), (2, (.const (.int .i64 13)))]) none,
  .mk (some 28) (.build 59 #[(0, (.const (.int .i64 162))), (1, (.const (.int .i64 165))), (2, (.const (.int .i64 5)))]) none,
  .mk (some 29) (.build 59 #[(0, (.const (.int .i64 166))), (1, (.const (.int .i64 169))), (2, (.const (.int .i64 13)))]) none,
  .mk (some 30) (.build 59 #[(0, (.const (.int .i64 171))), (1, (.const (.int .i64 172))), (2, (.const (.int .i64 13)))]) none,
  .mk (some 31) (.build 59 #[(0, (.const (.int .i64 173))), (1, (.const (.int .i64 173))), (2, (.const (.int .i64 9)))]) none,
  .mk (some 32) (.build 59 #[(0, (.const (.int .i64 174))), (1, (.const (.int .i64 175))), (2, (.const (.int .i64 13)))]) none,
  .mk (some 33) (.build 59 #[(0, (.const (.int .i64 176))), (1, (.const (.int .i64 177))), (2, (.const (.int .i64 5)))]) none,
  .mk (some 34) (.build 59 #[(0, (.const (.int .i64 178))), (1, (.const (.int .i64 179))), (2, (.const (.int .i64 3)))]) none,
  .mk (some 35) (.build 59 #[(0, (.const (.int .i64 180))), (1, (.const (.int .i64 180))), (2, (.const (.int .i64 13)))]) none,
  .mk (some 36) (.build 59 #[(0, (.const (.int .i64 182))), (1, (.const (.int .i64 184))), (2, (.const (.int .i64 13)))]) none,
  .mk (some 37) (.build 59 #[(0, (.const (.int .i64 185))), (1, (.const (.int .i64 185))), (2, (.const (.int .i64 3)))]) none,
  .mk (some 38) (.build 59 #[(0, (.const (.int .i64 187))), (1, (.const (.int .i64 191))), (2, (.const (.int .i64 13)))]) none,
  .mk (some 39) (.build 59 #[(0, (.const (.int .i64 215))), (1, (.const (.int .i64 215))), (2, (.const (.int .i64 13)))]) none,
  .mk (some 40) (.build 59 #[(0, (.const (.int .i64 247))), (1, (.const (.int .i64 247))), (2, (.const (.int .i64 13)))]) none,
  .mk (some 41) (.build 59 #[(0, (.const (.int .i64 697))), (1, (.const (.int .i64 698))), (2, (.const (.int .i64 13)))]) none,
  .mk (some 42) (.build 59 #[(0, (.const (.int .i64 706))), (1, (.const (.int .i64 719))), (2, (.const (.int .i64 13)))]) none,
  .mk (some 43) (.build 59 #[(0, (.const (.int .i64 722))), (1, (.const (.int .i64 735))), (2, (.const (.int .i64 13)))]) none,
  .mk (some 44) (.build 59 #[(0, (.const (.int .i64 768))), (1, (.const (.int .i64 879))), (2, (.const (.int .i64 8)))]) none,
  .mk (some 45) (.build 59 #[(0, (.const (.int .i64 1424))), (1, (.const (.int .i64 1424))), (2, (.const (.int .i64 1)))]) none,
  .mk (some 46) (.build 59 #[(0, (.const (.int .i64 1425))), (1, (.const (.int .i64 1469))), (2, (.const (.int .i64 8)))]) none,
  .mk (some 47) (.build 59 #[(0, (.const (.int .i64 1470))), (1, (.const (.int .i64 1470))), (2, (.const (.int .i64 1)))]) none,
  .mk (some 48) (.build 59 #[(0, (.const (.int .i64 1471))), (1, (.const (.int .i64 1471))), (2, (.const (.int .i64 8)))]) none,
  .mk (some 49) (.build 59 #[(0, (.const (.int .i64 1472))), (1, (.const (.int .i64 1472))), (2, (.const (.int .i64 1)))]) none,
  .mk (some 50) (.build 59 #[(0, (.const (.int .i64 1473))), (1, (.const (.int .i64 1474))), (2, (.const (.int .i64 8)))]) none,
  .mk (some 51) (.build 59 #[(0, (.const (.int .i64 1475))), (1, (.const (.int .i64 1475))), (2, (.const (.int .i64 1)))]) none,
  .mk (some 52) (.build 59 #[(0, (.const (.int .i64 1476))), (1, (.const (.int .i64 1477))), (2, (.const (.int .i64 8)))]) none,
  .mk (some 53) (.build 59 #[(0, (.const (.int .i64 1478))), (1, (.const (.int .i64 1478))), (2, (.const (.int .i64 1)))]) none,
  .mk (some 54) (.build 59 #[(0, (.const (.int .i64 1479))), (1, (.const (.int .i64 1479))), (2, (.const (.int .i64 8)))]) none,
  .mk (some 55) (.build 59 #[(0, (.const (.int .i64 1480))), (1, (.const (.int .i64 1535))), (2, (.const (.int .i64 1)))]) none,
  .mk (some 56) (.build 59 #[(0, (.const (.int .i64 1536))), (1, (.const (.int .i64 1541))), (2, (.const (.int .i64 6)))]) none,
  .mk (some 57) (.build 59 #[(0, (.const (.int .i64 1542))), (1, (.const (.int .i64 1543))), (2, (.const (.int .i64 13)))]) none,
  .mk (some 58) (.build 59 #[(0, (.const (.int .i64 1544))), (1, (.const (.int .i64 1544))), (2, (.const (.int .i64 2)))]) none,
  .mk (some 59) (.build 59 #[(0, (.const (.int .i64 1545))), (1, (.const (.int .i64 1546))), (2, (.const (.int .i64 5)))]) none,
  .mk (some 60) (.build 59 #[(0, (.const (.int .i64 1547))), (1, (.const (.int .i64 1547))), (2, (.const (.int .i64 2)))]) none,
  .mk (some 61) (.build 59 #[(0, (.const (.int .i64 1548))), (1, (.const (.int .i64 1548))), (2, (.const (.int .i64 7)))]) none,
  .mk (some 62) (.build 59 #[(0, (.const (.int .i64 1549))), (1, (.const (.int .i64 1549))), (2, (.const (.int .i64 2)))]) none,
  .mk (some 63) (.build 59 #[(0, (.const (.int .i64 1550))), (1, (.const (.int .i64 1551))), (2, (.const (.int .i64 13)))]) none,
  .mk (some 64) (.build 59 #[(0, (.const (.int .i64 1552))), (1, (.const (.int .i64 1562))), (2, (.const (.int .i64 8)))]) none,
  .mk (some 65) (.build 59 #[(0, (.const (.int .i64 1563))), (1, (.const (.int .i64 1610))), (2, (.const (.int .i64 2)))]) none,
  .mk (some 66) (.build 59 #[(0, (.const (.int .i64 1611))), (1, (.const (.int .i64 1631))), (2, (.const (.int .i64 8)))]) none,
  .mk (some 67) (.build 59 #[(0, (.const (.int .i64 1632))), (1, (.const (.int .i64 1641))), (2, (.const (.int .i64 6)))]) none,
  .mk (some 68) (.build 59 #[(0, (.const (.int .i64 1642))), (1, (.const (.int .i64 1642))), (2, (.const (.int .i64 5)))]) none,
  .mk (some 69) (.build 59 #[(0, (.const (.int .i64 1643))), (1, (.const (.int .i64 1644))), (2, (.const (.int .i64 6)))]) none,
  .mk (some 70) (.build 59 #[(0, (.const (.int .i64 1645))), (1, (.const (.int .i64 1647))), (2, (.const (.int .i64 2)))]) none,
  .mk (some 71) (.build 59 #[(0, (.const (.int .i64 1648))), (1, (.const (.int .i64 1648))), (2, (.const (.int .i64 8)))]) none,
  .mk (some 72) (.build 59 #[(0, (.const (.int .i64 1649))), (1, (.const (.int .i64 1749))), (2, (.const (.int .i64 2)))]) none,
  .mk (some 73) (.build 59 #[(0, (.const (.int .i64 1750))), (1, (.const (.int .i64 1756))), (2, (.const (.int .i64 8)))]) none,
  .mk (some 74) (.build 59 #[(0, (.const (.int .i64 1757))), (1, (.const (.int .i64 1757))), (2, (.const (.int .i64 6)))]) none,
  .mk (some 75) (.build 59 #[(0, (.const (.int .i64 1758))), (1, (.const (.int .i64 1758))), (2, (.const (.int .i64 13)))]) none,
  .mk (some 76) (.build 59 #[(0, (.const (.int .i64 1759))), (1, (.const (.int .i64 1764))), (2, (.const (.int .i64 8)))]) none,
  .mk (some 77) (.build 59 #[(0, (.const (.int .i64 1765))), (1, (.const (.int .i64 1766))), (2, (.const (.int .i64 2)))]) none,
  .mk (some 78) (.build 59 #[(0, (.const (.int .i64 1767))), (1, (.const (.int .i64 1768))), (2, (.const (.int .i64 8)))]) none,
  .mk (some 79) (.build 59 #[(0, (.const (.int .i64 1769))), (1, (.const (.int .i64 1769))), (2, (.const (.int .i64 13)))]) none,
  .mk (some 80) (.build 59 #[(0, (.const (.int .i64 1770))), (1, (.const (.int .i64 1773))), (2, (.const (.int .i64 8)))]) none,
  .mk (some 81) (.build 59 #[(0, (.const (.int .i64 1774))), (1, (.const (.int .i64 1775))), (2, (.const (.int .i64 2)))]) none,
  .mk (some 82) (.build 59 #[(0, (.const (.int .i64 1776))), (1, (.const (.int .i64 1785))), (2, (.const (.int .i64 3)))]) none,
  .mk (some 83) (.build 59 #[(0, (.const (.int .i64 1786))), (1, (.const (.int .i64 1808))), (2, (.const (.int .i64 2)))]) none,
  .mk (some 84) (.build 59 #[(0, (.const (.int .i64 1809))), (1, (.const (.int .i64 1809))), (2, (.const (.int .i64 8)))]) none,
  .mk (some 85) (.build 59 #[(0, (.const (.int .i64 1810))), (1, (.const (.int .i64 1839))), (2, (.const (.int .i64 2)))]) none,
  .mk (some 86) (.build 59 #[(0, (.const (.int .i64 1840))), (1, (.const (.int .i64 1866))), (2, (.const (.int .i64 8)))]) none,
  .mk (some 87) (.build 59 #[(0, (.const (.int .i64 1867))), (1, (.const (.int .i64 1957))), (2, (.const (.int .i64 2)))]) none,
  .mk (some 88) (.build 59 #[(0, (.const (.int .i64 1958))), (1, (.const (.int .i64 1968))), (2, (.const (.int .i64 8)))]) none,
  .mk (some 89) (.build 59 #[(0, (.const (.int .i64 1969))), (1, (.const (.int .i64 1983))), (2, (.const (.int .i64 2)))]) none,
  .mk (some 90) (.build 59 #[(0, (.const (.int .i64 1984))), (1, (.const (.int .i64 2026))), (2, (.const (.int .i64 1)))]) none,
  .mk (some 91) (.build 59 #[(0, (.const (.int .i64 2027))), (1, (.const (.int .i64 2035))), (2, (.const (.int .i64 8)))]) none,
  .mk (some 92) (.build 59 #[(0, (.const (.int .i64 2036))), (1, (.const (.int .i64 2037))), (2, (.const (.int .i64 1)))]) none,
  .mk (some 93) (.build 59 #[(0, (.const (.int .i64 2038))), (1, (.const (.int .i64 2041))), (2, (.const (.int .i64 13)))]) none,
  .mk (some 94) (.build 59 #[(0, (.const (.int .i64 2042))), (1, (.const (.int .i64 2044))), (2, (.const (.int .i64 1)))]) none,
  .mk (some 95) (.build 59 #[(0, (.const (.int .i64 2045))), (1, (.const (.int .i64 2045))), (2, (.const (.int .i64 8)))]) none,
  .mk (some 96) (.build 59 #[(0, (.const (.int .i64 2046))), (1, (.const (.int .i64 2069))), (2, (.const (.int .i64 1)))]) none,
  .mk (some 97) (.build 59 #[(0, (.const (.int .i64 2070))), (1, (.const (.int .i64 2073))), (2, (.const (.int .i64 8)))]) none,
  .mk (some 98) (.build 59 #[(0, (.const (.int .i64 2074))), (1, (.const (.int .i64 2074))), (2, (.const (.int .i64 1)))]) none,
  .mk (some 99) (.build 59 #[(0, (.const (.int .i64 2075))), (1, (.const (.int .i64 2083))), (2, (.const (.int .i64 8)))]) none,
  .mk (some 100) (.build 59 #[(0, (.const (.int .i64 2084))), (1, (.const (.int .i64 2084))), (2, (.const (.int .i64 1)))]) none,
  .mk (some 101) (.build 59 #[(0, (.const (.int .i64 2085))), (1, (.const (.int .i64 2087))), (2, (.const (.int .i64 8)))]) none,
  .mk (some 102) (.build 59 #[(0, (.const (.int .i64 2088))), (1, (.const (.int .i64 2088))), (2, (.const (.int .i64 1)))]) none,
  .mk (some 103) (.build 59 #[(0, (.const (.int .i64 2089))), (1, (.const (.int .i64 2093))), (2, (.const (.int .i64 8)))]) none,
  .mk (some 104) (.build 59 #[(0, (.const (.int .i64 2094))), (1, (.const (.int .i64 2136))), (2, (.const (.int .i64 1)))]) none,
  .mk (some 105) (.build 59 #[(0, (.const (.int .i64 2137))), (1, (.const (.int .i64 2139))), (2, (.const (.int .i64 8)))]) none,
  .mk (some 106) (.build 59 #[(0, (.const (.int .i64 2140))), (1, (.const (.int .i64 2143))), (2, (.const (.int .i64 1)))]) none,
  .mk (some 107) (.build 59 #[(0, (.const (.int .i64 2144))), (1, (.const (.int .i64 2191))), (2, (.const (.int .i64 2)))]) none,
  .mk (some 108) (.build 59 #[(0, (.const (.int .i64 2192))), (1, (.const (.int .i64 2193))), (2, (.const (.int .i64 6)))]) none,
  .mk (some 109) (.build 59 #[(0, (.const (.int .i64 2194))), (1, (.const (.int .i64 2199))), (2, (.const (.int .i64 2)))]) none,
  .mk (some 110) (.build 59 #[(0, (.const (.int .i64 2200))), (1, (.const (.int .i64 2207))), (2, (.const (.int .i64 8)))]) none,
  .mk (some 111) (.build 59 #[(0, (.const (.int .i64 2208))), (1, (.const (.int .i64 2249))), (2, (.const (.int .i64 2)))]) none,
  .mk (some 112) (.build 59 #[(0, (.const (.int .i64 2250))), (1, (.const (.int .i64 2273))), (2, (.const (.int .i64 8)))]) none,
  .mk (some 113) (.build 59 #[(0, (.const (.int .i64 2274))), (1, (.const (.int .i64 2274))), (2, (.const (.int .i64 6)))]) none,
  .mk (some 114) (.build 59 #[(0, (.const (.int .i64 2275))), (1, (.const (.int .i64 2306))), (2, (.const (.int .i64 8)))]) none,
  .mk (some 115) (.build 59 #[(0, (.const (.int .i64 8192))), (1, (.const (.int .i64 8202))), (2, (.const (.int .i64 12)))]) none,
  .mk (some 116) (.build 59 #[(0, (.const (.int .i64 8203))), (1, (.const (.int .i64 8205))), (2, (.const (.int .i64 9)))]) none,
  .mk (some 117) (.build 59 #[(0, (.const (.int .i64 8207))), (1, (.const (.int .i64 8207))), (2, (.const (.int .i64 1)))]) none,
  .mk (some 118) (.build 59 #[(0, (.const (.int .i64 8208))), (1, (.const (.int .i64 8231))), (2, (.const (.int .i64 13)))]) none,
  .mk (some 119) (.build 59 #[(0, (.const (.int .i64 8232))), (1, (.const (.int .i64 8232))), (2, (.const (.int .i64 12)))]) none,
  .mk (some 120) (.build 59 #[(0, (.const (.int .i64 8233))), (1, (.const (.int .i64 8233))), (2, (.const (.int .i64 10)))]) none,
  .mk (some 121) (.build 59 #[(0, (.const (.int .i64 8234))), (1, (.const (.int .i64 8234))), (2, (.const (.int .i64 14)))]) none,
  .mk (some 122) (.build 59 #[(0, (.const (.int .i64 8235))), (1, (.const (.int .i64 8235))), (2, (.const (.int .i64 16)))]) none,
  .mk (some 123) (.build 59 #[(0, (.const (.int .i64 8236))), (1, (.const (.int .i64 8236))), (2, (.const (.int .i64 18)))]) none,
  .mk (some 124) (.build 59 #[(0, (.const (.int .i64 8237))), (1, (.const (.int .i64 8237))), (2, (.const (.int .i64 15)))]) none,
  .mk (some 125) (.build 59 #[(0, (.const (.int .i64 8238))), (1, (.const (.int .i64 8238))), (2, (.const (.int .i64 17)))]) none,
  .mk (some 126) (.build 59 #[(0, (.const (.int .i64 8239))), (1, (.const (.int .i64 8239))), (2, (.const (.int .i64 7)))]) none,
  .mk (some 127) (.build 59 #[(0, (.const (.int .i64 8240))), (1, (.const (.int .i64 8244))), (2, (.const (.int .i64 5)))]) none,
  .mk (some 128) (.build 59 #[(0, (.const (.int .i64 8245))), (1, (.const (.int .i64 8259))), (2, (.const (.int .i64 13)))]) none,
  .mk (some 129) (.build 59 #[(0, (.const (.int .i64 8260))), (1, (.const (.int .i64 8260))), (2, (.const (.int .i64 7)))]) none,
  .mk (some 130) (.build 59 #[(0, (.const (.int .i64 8261))), (1, (.const (.int .i64 8286))), (2, (.const (.int .i64 13)))]) none,
  .mk (some 131) (.build 59 #[(0, (.const (.int .i64 8287))), (1, (.const (.int .i64 8287))), (2, (.const (.int .i64 12)))]) none,
  .mk (some 132) (.build 59 #[(0, (.const (.int .i64 8288))), (1, (.const (.int .i64 8293))), (2, (.const (.int .i64 9)))]) none,
  .mk (some 133) (.build 59 #[(0, (.const (.int .i64 8294))), (1, (.const (.int .i64 8294))), (2, (.const (.int .i64 19)))]) none,
  .mk (some 134) (.build 59 #[(0, (.const (.int .i64 8295))), (1, (.const (.int .i64 8295))), (2, (.const (.int .i64 20)))]) none,
  .mk (some 135) (.build 59 #[(0, (.const (.int .i64 8296))), (1, (.const (.int .i64 8296))), (2, (.const (.int .i64 21)))]) none,
  .mk (some 136) (.build 59 #[(0, (.const (.int .i64 8297))), (1, (.const (.int .i64 8297))), (2, (.const (.int .i64 22)))]) none,
  .mk (some 137) (.build 59 #[(0, (.const (.int .i64 8298))), (1, (.const (.int .i64 8303))), (2, (.const (.int .i64 9)))]) none,
  .mk (some 138) (.build 59 #[(0, (.const (.int .i64 8304))), (1, (.const (.int .i64 8304))), (2, (.const (.int .i64 3)))]) none,
  .mk (some 139) (.build 59 #[(0, (.const (.int .i64 8308))), (1, (.const (.int .i64 8313))), (2, (.const (.int .i64 3)))]) none,
  .mk (some 140) (.build 59 #[(0, (.const (.int .i64 8314))), (1, (.const (.int .i64 8315))), (2, (.const (.int .i64 4)))]) none,
  .mk (some 141) (.build 59 #[(0, (.const (.int .i64 8316))), (1, (.const (.int .i64 8318))), (2, (.const (.int .i64 13)))]) none,
  .mk (some 142) (.build 59 #[(0, (.const (.int .i64 8320))), (1, (.const (.int .i64 8329))), (2, (.const (.int .i64 3)))]) none,
  .mk (some 143) (.build 59 #[(0, (.const (.int .i64 8330))), (1, (.const (.int .i64 8331))), (2, (.const (.int .i64 4)))]) none,
  .mk (some 144) (.build 59 #[(0, (.const (.int .i64 8332))), (1, (.const (.int .i64 8334))), (2, (.const (.int .i64 13)))]) none,
  .mk (some 145) (.build 59 #[(0, (.const (.int .i64 8352))), (1, (.const (.int .i64 8399))), (2, (.const (.int .i64 5)))]) none,
  .mk (some 146) (.build 59 #[(0, (.const (.int .i64 8400))), (1, (.const (.int .i64 8432))), (2, (.const (.int .i64 8)))]) none,
  .mk (some 147) (.build 59 #[(0, (.const (.int .i64 8592))), (1, (.const (.int .i64 8721))), (2, (.const (.int .i64 13)))]) none,
  .mk (some 148) (.build 59 #[(0, (.const (.int .i64 8722))), (1, (.const (.int .i64 8722))), (2, (.const (.int .i64 4)))]) none,
  .mk (some 149) (.build 59 #[(0, (.const (.int .i64 8723))), (1, (.const (.int .i64 8723))), (2, (.const (.int .i64 5)))]) none,
  .mk (some 150) (.build 59 #[(0, (.const (.int .i64 8724))), (1, (.const (.int .i64 9013))), (2, (.const (.int .i64 13)))]) none,
  .mk (some 151) (.build 59 #[(0, (.const (.int .i64 9083))), (1, (.const (.int .i64 9108))), (2, (.const (.int .i64 13)))]) none,
  .mk (some 152) (.build 59 #[(0, (.const (.int .i64 9110))), (1, (.const (.int .i64 9254))), (2, (.const (.int .i64 13)))]) none,
  .mk (some 153) (.build 59 #[(0, (.const (.int .i64 9280))), (1, (.const (.int .i64 9290))), (2, (.const (.int .i64 13)))]) none,
  .mk (some 154) (.build 59 #[(0, (.const (.int .i64 9312))), (1, (.const (.int .i64 9351))), (2, (.const (.int .i64 13)))]) none,
  .mk (some 155) (.build 59 #[(0, (.const (.int .i64 9352))), (1, (.const (.int .i64 9371))), (2, (.const (.int .i64 3)))]) none,
  .mk (some 156) (.build 59 #[(0, (.const (.int .i64 9450))), (1, (.const (.int .i64 9899))), (2, (.const (.int .i64 13)))]) none,
  .mk (some 157) (.build 59 #[(0, (.const (.int .i64 9901))), (1, (.const (.int .i64 10239))), (2, (.const (.int .i64 13)))]) none,
  .mk (some 158) (.build 59 #[(0, (.const (.int .i64 10496))), (1, (.const (.int .i64 11123))), (2, (.const (.int .i64 13)))]) none,
  .mk (some 159) (.build 59 #[(0, (.const (.int .i64 11776))), (1, (.const (.int .i64 11869))), (2, (.const (.int .i64 13)))]) none,
  .mk (some 160) (.build 59 #[(0, (.const (.int .i64 12288))), (1, (.const (.int .i64 12288))), (2, (.const (.int .i64 12)))]) none,
  .mk (some 161) (.build 59 #[(0, (.const (.int .i64 12289))), (1, (.const (.int .i64 12292))), (2, (.const (.int .i64 13)))]) none,
  .mk (some 162) (.build 59 #[(0, (.const (.int .i64 12296))), (1, (.const (.int .i64 12320))), (2, (.const (.int .i64 13)))]) none,
  .mk (some 163) (.build 59 #[(0, (.const (.int .i64 12330))), (1, (.const (.int .i64 12333))), (2, (.const (.int .i64 8)))]) none,
  .mk (some 164) (.build 59 #[(0, (.const (.int .i64 12336))), (1, (.const (.int .i64 12336))), (2, (.const (.int .i64 13)))]) none,
  .mk (some 165) (.build 59 #[(0, (.const (.int .i64 64285))), (1, (.const (.int .i64 64285))), (2, (.const (.int .i64 1)))]) none,
  .mk (some 166) (.build 59 #[(0, (.const (.int .i64 64286))), (1, (.const (.int .i64 64286))), (2, (.const (.int .i64 8)))]) none,
  .mk (some 167) (.build 59 #[(0, (.const (.int .i64 64287))), (1, (.const (.int .i64 64296))), (2, (.const (.int .i64 1)))]) none,
  .mk (some 168) (.build 59 #[(0, (.const (.int .i64 64297))), (1, (.const (.int .i64 64297))), (2, (.const (.int .i64 4)))]) none,
  .mk (some 169) (.build 59 #[(0, (.const (.int .i64 64298))), (1, (.const (.int .i64 64335))), (2, (.const (.int .i64 1)))]) none,
  .mk (some 170) (.build 59 #[(0, (.const (.int .i64 64336))), (1, (.const (.int .i64 64829))), (2, (.const (.int .i64 2)))]) none,
  .mk (some 171) (.build 59 #[(0, (.const (.int .i64 64830))), (1, (.const (.int .i64 64847))), (2, (.const (.int .i64 13)))]) none,
  .mk (some 172) (.build 59 #[(0, (.const (.int .i64 64848))), (1, (.const (.int .i64 64974))), (2, (.const (.int .i64 2)))]) none,
  .mk (some 173) (.build 59 #[(0, (.const (.int .i64 64975))), (1, (.const (.int .i64 64975))), (2, (.const (.int .i64 13)))]) none,
  .mk (some 174) (.build 59 #[(0, (.const (.int .i64 64976))), (1, (.const (.int .i64 65007))), (2, (.const (.int .i64 9)))]) none,
  .mk (some 175) (.build 59 #[(0, (.const (.int .i64 65008))), (1, (.const (.int .i64 65020))), (2, (.const (.int .i64 2)))]) none,
  .mk (some 176) (.build 59 #[(0, (.const (.int .i64 65021))), (1, (.const (.int .i64 65023))), (2, (.const (.int .i64 13)))]) none,
  .mk (some 177) (.build 59 #[(0, (.const (.int .i64 65024))), (1, (.const (.int .i64 65039))), (2, (.const (.int .i64 8)))]) none,
  .mk (some 178) (.build 59 #[(0, (.const (.int .i64 65040))), (1, (.const (.int .i64 65049))), (2, (.const (.int .i64 13)))]) none,
  .mk (some 179) (.build 59 #[(0, (.const (.int .i64 65056))), (1, (.const (.int .i64 65071))), (2, (.const (.int .i64 8)))]) none,
  .mk (some 180) (.build 59 #[(0, (.const (.int .i64 65072))), (1, (.const (.int .i64 65103))), (2, (.const (.int .i64 13)))]) none,
  .mk (some 181) (.build 59 #[(0, (.const (.int .i64 65104))), (1, (.const (.int .i64 65104))), (2, (.const (.int .i64 7)))]) none,
  .mk (some 182) (.build 59 #[(0, (.const (.int .i64 65105))), (1, (.const (.int .i64 65105))), (2, (.const (.int .i64 13)))]) none,
  .mk (some 183) (.build 59 #[(0, (.const (.int .i64 65106))), (1, (.const (.int .i64 65106))), (2, (.const (.int .i64 7)))]) none,
  .mk (some 184) (.build 59 #[(0, (.const (.int .i64 65108))), (1, (.const (.int .i64 65108))), (2, (.const (.int .i64 13)))]) none,
  .mk (some 185) (.build 59 #[(0, (.const (.int .i64 65109))), (1, (.const (.int .i64 65109))), (2, (.const (.int .i64 7)))]) none,
  .mk (some 186) (.build 59 #[(0, (.const (.int .i64 65110))), (1, (.const (.int .i64 65118))), (2, (.const (.int .i64 13)))]) none,
  .mk (some 187) (.build 59 #[(0, (.const (.int .i64 65119))), (1, (.const (.int .i64 65119))), (2, (.const (.int .i64 5)))]) none,
  .mk (some 188) (.build 59 #[(0, (.const (.int .i64 65120))), (1, (.const (.int .i64 65121))), (2, (.const (.int .i64 13)))]) none,
  .mk (some 189) (.build 59 #[(0, (.const (.int .i64 65122))), (1, (.const (.int .i64 65123))), (2, (.const (.int .i64 4)))]) none,
  .mk (some 190) (.build 59 #[(0, (.const (.int .i64 65124))), (1, (.const (.int .i64 65126))), (2, (.const (.int .i64 13)))]) none,
  .mk (some 191) (.build 59 #[(0, (.const (.int .i64 65128))), (1, (.const (.int .i64 65128))), (2, (.const (.int .i64 13)))]) none,
  .mk (some 192) (.build 59 #[(0, (.const (.int .i64 65129))), (1, (.const (.int .i64 65130))), (2, (.const (.int .i64 5)))]) none,
  .mk (some 193) (.build 59 #[(0, (.const (.int .i64 65131))), (1, (.const (.int .i64 65131))), (2, (.const (.int .i64 13)))]) none,
  .mk (some 194) (.build 59 #[(0, (.const (.int .i64 65136))), (1, (.const (.int .i64 65278))), (2, (.const (.int .i64 2)))]) none,
  .mk (some 195) (.build 59 #[(0, (.const (.int .i64 65279))), (1, (.const (.int .i64 65279))), (2, (.const (.int .i64 9)))]) none,
  .mk (some 196) (.build 59 #[(0, (.const (.int .i64 65281))), (1, (.const (.int .i64 65282))), (2, (.const (.int .i64 13)))]) none,
  .mk (some 197) (.build 59 #[(0, (.const (.int .i64 65283))), (1, (.const (.int .i64 65285))), (2, (.const (.int .i64 5)))]) none,
  .mk (some 198) (.build 59 #[(0, (.const (.int .i64 65286))), (1, (.const (.int .i64 65290))), (2, (.const (.int .i64 13)))]) none,
  .mk (some 199) (.build 59 #[(0, (.const (.int .i64 65291))), (1, (.const (.int .i64 65291))), (2, (.const (.int .i64 4)))]) none,
  .mk (some 200) (.build 59 #[(0, (.const (.int .i64 65292))), (1, (.const (.int .i64 65292))), (2, (.const (.int .i64 7)))]) none,
  .mk (some 201) (.build 59 #[(0, (.const (.int .i64 65293))), (1, (.const (.int .i64 65293))), (2, (.const (.int .i64 4)))]) none,
  .mk (some 202) (.build 59 #[(0, (.const (.int .i64 65294))), (1, (.const (.int .i64 65295))), (2, (.const (.int .i64 7)))]) none,
  .mk (some 203) (.build 59 #[(0, (.const (.int .i64 65296))), (1, (.const (.int .i64 65305))), (2, (.const (.int .i64 3)))]) none,
  .mk (some 204) (.build 59 #[(0, (.const (.int .i64 65306))), (1, (.const (.int .i64 65306))), (2, (.const (.int .i64 7)))]) none,
  .mk (some 205) (.build 59 #[(0, (.const (.int .i64 65307))), (1, (.const (.int .i64 65312))), (2, (.const (.int .i64 13)))]) none,
  .mk (some 206) (.build 59 #[(0, (.const (.int .i64 65339))), (1, (.const (.int .i64 65344))), (2, (.const (.int .i64 13)))]) none,
  .mk (some 207) (.build 59 #[(0, (.const (.int .i64 65371))), (1, (.const (.int .i64 65381))), (2, (.const (.int .i64 13)))]) none,
  .mk (some 208) (.build 59 #[(0, (.const (.int .i64 65504))), (1, (.const (.int .i64 65505))), (2, (.const (.int .i64 5)))]) none,
  .mk (some 209) (.build 59 #[(0, (.const (.int .i64 65506))), (1, (.const (.int .i64 65508))), (2, (.const (.int .i64 13)))]) none,
  .mk (some 210) (.build 59 #[(0, (.const (.int .i64 65509))), (1, (.const (.int .i64 65510))), (2, (.const (.int .i64 5)))]) none,
  .mk (some 211) (.build 59 #[(0, (.const (.int .i64 65520))), (1, (.const (.int .i64 65528))), (2, (.const (.int .i64 9)))]) none,
  .mk (some 212) (.build 59 #[(0, (.const (.int .i64 65529))), (1, (.const (.int .i64 65533))), (2, (.const (.int .i64 13)))]) none,
  .mk (some 213) (.build 59 #[(0, (.const (.int .i64 65534))), (1, (.const (.int .i64 65535))), (2, (.const (.int .i64 9)))]) none,
  .mk (some 214) (.build 59 #[(0, (.const (.int .i64 67584))), (1, (.const (.int .i64 68863))), (2, (.const (.int .i64 1)))]) none,
  .mk (some 215) (.build 59 #[(0, (.const (.int .i64 68864))), (1, (.const (.int .i64 68927))), (2, (.const (.int .i64 2)))]) none,
  .mk (some 216) (.build 59 #[(0, (.const (.int .i64 68928))), (1, (.const (.int .i64 69631))), (2, (.const (.int .i64 1)))]) none,
  .mk (some 217) (.build 59 #[(0, (.const (.int .i64 120782))), (1, (.const (.int .i64 120831))), (2, (.const (.int .i64 3)))]) none,
  .mk (some 218) (.build 59 #[(0, (.const (.int .i64 124928))), (1, (.const (.int .i64 126063))), (2, (.const (.int .i64 1)))]) none,
  .mk (some 219) (.build 59 #[(0, (.const (.int .i64 126064))), (1, (.const (.int .i64 126143))), (2, (.const (.int .i64 2)))]) none,
  .mk (some 220) (.build 59 #[(0, (.const (.int .i64 126144))), (1, (.const (.int .i64 126207))), (2, (.const (.int .i64 1)))]) none,
  .mk (some 221) (.build 59 #[(0, (.const (.int .i64 126208))), (1, (.const (.int .i64 126287))), (2, (.const (.int .i64 2)))]) none,
  .mk (some 222) (.build 59 #[(0, (.const (.int .i64 126288))), (1, (.const (.int .i64 126463))), (2, (.const (.int .i64 1)))]) none,
  .mk (some 223) (.build 59 #[(0, (.const (.int .i64 126464))), (1, (.const (.int .i64 126719))), (2, (.const (.int .i64 2)))]) none,
  .mk (some 224) (.build 59 #[(0, (.const (.int .i64 126720))), (1, (.const (.int .i64 126975))), (2, (.const (.int .i64 1)))]) none,
  .mk (some 225) (.build 59 #[(0, (.const (.int .i64 126976))), (1, (.const (.int .i64 127231))), (2, (.const (.int .i64 13)))]) none,
  .mk (some 226) (.build 59 #[(0, (.const (.int .i64 127232))), (1, (.const (.int .i64 127242))), (2, (.const (.int .i64 3)))]) none,
  .mk (some 227) (.build 59 #[(0, (.const (.int .i64 127744))), (1, (.const (.int .i64 128727))), (2, (.const (.int .i64 13)))]) none,
  .mk (some 228) (.build 59 #[(0, (.const (.int .i64 917504))), (1, (.const (.int .i64 917759))), (2, (.const (.int .i64 9)))]) none,
  .mk (some 229) (.build 59 #[(0, (.const (.int .i64 917760))), (1, (.const (.int .i64 917999))), (2, (.const (.int .i64 8)))]) none,
  .mk (some 230) (.build 59 #[(0, (.const (.int .i64 918000))), (1, (.const (.int .i64 921599))), (2, (.const (.int .i64 9)))]) none,
  .mk (some 231) (.buildSlice 40 230 #[(0, (.tmp 1)), (1, (.tmp 2)), (2, (.tmp 3)), (3, (.tmp 4)), (4, (.tmp 5)), (5, (.tmp 6)), (6, (.tmp 7)), (7, (.tmp 8)), (8, (.tmp 9)), (9, (.tmp 10)), (10, (.tmp 11)), (11, (.tmp 12)), (12, (.tmp 13)), (13, (.tmp 14)), (14, (.tmp 15)), (15, (.tmp 16)), (16, (.tmp 17)), (17, (.tmp 18)), (18, (.tmp 19)), (19, (.tmp 20)), (20, (.tmp 21)), (21, (.tmp 22)), (22, (.tmp 23)), (23, (.tmp 24)), (24, (.tmp 25)), (25, (.tmp 26)), (26, (.tmp 27)), (27, (.tmp 28)), (28, (.tmp 29)), (29, (.tmp 30)), (30, (.tmp 31)), (31, (.tmp 32)), (32, (.tmp 33)), (33, (.tmp 34)), (34, (.tmp 35)), (35, (.tmp 36)), (36, (.tmp 37)), (37, (.tmp 38)), (38, (.tmp 39)), (39, (.tmp 40)), (40, (.tmp 41)), (41, (.tmp 42)), (42, (.tmp 43)), (43, (.tmp 44)), (44, (.tmp 45)), (45, (.tmp 46)), (46, (.tmp 47)), (47, (.tmp 48)), (48, (.tmp 49)), (49, (.tmp 50)), (50, (.tmp 51)), (51, (.tmp 52)), (52, (.tmp 53)), (53, (.tmp 54)), (54, (.tmp 55)), (55, (.tmp 56)), (56, (.tmp 57)), (57, (.tmp 58)), (58, (.tmp 59)), (59, (.tmp 60)), (60, (.tmp 61)), (61, (.tmp 62)), (62, (.tmp 63)), (63, (.tmp 64)), (64, (.tmp 65)), (65, (.tmp 66)), (66, (.tmp 67)), (67, (.tmp 68)), (68, (.tmp 69)), (69, (.tmp 70)), (70, (.tmp 71)), (71, (.tmp 72)), (72, (.tmp 73)), (73, (.tmp 74)), (74, (.tmp 75)), (75, (.tmp 76)), (76, (.tmp 77)), (77, (.tmp 78)), (78, (.tmp 79)), (79, (.tmp 80)), (80, (.tmp 81)), (81, (.tmp 82)), (82, (.tmp 83)), (83, (.tmp 84)), (84, (.tmp 85)), (85, (.tmp 86)), (86, (.tmp 87)), (87, (.tmp 88)), (88, (.tmp 89)), (89, (.tmp 90)), (90, (.tmp 91)), (91, (.tmp 92)), (92, (.tmp 93)), (93, (.tmp 94)), (94, (.tmp 95)), (95, (.tmp 96)), (96, (.tmp 97)), (97, (.tmp 98)), (98, (.tmp 99)), (99, (.tmp 100)), (100, (.tmp 101)), (101, (.tmp 102)), (102, (.tmp 103)), (103, (.tmp 104)), (104, (.tmp 105)), (105, (.tmp 106)), (106, (.tmp 107)), (107, (.tmp 108)), (108, (.tmp 109)), (109, (.tmp 110)), (110, (.tmp 111)), (111, (.tmp 112)), (112, (.tmp 113)), (113, (.tmp 114)), (114, (.tmp 115)), (115, (.tmp 116)), (116, (.tmp 117)), (117, (.tmp 118)), (118, (.tmp 119)), (119, (.tmp 120)), (120, (.tmp 121)), (121, (.tmp 122)), (122, (.tmp 123)), (123, (.tmp 124)), (124, (.tmp 125)), (125, (.tmp 126)), (126, (.tmp 127)), (127, (.tmp 128)), (128, (.tmp 129)), (129, (.tmp 130)), (130, (.tmp 131)), (131, (.tmp 132)), (132, (.tmp 133)), (133, (.tmp 134)), (134, (.tmp 135)), (135, (.tmp 136)), (136, (.tmp 137)), (137, (.tmp 138)), (138, (.tmp 139)), (139, (.tmp 140)), (140, (.tmp 141)), (141, (.tmp 142)), (142, (.tmp 143)), (143, (.tmp 144)), (144, (.tmp 145)), (145, (.tmp 146)), (146, (.tmp 147)), (147, (.tmp 148)), (148, (.tmp 149)), (149, (.tmp 150)), (150, (.tmp 151)), (151, (.tmp 152)), (152, (.tmp 153)), (153, (.tmp 154)), (154, (.tmp 155)), (155, (.tmp 156)), (156, (.tmp 157)), (157, (.tmp 158)), (158, (.tmp 159)), (159, (.tmp 160)), (160, (.tmp 161)), (161, (.tmp 162)), (162, (.tmp 163)), (163, (.tmp 164)), (164, (.tmp 165)), (165, (.tmp 166)), (166, (.tmp 167)), (167, (.tmp 168)), (168, (.tmp 169)), (169, (.tmp 170)), (170, (.tmp 171)), (171, (.tmp 172)), (172, (.tmp 173)), (173, (.tmp 174)), (174, (.tmp 175)), (175, (.tmp 176)), (176, (.tmp 177)), (177, (.tmp 178)), (178, (.tmp 179)), (179, (.tmp 180)), (180, (.tmp 181)), (181, (.tmp 182)), (182, (.tmp 183)), (183, (.tmp 184)), (184, (.tmp 185)), (185, (.tmp 186)), (186, (.tmp 187)), (187, (.tmp 188)), (188, (.tmp 189)), (189, (.tmp 190)), (190, (.tmp 191)), (191, (.tmp 192)), (192, (.tmp 193)), (193, (.tmp 194)), (194, (.tmp 195)), (195, (.tmp 196)), (196, (.tmp 197)), (197, (.tmp 198)), (198, (.tmp 199)), (199, (.tmp 200)), (200, (.tmp 201)), (201, (.tmp 202)), (202, (.tmp 203)), (203, (.tmp 204)), (204, (.tmp 205)), (205, (.tmp 206)), (206, (.tmp 207)), (207, (.tmp 208)), (208, (.tmp 209)), (209, (.tmp 210)), (210, (.tmp 211)), (211, (.tmp 212)), (212, (.tmp 213)), (213, (.tmp 214)), (214, (.tmp 215)), (215, (.tmp 216)), (216, (.tmp 217)), (217, (.tmp 218)), (218, (.tmp 219)), (219, (.tmp 220)), (220, (.tmp 221)), (221, (.tmp 222)), (222, (.tmp 223)), (223, (.tmp 224)), (224, (.tmp 225)), (225, (.tmp 226)), (226, (.tmp 227)), (227, (.tmp 228)), (228, (.tmp 229)), (229, (.tmp 230))]) none,
  .mk (some 0) (.assign (.tmp 231)) none]
def c18 : PC := (.seq (.reg false r18_0) (.seq (.reg false r18_1) .ret))
theorem e18 {args : List PV} {h : Heap} {K : PV → Heap → Prop} (hl : args.length = 0) (s : pwp Try.prog [] c18 (fin Try.prog [.tmp 0] h K) (slots0 (olds args)) h) : CanP Try.prog 18 args h K :=
  can_of2 (n := 232) mixed Try.func18 rfl (by kernel_rfl) (by rw [hl]; kernel_rfl) rfl (by kernel_rfl) s
/-! ### naskh.api.JoinRanges: function 19 -/
def r19_0 : List PS := [.mk (some 0) (.assign (.const (.slice none 0 0))) none]
def r19_1 : List PS := [.mk (some 1) (.build 59 #[(0, (.const (.int .i64 768))), (1, (.const (.int .i64 879))), (2, (.const (.int .i64 1)))]) none,
  .mk (some 2) (.build 59 #[(0, (.const (.int .i64 1155))), (1, (.const (.int .i64 1161))), (2, (.const (.int .i64 1)))]) none,
  .mk (some 3) (.build 59 #[(0, (.const (.int .i64 1425))), (1, (.const (.int .i64 1469))), (2, (.const (.int .i64 1)))]) none,
  .mk (some 4) (.build 59 #[(0, (.const (.int .i64 1471))), (1, (.const (.int .i64 1471))), (2, (.const (.int .i64 1)))]) none,
  .mk (some 5) (.build 59 #[(0, (.const (.int .i64 1473))), (1, (.const (.int .i64 1474))), (2, (.const (.int .i64 1)))]) none,
  .mk (some 6) (.build 59 #[(0, (.const (.int .i64 1476))), (1, (.const (.int .i64 1477))), (2, (.const (.int .i64 1)))]) none,
  .mk (some 7) (.build 59 #[(0, (.const (.int .i64 1479))), (1, (.const (.int .i64 1479))), (2, (.const (.int .i64 1)))]) none,
  .mk (some 8) (.build 59 #[(0, (.const (.int .i64 1552))), (1, (.const (.int .i64 1562))), (2, (.const (.int .i64 1)))]) none,
  .mk (some 9) (.build 59 #[(0, (.const (.int .i64 1564))), (1, (.const (.int .i64 1564))), (2, (.const (.int .i64 1)))]) none,
  .mk (some 10) (.build 59 #[(0, (.const (.int .i64 1568))), (1, (.const (.int .i64 1568))), (2, (.const (.int .i64 3)))]) none,
  .mk (some 11) (.build 59 #[(0, (.const (.int .i64 1570))), (1, (.const (.int .i64 1573))), (2, (.const (.int .i64 2)))]) none,
  .mk (some 12) (.build 59 #[(0, (.const (.int .i64 1574))), (1, (.const (.int .i64 1574))), (2, (.const (.int .i64 3)))]) none,
  .mk (some 13) (.build 59 #[(0, (.const (.int .i64 1575))), (1, (.const (.int .i64 1575))), (2, (.const (.int .i64 2)))]) none,
  .mk (some 14) (.build 59 #[(0, (.const (.int .i64 1576))), (1, (.const (.int .i64 1576))), (2, (.const (.int .i64 3)))]) none,
  .mk (some 15) (.build 59 #[(0, (.const (.int .i64 1577))), (1, (.const (.int .i64 1577))), (2, (.const (.int .i64 2)))]) none,
  .mk (some 16) (.build 59 #[(0, (.const (.int .i64 1578))), (1, (.const (.int .i64 1582))), (2, (.const (.int .i64 3)))]) none,
  .mk (some 17) (.build 59 #[(0, (.const (.int .i64 1583))), (1, (.const (.int .i64 1586))), (2, (.const (.int .i64 2)))]) none,
  .mk (some 18) (.build 59 #[(0, (.const (.int .i64 1587))), (1, (.const (.int .i64 1599))), (2, (.const (.int .i64 3)))]) none,
  .mk (some 19) (.build 59 #[(0, (.const (.int .i64 1600))), (1, (.const (.int .i64 1600))), (2, (.const (.int .i64 5)))]) none,
  .mk (some 20) (.build 59 #[(0, (.const (.int .i64 1601))), (1, (.const (.int .i64 1607))), (2, (.const (.int .i64 3)))]) none,
  .mk (some 21) (.build 59 #[(0, (.const (.int .i64 1608))), (1, (.const (.int .i64 1608))), (2, (.const (.int .i64 2)))]) none,
  .mk (some 22) (.build 59 #[(0, (.const (.int .i64 1609))), (1, (.const (.int .i64 1610))), (2, (.const (.int .i64 3)))]) none,
  .mk (some 23) (.build 59 #[(0, (.const (.int .i64 1611))), (1, (.const (.int .i64 1631))), (2, (.const (.int .i64 1)))]) none,
  .mk (some 24) (.build 59 #[(0, (.const (.int .i64 1646))), (1, (.const (.int .i64 1647))), (2, (.const (.int .i64 3)))]) none,
  .mk (some 25) (.build 59 #[(0, (.const (.int .i64 1648))), (1, (.const (.int .i64 1648))), (2, (.const (.int .i64 1)))]) none,
  .mk (some 26) (.build 59 #[(0, (.const (.int .i64 1649))), (1, (.const (.int .i64 1651))), (2, (.const (.int .i64 2)))]) none,
  .mk (some 27) (.build 59 #[(0, (.const (.int .i64 1653))), (1, (.const (.int .i64 1655))), (2, (.const (.int .i64 2)))]) none,
  .mk (some 28) (.build 59 #[(0, (.const (.int .i64 1656))), (1, (.const (.int .i64 1671))), (2, (.const (.int .i64 3)))]) none,
  .mk (some 29) (.build 59 #[(0, (.const (.int .i64 1672))), (1, (.const (.int .i64 1689))), (2, (.const (.int .i64 2)))]) none,
  .mk (some 30) (.build 59 #[(0, (.const (.int .i64 1690))), (1, (.const (.int .i64 1727))), (2, (.const (.int .i64 3)))]) none,
  .mk (some 31) (.build 59 #[(0, (.const (.int .i64 1728))), (1, (.const (.int .i64 1728))), (2, (.const (.int .i64 2)))]) none,
  .mk (some 32) (.build 59 #[(0, (.const (.int .i64 1729))), (1, (.const (.int .i64 1730))), (2, (.const (.int .i64 3)))]) none,
  .mk (some 33) (.build 59 #[(0, (.const (.int .i64 1731))), (1, (.const (.int .i64 1739))), (2, (.const (.int .i64 2)))]) none,
  .mk (some 34) (.build 59 #[(0, (.const (.int .i64 1740))), (1, (.const (.int .i64 1740))), (2, (.const (.int .i64 3)))]) none,
  .mk (some 35) (.build 59 #[(0, (.const (.int .i64 1741))), (1, (.const (.int .i64 1741))), (2, (.const (.int .i64 2)))]) none,
  .mk (some 36) (.build 59 #[(0, (.const (.int .i64 1742))), (1, (.const (.int .i64 1742))), (2, (.const (.int .i64 3)))]) none,
  .mk (some 37) (.build 59 #[(0, (.const (.int .i64 1743))), (1, (.const (.int .i64 1743))), (2, (.const (.int .i64 2)))]) none,
  .mk (some 38) (.build 59 #[(0, (.const (.int .i64 1744))), (1, (.const (.int .i64 1745))), (2, (.const (.int .i64 3)))]) none,
  .mk (some 39) (.build 59 #[(0, (.const (.int .i64 1746))), (1, (.const (.int .i64 1747))), (2, (.const (.int .i64 2)))]) none,
  .mk (some 40) (.build 59 #[(0, (.const (.int .i64 1749))), (1, (.const (.int .i64 1749))), (2, (.const (.int .i64 2)))]) none,
  .mk (some 41) (.build 59 #[(0, (.const (.int .i64 1750))), (1, (.const (.int .i64 1756))), (2, (.const (.int .i64 1)))]) none,
  .mk (some 42) (.build 59 #[(0, (.const (.int .i64 1759))), (1, (.const (.int .i64 1764))), (2, (.const (.int .i64 1)))]) none,
  .mk (some 43) (.build 59 #[(0, (.const (.int .i64 1767))), (1, (.const (.int .i64 1768))), (2, (.const (.int .i64 1)))]) none,
  .mk (some 44) (.build 59 #[(0, (.const (.int .i64 1770))), (1, (.const (.int .i64 1773))), (2, (.const (.int .i64 1)))]) none,
  .mk (some 45) (.build 59 #[(0, (.const (.int .i64 1774))), (1, (.const (.int .i64 1775))), (2, (.const (.int .i64 2)))]) none,
  .mk (some 46) (.build 59 #[(0, (.const (.int .i64 1786))), (1, (.const (.int .i64 1788))), (2, (.const (.int .i64 3)))]) none,
  .mk (some 47) (.build 59 #[(0, (.const (.int .i64 1791))), (1, (.const (.int .i64 1791))), (2, (.const (.int .i64 3)))]) none,
  .mk (some 48) (.build 59 #[(0, (.const (.int .i64 1840))), (1, (.const (.int .i64 1866))), (2, (.const (.int .i64 1)))]) none,
  .mk (some 49) (.build 59 #[(0, (.const (.int .i64 1958))), (1, (.const (.int .i64 1968))), (2, (.const (.int .i64 1)))]) none,
  .mk (some 50) (.build 59 #[(0, (.const (.int .i64 1994))), (1, (.const (.int .i64 2026))), (2, (.const (.int .i64 3)))]) none,
  .mk (some 51) (.build 59 #[(0, (.const (.int .i64 2027))), (1, (.const (.int .i64 2035))), (2, (.const (.int .i64 1)))]) none,
  .mk (some 52) (.build 59 #[(0, (.const (.int .i64 2042))), (1, (.const (.int .i64 2042))), (2, (.const (.int .i64 5)))]) none,
  .mk (some 53) (.build 59 #[(0, (.const (.int .i64 2200))), (1, (.const (.int .i64 2207))), (2, (.const (.int .i64 1)))]) none,
  .mk (some 54) (.build 59 #[(0, (.const (.int .i64 2250))), (1, (.const (.int .i64 2273))), (2, (.const (.int .i64 1)))]) none,
  .mk (some 55) (.build 59 #[(0, (.const (.int .i64 2275))), (1, (.const (.int .i64 2306))), (2, (.const (.int .i64 1)))]) none,
  .mk (some 56) (.build 59 #[(0, (.const (.int .i64 8203))), (1, (.const (.int .i64 8203))), (2, (.const (.int .i64 1)))]) none,
  .mk (some 57) (.build 59 #[(0, (.const (.int .i64 8205))), (1, (.const (.int .i64 8205))), (2, (.const (.int .i64 5)))]) none,
  .mk (some 58) (.build 59 #[(0, (.const (.int .i64 8206))), (1, (.const (.int .i64 8207))), (2, (.const (.int .i64 1)))]) none,
  .mk (some 59) (.build 59 #[(0, (.const (.int .i64 8234))), (1, (.const (.int .i64 8238))), (2, (.const (.int .i64 1)))]) none,
  .mk (some 60) (.build 59 #[(0, (.const (.int .i64 8288))), (1, (.const (.int .i64 8292))), (2, (.const (.int .i64 1)))]) none,
  .mk (some 61) (.build 59 #[(0, (.const (.int .i64 8298))), (1, (.const (.int .i64 8303))), (2, (.const (.int .i64 1)))]) none,
  .mk (some 62) (.build 59 #[(0, (.const (.int .i64 8400))), (1, (.const (.int .i64 8432))), (2, (.const (.int .i64 1)))]) none,
  .mk (some 63) (.build 59 #[(0, (.const (.int .i64 43072))), (1, (.const (.int .i64 43121))), (2, (.const (.int .i64 3)))]) none,
  .mk (some 64) (.build 59 #[(0, (.const (.int .i64 43122))), (1, (.const (.int .i64 43122))), (2, (.const (.int .i64 4)))]) none,
  .mk (some 65) (.build 59 #[(0, (.const (.int .i64 65024))), (1, (.const (.int .i64 65039))), (2, (.const (.int .i64 1)))]) none,
  .mk (some 66) (.build 59 #[(0, (.const (.int .i64 65056))), (1, (.const (.int .i64 65071))), (2, (.const (.int .i64 1)))]) none,
  .mk (some 67) (.build 59 #[(0, (.const (.int .i64 65279))), (1, (.const (.int .i64 65279))), (2, (.const (.int .i64 1)))]) none,
  .mk (some 68) (.build 59 #[(0, (.const (.int .i64 917760))), (1, (.const (.int .i64 917999))), (2, (.const (.int .i64 1)))]) none,
  .mk (some 69) (.buildSlice 40 68 #[(0, (.tmp 1)), (1, (.tmp 2)), (2, (.tmp 3)), (3, (.tmp 4)), (4, (.tmp 5)), (5, (.tmp 6)), (6, (.tmp 7)), (7, (.tmp 8)), (8, (.tmp 9)), (9, (.tmp 10)), (10, (.tmp 11)), (11, (.tmp 12)), (12, (.tmp 13)), (13, (.tmp 14)), (14, (.tmp 15)), (15, (.tmp 16)), (16, (.tmp 17)), (17, (.tmp 18)), (18, (.tmp 19)), (19, (.tmp 20)), (20, (.tmp 21)), (21, (.tmp 22)), (22, (.tmp 23)), (23, (.tmp 24)), (24, (.tmp 25)), (25, (.tmp 26)), (26, (.tmp 27)), (27, (.tmp 28)), (28, (.tmp 29)), (29, (.tmp 30)), (30, (.tmp 31)), (31, (.tmp 32)), (32, (.tmp 33)), (33, (.tmp 34)), (34, (.tmp 35)), (35, (.tmp 36)), (36, (.tmp 37)), (37, (.tmp 38)), (38, (.tmp 39)), (39, (.tmp 40)), (40, (.tmp 41)), (41, (.tmp 42)), (42, (.tmp 43)), (43, (.tmp 44)), (44, (.tmp 45)), (45, (.tmp 46)), (46, (.tmp 47)), (47, (.tmp 48)), (48, (.tmp 49)), (49, (.tmp 50)), (50, (.tmp 51)), (51, (.tmp 52)), (52, (.tmp 53)), (53, (.tmp 54)), (54, (.tmp 55)), (55, (.tmp 56)), (56, (.tmp 57)), (57, (.tmp 58)), (58, (.tmp 59)), (59, (.tmp 60)), (60, (.tmp 61)), (61, (.tmp 62)), (62, (.tmp 63)), (63, (.tmp 64)), (64, (.tmp 65)), (65, (.tmp 66)), (66, (.tmp 67)), (67, (.tmp 68))]) none,
  .mk (some 0) (.assign (.tmp 69)) none]
def c19 : PC := (.seq (.reg false r19_0) (.seq (.reg false r19_1) .ret))
theorem e19 {args : List PV} {h : Heap} {K : PV → Heap → Prop} (hl : args.length = 0) (s : pwp Try.prog [] c19 (fin Try.prog [.tmp 0] h K) (slots0 (olds args)) h) : CanP Try.prog 19 args h K :=
  can_of2 (n := 70) mixed Try.func19 rfl (by kernel_rfl) (by rw [hl]; kernel_rfl) rfl (by kernel_rfl) s
/-! ### naskh.props.New: function 7 -/
def r7_0 : List PS := [.mk (some 0) (.assign (.const (.pointer none))) none]
def r7_1 : List PS := [.mk (some 6) (.call ⟨(.value (.func 18)), #[], #[]⟩) none,
  .mk (some 7) (.call ⟨(.value (.func 17)), #[(.tmp 6), (.const (.int .i64 0))], #[40, 3]⟩) none,
  .mk (some 5) (.move (.tmp 7)) none,
  .mk (some 8) (.extract (.tmp 5) 0) none,
  .mk (some 9) (.extract (.tmp 5) 1) none,
  .mk (some 1) (.assign (.tmp 8)) none,
  .mk (some 2) (.assign (.tmp 9)) none]
def r7_2 : List PS := [.mk (some 11) (.call ⟨(.value (.func 19)), #[], #[]⟩) none,
  .mk (some 12) (.call ⟨(.value (.func 17)), #[(.tmp 11), (.const (.int .i64 0))], #[40, 3]⟩) none,
  .mk (some 10) (.move (.tmp 12)) none,
  .mk (some 13) (.extract (.tmp 10) 0) none,
  .mk (some 14) (.extract (.tmp 10) 1) none,
  .mk (some 3) (.assign (.tmp 13)) none,
  .mk (some 4) (.assign (.tmp 14)) none]
def r7_3 : List PS := [.mk (some 15) (.move (.tmp 2)) none,
  .mk (some 16) (.binOp .neq 37 (.tmp 15) (.const (.int .i64 0)) 37) none,
  .mk (some 17) (.move (.tmp 16)) none,
  .mk (some 18) (.move (.tmp 4)) (some (17, false)),
  .mk (some 19) (.binOp .neq 37 (.tmp 18) (.const (.int .i64 0)) 37) (some (17, false)),
  .mk (some 20) (.pick (.tmp 17) (.const (.bool true)) (.tmp 19)) none]
def r7_4 : List PS := [.mk (some 0) (.assign (.const (.pointer none))) none]
def r7_5 : List PS := [.mk (some 21) (.move (.tmp 1)) none,
  .mk (some 22) (.move (.tmp 3)) none,
  .mk (some 23) (.build 43 #[(0, (.tmp 21)), (1, (.tmp 22))]) none,
  .mk (some 24) (.build 45 #[(0, (.tmp 23))]) none,
  .mk (some 25) (.box 45 (.tmp 24)) none,
  .mk (some 0) (.assign (.tmp 25)) none]
def c7 : PC := (.seq (.reg false r7_0) (.seq (.reg false r7_1) (.seq (.reg false r7_2) (.seq (.seq (.reg false r7_3) (.cond (.tmp 20) (.seq (.reg false r7_4) .ret) .skip)) (.seq (.reg false r7_5) .ret)))))
theorem e7 {args : List PV} {h : Heap} {K : PV → Heap → Prop} (hl : args.length = 0) (s : pwp Try.prog [] c7 (fin Try.prog [.tmp 0] h K) (slots0 (olds args)) h) : CanP Try.prog 7 args h K :=
  can_of2 (n := 26) mixed Try.func7 rfl (by kernel_rfl) (by rw [hl]; kernel_rfl) rfl (by kernel_rfl) s
/-! ### slices.Equal[[]int,int]: function 9 -/
def r9_0 : List PS := [.mk (some 4) (.assign (.const (.bool false))) none]
def r9_1 : List PS := [.mk (some 6) (.move (.tmp 0)) none,
  .mk (some 7) (.call ⟨(.builtin .len), #[(.tmp 6)], #[22]⟩) none,
  .mk (some 8) (.move (.tmp 1)) none,
  .mk (some 9) (.call ⟨(.builtin .len), #[(.tmp 8)], #[22]⟩) none,
  .mk (some 10) (.binOp .neq 3 (.tmp 7) (.tmp 9) 3) none]
def r9_2 : List PS := [.mk (some 4) (.assign (.const (.bool false))) none]
def r9_3 : List PS := [.mk (some 11) (.move (.tmp 0)) none,
  .mk (some 12) (.call ⟨(.builtin .len), #[(.tmp 11)], #[22]⟩) none,
  .mk (some 13) (.move (.const (.int .i64 0))) none]
def r9_4 : List PS := [.mk (some 14) (.binOp .lss 3 (.tmp 13) (.tmp 12) 3) none]
def r9_5 : List PS := [.mk (some 15) (.move (.tmp 13)) none,
  .mk (some 5) (.assign (.tmp 15)) none]
def r9_6 : List PS := [.mk (some 16) (.move (.tmp 0)) none,
  .mk (some 17) (.move (.tmp 5)) none,
  .mk (some 18) (.indexAddr 22 (.tmp 16) (.tmp 17)) none,
  .mk (some 19) (.load 3 (.tmp 18)) none,
  .mk (some 20) (.move (.tmp 1)) none,
  .mk (some 21) (.move (.tmp 5)) none,
  .mk (some 22) (.indexAddr 22 (.tmp 20) (.tmp 21)) none,
  .mk (some 23) (.load 3 (.tmp 22)) none,
  .mk (some 24) (.binOp .neq 3 (.tmp 19) (.tmp 23) 3) none]
def r9_7 : List PS := [.mk (some 4) (.assign (.const (.bool false))) none]
def r9_8 : List PS := [.mk (some 25) (.binOp .add 3 (.tmp 13) (.const (.int .i64 1)) 3) none,
  .mk (some 13) (.move (.tmp 25)) none]
def r9_9 : List PS := [.mk (some 4) (.assign (.const (.bool true))) none]
def c9 : PC := (.seq (.reg false r9_0) (.seq (.seq (.reg false r9_1) (.cond (.tmp 10) (.seq (.reg false r9_2) .ret) .skip)) (.seq (.seq (.reg false r9_3) (.block 0 (.loop (.seq (.reg false r9_4) (.seq (.cond (.tmp 14) .skip (.exit 0)) (.seq (.block 1 (.seq (.reg false r9_5) (.seq (.reg true r9_6) (.cond (.tmp 24) (.seq (.reg false r9_7) .ret) .skip)))) (.reg false r9_8))))))) (.seq (.reg false r9_9) .ret))))
theorem e9 {args : List PV} {h : Heap} {K : PV → Heap → Prop} (hl : args.length = 2) (s : pwp Try.prog [] c9 (fin Try.prog [.tmp 4] h K) (slots0 (olds args)) h) : CanP Try.prog 9 args h K :=
  can_of2 (n := 26) mixed Try.func9 rfl (by kernel_rfl) (by rw [hl]; kernel_rfl) rfl (by kernel_rfl) s
/-! ### naskh.naskhlaw17.awake: function 5 -/
def r5_0 : List PS := [.mk (some 0) (.assign (.const (.bool false))) none]
def r5_1 : List PS := [.mk (some 1) (.call ⟨(.value (.func 7)), #[], #[]⟩) none,
  .mk (some 2) (.buildSlice 22 3 #[(0, (.const (.int .i64 49))), (1, (.const (.int .i64 1575))), (2, (.const (.int .i64 49)))]) none,
  .mk (some 3) (.call ⟨(.value (.func 6)), #[(.tmp 1), (.tmp 2), (.const (.int .i64 3)), (.const (.bool false))], #[25, 22, 3, 4]⟩) none,
  .mk (some 4) (.buildSlice 22 3 #[(0, (.const (.int .i64 49))), (1, (.const (.int .i64 1575))), (2, (.const (.int .i64 1633)))]) none,
  .mk (some 5) (.call ⟨(.value (.func 9)), #[(.tmp 3), (.tmp 4)], #[22, 22]⟩) none,
  .mk (some 6) (.move (.tmp 5)) none,
  .mk (some 7) (.call ⟨(.value (.func 10)), #[(.const (.int .i64 53)), (.const (.bool true)), (.const (.bool true))], #[3, 4, 4]⟩) (some (6, true)),
  .mk (some 8) (.binOp .eql 3 (.tmp 7) (.const (.int .i64 1781)) 3) (some (6, true)),
  .mk (some 9) (.pick (.tmp 6) (.tmp 8) (.const (.bool false))) none,
  .mk (some 0) (.assign (.tmp 9)) none]
def c5 : PC := (.seq (.reg false r5_0) (.seq (.reg false r5_1) .ret))
theorem e5 {args : List PV} {h : Heap} {K : PV → Heap → Prop} (hl : args.length = 0) (s : pwp Try.prog [] c5 (fin Try.prog [.tmp 0] h K) (slots0 (olds args)) h) : CanP Try.prog 5 args h K :=
  can_of2 (n := 10) mixed Try.func5 rfl (by kernel_rfl) (by rw [hl]; kernel_rfl) rfl (by kernel_rfl) s
/-! ### naskh.naskhref07.Digit: function 8 -/
def r8_0 : List PS := [.mk (some 2) (.assign (.const (.int .i64 0))) none,
  .mk (some 3) (.assign (.const (.int .i64 0))) none]
def r8_1 : List PS := [.mk (some 5) (.move (.tmp 0)) none,
  .mk (some 6) (.binOp .geq 3 (.tmp 5) (.const (.int .i64 48)) 3) none,
  .mk (some 7) (.move (.tmp 6)) none,
  .mk (some 8) (.move (.tmp 0)) (some (7, true)),
  .mk (some 9) (.binOp .leq 3 (.tmp 8) (.const (.int .i64 57)) 3) (some (7, true)),
  .mk (some 10) (.pick (.tmp 7) (.tmp 9) (.const (.bool false))) none,
  .mk (some 4) (.assign (.tmp 10)) none]
def r8_2 : List PS := [.mk (some 11) (.move (.tmp 0)) none,
  .mk (some 12) (.binOp .sub 3 (.tmp 11) (.const (.int .i64 48)) 3) none,
  .mk (some 2) (.assign (.tmp 12)) none,
  .mk (some 3) (.assign (.const (.int .i64 1))) none]
def r8_3 : List PS := [.mk (some 14) (.move (.tmp 0)) none,
  .mk (some 15) (.binOp .geq 3 (.tmp 14) (.const (.int .i64 1632)) 3) none,
  .mk (some 16) (.move (.tmp 15)) none,
  .mk (some 17) (.move (.tmp 0)) (some (16, true)),
  .mk (some 18) (.binOp .leq 3 (.tmp 17) (.const (.int .i64 1641)) 3) (some (16, true)),
  .mk (some 19) (.pick (.tmp 16) (.tmp 18) (.const (.bool false))) none,
  .mk (some 13) (.assign (.tmp 19)) none]
def r8_4 : List PS := [.mk (some 20) (.move (.tmp 0)) none,
  .mk (some 21) (.binOp .sub 3 (.tmp 20) (.const (.int .i64 1632)) 3) none,
  .mk (some 2) (.assign (.tmp 21)) none,
  .mk (some 3) (.assign (.const (.int .i64 2))) none]
def r8_5 : List PS := [.mk (some 23) (.move (.tmp 0)) none,
  .mk (some 24) (.binOp .geq 3 (.tmp 23) (.const (.int .i64 1776)) 3) none,
  .mk (some 25) (.move (.tmp 24)) none,
  .mk (some 26) (.move (.tmp 0)) (some (25, true)),
  .mk (some 27) (.binOp .leq 3 (.tmp 26) (.const (.int .i64 1785)) 3) (some (25, true)),
  .mk (some 28) (.pick (.tmp 25) (.tmp 27) (.const (.bool false))) none,
  .mk (some 22) (.assign (.tmp 28)) none]
def r8_6 : List PS := [.mk (some 29) (.move (.tmp 0)) none,
  .mk (some 30) (.binOp .sub 3 (.tmp 29) (.const (.int .i64 1776)) 3) none,
  .mk (some 2) (.assign (.tmp 30)) none,
  .mk (some 3) (.assign (.const (.int .i64 3))) none]
def r8_7 : List PS := [.mk (some 2) (.assign (.const (.int .i64 0))) none,
  .mk (some 3) (.assign (.const (.int .i64 0))) none]
def c8 : PC := (.seq (.reg false r8_0) (.seq (.block 0 (.seq (.reg false r8_1) (.cond (.tmp 4) (.seq (.reg false r8_2) .ret) (.seq (.reg false r8_3) (.cond (.tmp 13) (.seq (.reg false r8_4) .ret) (.seq (.reg false r8_5) (.cond (.tmp 22) (.seq (.reg false r8_6) .ret) .skip))))))) (.seq (.reg false r8_7) .ret)))
theorem e8 {args : List PV} {h : Heap} {K : PV → Heap → Prop} (hl : args.length = 1) (s : pwp Try.prog [] c8 (fin Try.prog [.tmp 2, .tmp 3] h K) (slots0 (olds args)) h) : CanP Try.prog 8 args h K :=
  can_of2 (n := 31) mixed Try.func8 rfl (by kernel_rfl) (by rw [hl]; kernel_rfl) rfl (by kernel_rfl) s
/-! ### naskh.naskhlaw17.DigitOnly: function 3 -/
def r3_0 : List PS := [.mk (some 6) (.assign (.const (.bool false))) none]
def r3_1 : List PS := [.mk (some 14) (.move (.tmp 0)) none,
  .mk (some 15) (.call ⟨(.builtin .len), #[(.tmp 14)], #[22]⟩) none,
  .mk (some 16) (.binOp .gtr 3 (.tmp 15) (.const (.int .i64 500)) 3) none]
def r3_2 : List PS := [.mk (some 17) (.call ⟨(.value (.func 5)), #[], #[]⟩) none,
  .mk (some 6) (.assign (.tmp 17)) none]
def r3_3 : List PS := [.mk (some 18) (.call ⟨(.value (.func 7)), #[], #[]⟩) none,
  .mk (some 19) (.move (.tmp 0)) none,
  .mk (some 20) (.move (.tmp 1)) none,
  .mk (some 21) (.move (.tmp 2)) none,
  .mk (some 22) (.call ⟨(.value (.func 6)), #[(.tmp 18), (.tmp 19), (.tmp 20), (.tmp 21)], #[25, 22, 3, 4]⟩) none,
  .mk (some 7) (.assign (.tmp 22)) none]
def r3_4 : List PS := [.mk (some 23) (.move (.tmp 7)) none,
  .mk (some 24) (.call ⟨(.builtin .len), #[(.tmp 23)], #[22]⟩) none,
  .mk (some 25) (.move (.tmp 0)) none,
  .mk (some 26) (.call ⟨(.builtin .len), #[(.tmp 25)], #[22]⟩) none,
  .mk (some 27) (.binOp .neq 3 (.tmp 24) (.tmp 26) 3) none]
def r3_5 : List PS := [.mk (some 6) (.assign (.const (.bool false))) none]
def r3_6 : List PS := [.mk (some 28) (.move (.tmp 7)) none,
  .mk (some 29) (.call ⟨(.builtin .len), #[(.tmp 28)], #[22]⟩) none,
  .mk (some 30) (.move (.const (.int .i64 0))) none]
def r3_7 : List PS := [.mk (some 31) (.binOp .lss 3 (.tmp 30) (.tmp 29) 3) none]
def r3_8 : List PS := [.mk (some 32) (.move (.tmp 30)) none,
  .mk (some 33) (.indexAddr 22 (.tmp 28) (.tmp 30)) none,
  .mk (some 34) (.load 3 (.tmp 33)) none,
  .mk (some 8) (.assign (.tmp 32)) none,
  .mk (some 9) (.assign (.tmp 34)) none]
def r3_9 : List PS := [.mk (some 36) (.move (.tmp 0)) none,
  .mk (some 37) (.move (.tmp 8)) none,
  .mk (some 38) (.indexAddr 22 (.tmp 36) (.tmp 37)) none,
  .mk (some 39) (.load 3 (.tmp 38)) none,
  .mk (some 40) (.call ⟨(.value (.func 8)), #[(.tmp 39)], #[3]⟩) none,
  .mk (some 35) (.move (.tmp 40)) none,
  .mk (some 41) (.extract (.tmp 35) 0) none,
  .mk (some 42) (.extract (.tmp 35) 1) none,
  .mk (some 10) (.assign (.tmp 41)) none,
  .mk (some 11) (.assign (.tmp 42)) none]
def r3_10 : List PS := [.mk (some 44) (.move (.tmp 9)) none,
  .mk (some 45) (.call ⟨(.value (.func 8)), #[(.tmp 44)], #[3]⟩) none,
  .mk (some 43) (.move (.tmp 45)) none,
  .mk (some 46) (.extract (.tmp 43) 0) none,
  .mk (some 47) (.extract (.tmp 43) 1) none,
  .mk (some 12) (.assign (.tmp 46)) none,
  .mk (some 13) (.assign (.tmp 47)) none]
def r3_11 : List PS := [.mk (some 48) (.move (.tmp 11)) none,
  .mk (some 49) (.binOp .eql 3 (.tmp 48) (.const (.int .i64 0)) 3) none,
  .mk (some 50) (.move (.tmp 49)) none,
  .mk (some 51) (.move (.tmp 9)) (some (50, true)),
  .mk (some 52) (.move (.tmp 0)) (some (50, true)),
  .mk (some 53) (.move (.tmp 8)) (some (50, true)),
  .mk (some 54) (.indexAddr 22 (.tmp 52) (.tmp 53)) (some (50, true)),
  .mk (some 55) (.load 3 (.tmp 54)) (some (50, true)),
  .mk (some 56) (.binOp .neq 3 (.tmp 51) (.tmp 55) 3) (some (50, true)),
  .mk (some 57) (.pick (.tmp 50) (.tmp 56) (.const (.bool false))) none,
  .mk (some 58) (.move (.tmp 57)) none,
  .mk (some 59) (.move (.tmp 11)) (some (58, false)),
  .mk (some 60) (.binOp .gtr 3 (.tmp 59) (.const (.int .i64 0)) 3) (some (58, false)),
  .mk (some 61) (.move (.tmp 60)) (some (58, false)),
  .mk (some 62) (.move (.tmp 13)) (some (61, true)),
  .mk (some 63) (.binOp .eql 3 (.tmp 62) (.const (.int .i64 0)) 3) (some (61, true)),
  .mk (some 64) (.move (.tmp 63)) (some (61, true)),
  .mk (some 65) (.move (.tmp 10)) (some (64, false)),
  .mk (some 66) (.move (.tmp 12)) (some (64, false)),
  .mk (some 67) (.binOp .neq 3 (.tmp 65) (.tmp 66) 3) (some (64, false)),
  .mk (some 68) (.pick (.tmp 64) (.const (.bool true)) (.tmp 67)) (some (61, true)),
  .mk (some 69) (.pick (.tmp 61) (.tmp 68) (.const (.bool false))) (some (58, false)),
  .mk (some 70) (.pick (.tmp 58) (.const (.bool true)) (.tmp 69)) none]
def r3_12 : List PS := [.mk (some 6) (.assign (.const (.bool false))) none]
def r3_13 : List PS := [.mk (some 71) (.binOp .add 3 (.tmp 30) (.const (.int .i64 1)) 3) none,
  .mk (some 30) (.move (.tmp 71)) none]
def r3_14 : List PS := [.mk (some 72) (.call ⟨(.value (.func 5)), #[], #[]⟩) none,
  .mk (some 6) (.assign (.tmp 72)) none]
def c3 : PC := (.seq (.reg false r3_0) (.seq (.seq (.reg false r3_1) (.cond (.tmp 16) (.seq (.reg false r3_2) .ret) .skip)) (.seq (.reg false r3_3) (.seq (.seq (.reg false r3_4) (.cond (.tmp 27) (.seq (.reg false r3_5) .ret) .skip)) (.seq (.seq (.reg false r3_6) (.block 0 (.loop (.seq (.reg false r3_7) (.seq (.cond (.tmp 31) .skip (.exit 0)) (.seq (.block 1 (.seq (.reg false r3_8) (.seq (.reg false r3_9) (.seq (.reg false r3_10) (.seq (.reg false r3_11) (.cond (.tmp 70) (.seq (.reg false r3_12) .ret) .skip)))))) (.reg false r3_13))))))) (.seq (.reg false r3_14) .ret))))))
theorem e3 {args : List PV} {h : Heap} {K : PV → Heap → Prop} (hl : args.length = 3) (s : pwp Try.prog [] c3 (fin Try.prog [.tmp 6] h K) (slots0 (olds args)) h) : CanP Try.prog 3 args h K :=
  can_of2 (n := 73) mixed Try.func3 rfl (by kernel_rfl) (by rw [hl]; kernel_rfl) rfl (by kernel_rfl) s
/-! ### naskh.naskhlaw17.DigitTwice: function 4 -/
def r4_0 : List PS := [.mk (some 6) (.assign (.const (.bool false))) none]
def r4_1 : List PS := [.mk (some 9) (.move (.tmp 0)) none,
  .mk (some 10) (.call ⟨(.builtin .len), #[(.tmp 9)], #[22]⟩) none,
  .mk (some 11) (.binOp .gtr 3 (.tmp 10) (.const (.int .i64 500)) 3) none]
def r4_2 : List PS := [.mk (some 12) (.call ⟨(.value (.func 5)), #[], #[]⟩) none,
  .mk (some 6) (.assign (.tmp 12)) none]
def r4_3 : List PS := [.mk (some 13) (.call ⟨(.value (.func 7)), #[], #[]⟩) none,
  .mk (some 7) (.assign (.tmp 13)) none]
def r4_4 : List PS := [.mk (some 14) (.move (.tmp 7)) none,
  .mk (some 15) (.move (.tmp 0)) none,
  .mk (some 16) (.move (.tmp 1)) none,
  .mk (some 17) (.move (.tmp 2)) none,
  .mk (some 18) (.call ⟨(.value (.func 6)), #[(.tmp 14), (.tmp 15), (.tmp 16), (.tmp 17)], #[25, 22, 3, 4]⟩) none,
  .mk (some 8) (.assign (.tmp 18)) none]
def r4_5 : List PS := [.mk (some 19) (.move (.tmp 7)) none,
  .mk (some 20) (.move (.tmp 8)) none,
  .mk (some 21) (.move (.tmp 1)) none,
  .mk (some 22) (.move (.tmp 2)) none,
  .mk (some 23) (.call ⟨(.value (.func 6)), #[(.tmp 19), (.tmp 20), (.tmp 21), (.tmp 22)], #[25, 22, 3, 4]⟩) none,
  .mk (some 24) (.move (.tmp 8)) none,
  .mk (some 25) (.call ⟨(.value (.func 9)), #[(.tmp 23), (.tmp 24)], #[22, 22]⟩) none,
  .mk (some 26) (.move (.tmp 25)) none,
  .mk (some 27) (.call ⟨(.value (.func 5)), #[], #[]⟩) (some (26, true)),
  .mk (some 28) (.pick (.tmp 26) (.tmp 27) (.const (.bool false))) none,
  .mk (some 6) (.assign (.tmp 28)) none]
def c4 : PC := (.seq (.reg false r4_0) (.seq (.seq (.reg false r4_1) (.cond (.tmp 11) (.seq (.reg false r4_2) .ret) .skip)) (.seq (.reg false r4_3) (.seq (.reg false r4_4) (.seq (.reg false r4_5) .ret)))))
theorem e4 {args : List PV} {h : Heap} {K : PV → Heap → Prop} (hl : args.length = 3) (s : pwp Try.prog [] c4 (fin Try.prog [.tmp 6] h K) (slots0 (olds args)) h) : CanP Try.prog 4 args h K :=
  can_of2 (n := 29) mixed Try.func4 rfl (by kernel_rfl) (by rw [hl]; kernel_rfl) rfl (by kernel_rfl) s
end Go.Proofs.Ytbaammcbkjfmhaa
