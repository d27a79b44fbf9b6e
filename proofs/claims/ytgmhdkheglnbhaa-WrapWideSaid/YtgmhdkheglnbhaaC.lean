/-
  The functions that the statements of this seat reach, told in short, and facts on their types. Printed by this project's own program.
  Conditions: none.
-/
import Derived.Test.YtgmhdkheglnbhaaPmO
import Derived.Test.YtgmhdkheglnbhaaProg
import Derived.KernelRfl
namespace Go.Proofs.Ytgmhdkheglnbhaa
open Go.Pm
set_option maxRecDepth 100000
set_option linter.unusedVariables false
theorem mixed : Try.prog.follows .mixedOrders = true := by kernel_rfl
theorem tag3 : tag Try.prog 3 = some false := by kernel_rfl
theorem tsz3 : tsz Try.prog 3 = some 1 := by kernel_rfl
theorem und3 : und Try.prog 3 = true := by kernel_rfl
theorem ik3 : ik Try.prog 3 = some .i64 := by kernel_rfl
theorem kd3 : kd Try.prog 3 = none := by kernel_rfl
theorem esz3 : esz Try.prog 3 = none := by kernel_rfl
theorem zc3 : zc Try.prog 3 = some [.int .i64 0] := by kernel_rfl
theorem ars3 : ars Try.prog 3 = none := by kernel_rfl
theorem tag4 : tag Try.prog 4 = some false := by kernel_rfl
theorem tsz4 : tsz Try.prog 4 = some 1 := by kernel_rfl
theorem und4 : und Try.prog 4 = true := by kernel_rfl
theorem ik4 : ik Try.prog 4 = none := by kernel_rfl
theorem kd4 : kd Try.prog 4 = some 3 := by kernel_rfl
theorem esz4 : esz Try.prog 4 = none := by kernel_rfl
theorem zc4 : zc Try.prog 4 = some [.bool false] := by kernel_rfl
theorem ars4 : ars Try.prog 4 = none := by kernel_rfl
theorem tag5 : tag Try.prog 5 = some false := by kernel_rfl
theorem tsz5 : tsz Try.prog 5 = some 1 := by kernel_rfl
theorem und5 : und Try.prog 5 = true := by kernel_rfl
theorem ik5 : ik Try.prog 5 = some .u8 := by kernel_rfl
theorem kd5 : kd Try.prog 5 = none := by kernel_rfl
theorem esz5 : esz Try.prog 5 = none := by kernel_rfl
theorem zc5 : zc Try.prog 5 = some [.int .u8 0] := by kernel_rfl
theorem ars5 : ars Try.prog 5 = none := by kernel_rfl
theorem tag22 : tag Try.prog 22 = some false := by kernel_rfl
theorem tsz22 : tsz Try.prog 22 = some 1 := by kernel_rfl
theorem und22 : und Try.prog 22 = true := by kernel_rfl
theorem ik22 : ik Try.prog 22 = none := by kernel_rfl
theorem kd22 : kd Try.prog 22 = some 1 := by kernel_rfl
theorem esz22 : esz Try.prog 22 = some 1 := by kernel_rfl
theorem elt22 : elt Try.prog 22 = some 3 := by kernel_rfl
theorem zc22 : zc Try.prog 22 = some [.nils] := by kernel_rfl
theorem ars22 : ars Try.prog 22 = none := by kernel_rfl
theorem eli22 : eli Try.prog 22 = some (1, 8, [.int .i64 0]) := by kernel_rfl
theorem tag24 : tag Try.prog 24 = some false := by kernel_rfl
theorem tsz24 : tsz Try.prog 24 = some 1 := by kernel_rfl
theorem und24 : und Try.prog 24 = true := by kernel_rfl
theorem ik24 : ik Try.prog 24 = none := by kernel_rfl
theorem kd24 : kd Try.prog 24 = some 2 := by kernel_rfl
theorem esz24 : esz Try.prog 24 = none := by kernel_rfl
theorem zc24 : zc Try.prog 24 = some [.nilp] := by kernel_rfl
theorem ars24 : ars Try.prog 24 = none := by kernel_rfl
theorem tag26 : tag Try.prog 26 = some false := by kernel_rfl
theorem tsz26 : tsz Try.prog 26 = some 1 := by kernel_rfl
theorem und26 : und Try.prog 26 = true := by kernel_rfl
theorem ik26 : ik Try.prog 26 = none := by kernel_rfl
theorem kd26 : kd Try.prog 26 = some 1 := by kernel_rfl
theorem esz26 : esz Try.prog 26 = some 2 := by kernel_rfl
theorem elt26 : elt Try.prog 26 = some 33 := by kernel_rfl
theorem zc26 : zc Try.prog 26 = some [.nils] := by kernel_rfl
theorem ars26 : ars Try.prog 26 = none := by kernel_rfl
theorem eli26 : eli Try.prog 26 = some (2, 16, [.int .i64 0, .int .i64 0]) := by kernel_rfl
theorem tag27 : tag Try.prog 27 = some false := by kernel_rfl
theorem tsz27 : tsz Try.prog 27 = some 1 := by kernel_rfl
theorem und27 : und Try.prog 27 = true := by kernel_rfl
theorem ik27 : ik Try.prog 27 = some .i64 := by kernel_rfl
theorem kd27 : kd Try.prog 27 = none := by kernel_rfl
theorem esz27 : esz Try.prog 27 = none := by kernel_rfl
theorem zc27 : zc Try.prog 27 = some [.int .i64 0] := by kernel_rfl
theorem ars27 : ars Try.prog 27 = none := by kernel_rfl
theorem tag30 : tag Try.prog 30 = some false := by kernel_rfl
theorem tsz30 : tsz Try.prog 30 = some 1 := by kernel_rfl
theorem und30 : und Try.prog 30 = true := by kernel_rfl
theorem ik30 : ik Try.prog 30 = none := by kernel_rfl
theorem kd30 : kd Try.prog 30 = some 2 := by kernel_rfl
theorem esz30 : esz Try.prog 30 = none := by kernel_rfl
theorem zc30 : zc Try.prog 30 = some [.nilp] := by kernel_rfl
theorem ars30 : ars Try.prog 30 = none := by kernel_rfl
theorem tag33 : tag Try.prog 33 = some true := by kernel_rfl
theorem tsz33 : tsz Try.prog 33 = some 2 := by kernel_rfl
theorem und33 : und Try.prog 33 = true := by kernel_rfl
theorem ik33 : ik Try.prog 33 = none := by kernel_rfl
theorem kd33 : kd Try.prog 33 = some 14 := by kernel_rfl
theorem esz33 : esz Try.prog 33 = none := by kernel_rfl
theorem zc33 : zc Try.prog 33 = some [.int .i64 0, .int .i64 0] := by kernel_rfl
theorem ars33 : ars Try.prog 33 = none := by kernel_rfl
theorem fld33_0 : fld Try.prog 33 0 = some (0, false, 1) := by kernel_rfl
theorem fld33_1 : fld Try.prog 33 1 = some (1, false, 1) := by kernel_rfl
theorem plc33 : plc Try.prog 33 = some fun i => [(0, 1), (1, 1)][i]? := by kernel_rfl
theorem tag34 : tag Try.prog 34 = some false := by kernel_rfl
theorem tsz34 : tsz Try.prog 34 = some 1 := by kernel_rfl
theorem und34 : und Try.prog 34 = true := by kernel_rfl
theorem ik34 : ik Try.prog 34 = none := by kernel_rfl
theorem kd34 : kd Try.prog 34 = none := by kernel_rfl
theorem esz34 : esz Try.prog 34 = none := by kernel_rfl
theorem zc34 : zc Try.prog 34 = some [.nilf] := by kernel_rfl
theorem ars34 : ars Try.prog 34 = none := by kernel_rfl
theorem tag49 : tag Try.prog 49 = some false := by kernel_rfl
theorem tsz49 : tsz Try.prog 49 = some 1 := by kernel_rfl
theorem und49 : und Try.prog 49 = true := by kernel_rfl
theorem ik49 : ik Try.prog 49 = none := by kernel_rfl
theorem kd49 : kd Try.prog 49 = some 2 := by kernel_rfl
theorem esz49 : esz Try.prog 49 = none := by kernel_rfl
theorem zc49 : zc Try.prog 49 = some [.nilp] := by kernel_rfl
theorem ars49 : ars Try.prog 49 = none := by kernel_rfl
theorem tag52 : tag Try.prog 52 = some false := by kernel_rfl
theorem tsz52 : tsz Try.prog 52 = some 1 := by kernel_rfl
theorem und52 : und Try.prog 52 = true := by kernel_rfl
theorem ik52 : ik Try.prog 52 = none := by kernel_rfl
theorem kd52 : kd Try.prog 52 = some 1 := by kernel_rfl
theorem esz52 : esz Try.prog 52 = some 3 := by kernel_rfl
theorem elt52 : elt Try.prog 52 = some 85 := by kernel_rfl
theorem zc52 : zc Try.prog 52 = some [.nils] := by kernel_rfl
theorem ars52 : ars Try.prog 52 = none := by kernel_rfl
theorem eli52 : eli Try.prog 52 = some (3, 24, [.int .i64 0, .int .i64 0, .int .i64 0]) := by kernel_rfl
theorem tag55 : tag Try.prog 55 = some true := by kernel_rfl
theorem tsz55 : tsz Try.prog 55 = some 2 := by kernel_rfl
theorem und55 : und Try.prog 55 = true := by kernel_rfl
theorem ik55 : ik Try.prog 55 = none := by kernel_rfl
theorem kd55 : kd Try.prog 55 = none := by kernel_rfl
theorem esz55 : esz Try.prog 55 = none := by kernel_rfl
theorem zc55 : zc Try.prog 55 = some [.nilp, .nilp] := by kernel_rfl
theorem ars55 : ars Try.prog 55 = none := by kernel_rfl
theorem fld55_0 : fld Try.prog 55 0 = some (0, false, 1) := by kernel_rfl
theorem fld55_1 : fld Try.prog 55 1 = some (1, false, 1) := by kernel_rfl
theorem plc55 : plc Try.prog 55 = some fun i => [(0, 1), (1, 1)][i]? := by kernel_rfl
theorem tag57 : tag Try.prog 57 = some true := by kernel_rfl
theorem tsz57 : tsz Try.prog 57 = some 2 := by kernel_rfl
theorem und57 : und Try.prog 57 = true := by kernel_rfl
theorem ik57 : ik Try.prog 57 = none := by kernel_rfl
theorem kd57 : kd Try.prog 57 = none := by kernel_rfl
theorem esz57 : esz Try.prog 57 = none := by kernel_rfl
theorem zc57 : zc Try.prog 57 = some [.nilp, .nilp] := by kernel_rfl
theorem ars57 : ars Try.prog 57 = none := by kernel_rfl
theorem fld57_0 : fld Try.prog 57 0 = some (0, true, 2) := by kernel_rfl
theorem plc57 : plc Try.prog 57 = some fun i => [(0, 2)][i]? := by kernel_rfl
theorem tag60 : tag Try.prog 60 = some true := by kernel_rfl
theorem tsz60 : tsz Try.prog 60 = some 2 := by kernel_rfl
theorem und60 : und Try.prog 60 = true := by kernel_rfl
theorem ik60 : ik Try.prog 60 = none := by kernel_rfl
theorem kd60 : kd Try.prog 60 = none := by kernel_rfl
theorem esz60 : esz Try.prog 60 = none := by kernel_rfl
theorem zc60 : zc Try.prog 60 = some [.nilp, .nilp] := by kernel_rfl
theorem ars60 : ars Try.prog 60 = none := by kernel_rfl
theorem fld60_0 : fld Try.prog 60 0 = some (0, false, 1) := by kernel_rfl
theorem fld60_1 : fld Try.prog 60 1 = some (1, false, 1) := by kernel_rfl
theorem plc60 : plc Try.prog 60 = some fun i => [(0, 1), (1, 1)][i]? := by kernel_rfl
theorem tag62 : tag Try.prog 62 = some true := by kernel_rfl
theorem tsz62 : tsz Try.prog 62 = some 2 := by kernel_rfl
theorem und62 : und Try.prog 62 = true := by kernel_rfl
theorem ik62 : ik Try.prog 62 = none := by kernel_rfl
theorem kd62 : kd Try.prog 62 = none := by kernel_rfl
theorem esz62 : esz Try.prog 62 = none := by kernel_rfl
theorem zc62 : zc Try.prog 62 = some [.nilp, .nilp] := by kernel_rfl
theorem ars62 : ars Try.prog 62 = none := by kernel_rfl
theorem fld62_0 : fld Try.prog 62 0 = some (0, true, 2) := by kernel_rfl
theorem plc62 : plc Try.prog 62 = some fun i => [(0, 2)][i]? := by kernel_rfl
theorem tag64 : tag Try.prog 64 = some false := by kernel_rfl
theorem tsz64 : tsz Try.prog 64 = some 1 := by kernel_rfl
theorem und64 : und Try.prog 64 = true := by kernel_rfl
theorem ik64 : ik Try.prog 64 = none := by kernel_rfl
theorem kd64 : kd Try.prog 64 = some 2 := by kernel_rfl
theorem esz64 : esz Try.prog 64 = none := by kernel_rfl
theorem zc64 : zc Try.prog 64 = some [.nilp] := by kernel_rfl
theorem ars64 : ars Try.prog 64 = none := by kernel_rfl
theorem tag74 : tag Try.prog 74 = some false := by kernel_rfl
theorem tsz74 : tsz Try.prog 74 = some 1 := by kernel_rfl
theorem und74 : und Try.prog 74 = true := by kernel_rfl
theorem ik74 : ik Try.prog 74 = none := by kernel_rfl
theorem kd74 : kd Try.prog 74 = some 1 := by kernel_rfl
theorem esz74 : esz Try.prog 74 = some 128 := by kernel_rfl
theorem elt74 : elt Try.prog 74 = some 80 := by kernel_rfl
theorem zc74 : zc Try.prog 74 = some [.nils] := by kernel_rfl
theorem ars74 : ars Try.prog 74 = none := by kernel_rfl
theorem eli74 : eli Try.prog 74 = some (128, 1024, List.replicate 128 (.int .i64 0)) := by kernel_rfl
theorem tag76 : tag Try.prog 76 = some true := by kernel_rfl
theorem tsz76 : tsz Try.prog 76 = some 2 := by kernel_rfl
theorem und76 : und Try.prog 76 = true := by kernel_rfl
theorem ik76 : ik Try.prog 76 = none := by kernel_rfl
theorem kd76 : kd Try.prog 76 = none := by kernel_rfl
theorem esz76 : esz Try.prog 76 = none := by kernel_rfl
theorem zc76 : zc Try.prog 76 = some [.nils, .nils] := by kernel_rfl
theorem ars76 : ars Try.prog 76 = none := by kernel_rfl
theorem fld76_0 : fld Try.prog 76 0 = some (0, false, 1) := by kernel_rfl
theorem fld76_1 : fld Try.prog 76 1 = some (1, false, 1) := by kernel_rfl
theorem plc76 : plc Try.prog 76 = some fun i => [(0, 1), (1, 1)][i]? := by kernel_rfl
theorem tag78 : tag Try.prog 78 = some true := by kernel_rfl
theorem tsz78 : tsz Try.prog 78 = some 4 := by kernel_rfl
theorem und78 : und Try.prog 78 = true := by kernel_rfl
theorem ik78 : ik Try.prog 78 = none := by kernel_rfl
theorem kd78 : kd Try.prog 78 = none := by kernel_rfl
theorem esz78 : esz Try.prog 78 = none := by kernel_rfl
theorem zc78 : zc Try.prog 78 = some [.nils, .nils, .int .i64 0, .bool false] := by kernel_rfl
theorem ars78 : ars Try.prog 78 = none := by kernel_rfl
theorem fld78_0 : fld Try.prog 78 0 = some (0, true, 2) := by kernel_rfl
theorem fld78_1 : fld Try.prog 78 1 = some (2, false, 1) := by kernel_rfl
theorem fld78_2 : fld Try.prog 78 2 = some (3, false, 1) := by kernel_rfl
theorem plc78 : plc Try.prog 78 = some fun i => [(0, 2), (2, 1), (3, 1)][i]? := by kernel_rfl
theorem tag80 : tag Try.prog 80 = some true := by kernel_rfl
theorem tsz80 : tsz Try.prog 80 = some 128 := by kernel_rfl
theorem und80 : und Try.prog 80 = true := by kernel_rfl
theorem ik80 : ik Try.prog 80 = none := by kernel_rfl
theorem kd80 : kd Try.prog 80 = some 266 := by kernel_rfl
theorem esz80 : esz Try.prog 80 = none := by kernel_rfl
theorem zc80 : zc Try.prog 80 = some (List.replicate 128 (.int .i64 0)) := by kernel_rfl
theorem ars80 : ars Try.prog 80 = some (128, 1, false) := by kernel_rfl
theorem plc80 : plc Try.prog 80 = some fun i => some (i * 1, 1) := by kernel_rfl
theorem tag85 : tag Try.prog 85 = some true := by kernel_rfl
theorem tsz85 : tsz Try.prog 85 = some 3 := by kernel_rfl
theorem und85 : und Try.prog 85 = true := by kernel_rfl
theorem ik85 : ik Try.prog 85 = none := by kernel_rfl
theorem kd85 : kd Try.prog 85 = some 16 := by kernel_rfl
theorem esz85 : esz Try.prog 85 = none := by kernel_rfl
theorem zc85 : zc Try.prog 85 = some [.int .i64 0, .int .i64 0, .int .i64 0] := by kernel_rfl
theorem ars85 : ars Try.prog 85 = none := by kernel_rfl
theorem fld85_0 : fld Try.prog 85 0 = some (0, false, 1) := by kernel_rfl
theorem fld85_1 : fld Try.prog 85 1 = some (1, false, 1) := by kernel_rfl
theorem fld85_2 : fld Try.prog 85 2 = some (2, false, 1) := by kernel_rfl
theorem plc85 : plc Try.prog 85 = some fun i => [(0, 1), (1, 1), (2, 1)][i]? := by kernel_rfl
theorem tag89 : tag Try.prog 89 = some true := by kernel_rfl
theorem tsz89 : tsz Try.prog 89 = some 4 := by kernel_rfl
theorem und89 : und Try.prog 89 = true := by kernel_rfl
theorem ik89 : ik Try.prog 89 = none := by kernel_rfl
theorem kd89 : kd Try.prog 89 = none := by kernel_rfl
theorem esz89 : esz Try.prog 89 = none := by kernel_rfl
theorem zc89 : zc Try.prog 89 = some [.nils, .nils, .nils, .nilp] := by kernel_rfl
theorem ars89 : ars Try.prog 89 = none := by kernel_rfl
theorem fld89_0 : fld Try.prog 89 0 = some (0, false, 1) := by kernel_rfl
theorem fld89_1 : fld Try.prog 89 1 = some (1, false, 1) := by kernel_rfl
theorem fld89_2 : fld Try.prog 89 2 = some (2, false, 1) := by kernel_rfl
theorem fld89_3 : fld Try.prog 89 3 = some (3, false, 1) := by kernel_rfl
theorem plc89 : plc Try.prog 89 = some fun i => [(0, 1), (1, 1), (2, 1), (3, 1)][i]? := by kernel_rfl
theorem tag98 : tag Try.prog 98 = some false := by kernel_rfl
theorem tsz98 : tsz Try.prog 98 = some 1 := by kernel_rfl
theorem und98 : und Try.prog 98 = true := by kernel_rfl
theorem ik98 : ik Try.prog 98 = none := by kernel_rfl
theorem kd98 : kd Try.prog 98 = some 2 := by kernel_rfl
theorem esz98 : esz Try.prog 98 = none := by kernel_rfl
theorem zc98 : zc Try.prog 98 = some [.nilp] := by kernel_rfl
theorem ars98 : ars Try.prog 98 = none := by kernel_rfl
theorem tag103 : tag Try.prog 103 = some false := by kernel_rfl
theorem tsz103 : tsz Try.prog 103 = some 1 := by kernel_rfl
theorem und103 : und Try.prog 103 = true := by kernel_rfl
theorem ik103 : ik Try.prog 103 = some .u64 := by kernel_rfl
theorem kd103 : kd Try.prog 103 = none := by kernel_rfl
theorem esz103 : esz Try.prog 103 = none := by kernel_rfl
theorem zc103 : zc Try.prog 103 = some [.int .u64 0] := by kernel_rfl
theorem ars103 : ars Try.prog 103 = none := by kernel_rfl
theorem tag105 : tag Try.prog 105 = some false := by kernel_rfl
theorem tsz105 : tsz Try.prog 105 = some 1 := by kernel_rfl
theorem und105 : und Try.prog 105 = true := by kernel_rfl
theorem ik105 : ik Try.prog 105 = none := by kernel_rfl
theorem kd105 : kd Try.prog 105 = none := by kernel_rfl
theorem esz105 : esz Try.prog 105 = none := by kernel_rfl
theorem zc105 : zc Try.prog 105 = some [.nilf] := by kernel_rfl
theorem ars105 : ars Try.prog 105 = none := by kernel_rfl
theorem ft : (tag Try.prog 3 = some false) ∧
    (tsz Try.prog 3 = some 1) ∧
    (und Try.prog 3 = true) ∧
    (ik Try.prog 3 = some .i64) ∧
    (kd Try.prog 3 = none) ∧
    (esz Try.prog 3 = none) ∧
    (zc Try.prog 3 = some [.int .i64 0]) ∧
    (ars Try.prog 3 = none) ∧
    (tag Try.prog 4 = some false) ∧
    (tsz Try.prog 4 = some 1) ∧
    (und Try.prog 4 = true) ∧
    (ik Try.prog 4 = none) ∧
    (kd Try.prog 4 = some 3) ∧
    (esz Try.prog 4 = none) ∧
    (zc Try.prog 4 = some [.bool false]) ∧
    (ars Try.prog 4 = none) ∧
    (tag Try.prog 5 = some false) ∧
    (tsz Try.prog 5 = some 1) ∧
    (und Try.prog 5 = true) ∧
    (ik Try.prog 5 = some .u8) ∧
    (kd Try.prog 5 = none) ∧
    (esz Try.prog 5 = none) ∧
    (zc Try.prog 5 = some [.int .u8 0]) ∧
    (ars Try.prog 5 = none) ∧
    (tag Try.prog 22 = some false) ∧
    (tsz Try.prog 22 = some 1) ∧
    (und Try.prog 22 = true) ∧
    (ik Try.prog 22 = none) ∧
    (kd Try.prog 22 = some 1) ∧
    (esz Try.prog 22 = some 1) ∧
    (elt Try.prog 22 = some 3) ∧
    (zc Try.prog 22 = some [.nils]) ∧
    (ars Try.prog 22 = none) ∧
    (eli Try.prog 22 = some (1, 8, [.int .i64 0])) ∧
    (tag Try.prog 24 = some false) ∧
    (tsz Try.prog 24 = some 1) ∧
    (und Try.prog 24 = true) ∧
    (ik Try.prog 24 = none) ∧
    (kd Try.prog 24 = some 2) ∧
    (esz Try.prog 24 = none) ∧
    (zc Try.prog 24 = some [.nilp]) ∧
    (ars Try.prog 24 = none) ∧
    (tag Try.prog 26 = some false) ∧
    (tsz Try.prog 26 = some 1) ∧
    (und Try.prog 26 = true) ∧
    (ik Try.prog 26 = none) ∧
    (kd Try.prog 26 = some 1) ∧
    (esz Try.prog 26 = some 2) ∧
    (elt Try.prog 26 = some 33) ∧
    (zc Try.prog 26 = some [.nils]) ∧
    (ars Try.prog 26 = none) ∧
    (eli Try.prog 26 = some (2, 16, [.int .i64 0, .int .i64 0])) ∧
    (tag Try.prog 27 = some false) ∧
    (tsz Try.prog 27 = some 1) ∧
    (und Try.prog 27 = true) ∧
    (ik Try.prog 27 = some .i64) ∧
    (kd Try.prog 27 = none) ∧
    (esz Try.prog 27 = none) ∧
    (zc Try.prog 27 = some [.int .i64 0]) ∧
    (ars Try.prog 27 = none) ∧
    (tag Try.prog 30 = some false) ∧
    (tsz Try.prog 30 = some 1) ∧
    (und Try.prog 30 = true) ∧
    (ik Try.prog 30 = none) ∧
    (kd Try.prog 30 = some 2) ∧
    (esz Try.prog 30 = none) ∧
    (zc Try.prog 30 = some [.nilp]) ∧
    (ars Try.prog 30 = none) ∧
    (tag Try.prog 33 = some true) ∧
    (tsz Try.prog 33 = some 2) ∧
    (und Try.prog 33 = true) ∧
    (ik Try.prog 33 = none) ∧
    (kd Try.prog 33 = some 14) ∧
    (esz Try.prog 33 = none) ∧
    (zc Try.prog 33 = some [.int .i64 0, .int .i64 0]) ∧
    (ars Try.prog 33 = none) ∧
    (fld Try.prog 33 0 = some (0, false, 1)) ∧
    (fld Try.prog 33 1 = some (1, false, 1)) ∧
    (plc Try.prog 33 = some fun i => [(0, 1), (1, 1)][i]?) ∧
    (tag Try.prog 34 = some false) ∧
    (tsz Try.prog 34 = some 1) ∧
    (und Try.prog 34 = true) ∧
    (ik Try.prog 34 = none) ∧
    (kd Try.prog 34 = none) ∧
    (esz Try.prog 34 = none) ∧
    (zc Try.prog 34 = some [.nilf]) ∧
    (ars Try.prog 34 = none) ∧
    (tag Try.prog 49 = some false) ∧
    (tsz Try.prog 49 = some 1) ∧
    (und Try.prog 49 = true) ∧
    (ik Try.prog 49 = none) ∧
    (kd Try.prog 49 = some 2) ∧
    (esz Try.prog 49 = none) ∧
    (zc Try.prog 49 = some [.nilp]) ∧
    (ars Try.prog 49 = none) ∧
    (tag Try.prog 52 = some false) ∧
    (tsz Try.prog 52 = some 1) ∧
    (und Try.prog 52 = true) ∧
    (ik Try.prog 52 = none) ∧
    (kd Try.prog 52 = some 1) ∧
    (esz Try.prog 52 = some 3) ∧
    (elt Try.prog 52 = some 85) ∧
    (zc Try.prog 52 = some [.nils]) ∧
    (ars Try.prog 52 = none) ∧
    (eli Try.prog 52 = some (3, 24, [.int .i64 0, .int .i64 0, .int .i64 0])) ∧
    (tag Try.prog 55 = some true) ∧
    (tsz Try.prog 55 = some 2) ∧
    (und Try.prog 55 = true) ∧
    (ik Try.prog 55 = none) ∧
    (kd Try.prog 55 = none) ∧
    (esz Try.prog 55 = none) ∧
    (zc Try.prog 55 = some [.nilp, .nilp]) ∧
    (ars Try.prog 55 = none) ∧
    (fld Try.prog 55 0 = some (0, false, 1)) ∧
    (fld Try.prog 55 1 = some (1, false, 1)) ∧
    (plc Try.prog 55 = some fun i => [(0, 1), (1, 1)][i]?) ∧
    (tag Try.prog 57 = some true) ∧
    (tsz Try.prog 57 = some 2) ∧
    (und Try.prog 57 = true) ∧
    (ik Try.prog 57 = none) ∧
    (kd Try.prog 57 = none) ∧
    (esz Try.prog 57 = none) ∧
    (zc Try.prog 57 = some [.nilp, .nilp]) ∧
    (ars Try.prog 57 = none) ∧
    (fld Try.prog 57 0 = some (0, true, 2)) ∧
    (plc Try.prog 57 = some fun i => [(0, 2)][i]?) ∧
    (tag Try.prog 60 = some true) ∧
    (tsz Try.prog 60 = some 2) ∧
    (und Try.prog 60 = true) ∧
    (ik Try.prog 60 = none) ∧
    (kd Try.prog 60 = none) ∧
    (esz Try.prog 60 = none) ∧
    (zc Try.prog 60 = some [.nilp, .nilp]) ∧
    (ars Try.prog 60 = none) ∧
    (fld Try.prog 60 0 = some (0, false, 1)) ∧
    (fld Try.prog 60 1 = some (1, false, 1)) ∧
    (plc Try.prog 60 = some fun i => [(0, 1), (1, 1)][i]?) ∧
    (tag Try.prog 62 = some true) ∧
    (tsz Try.prog 62 = some 2) ∧
    (und Try.prog 62 = true) ∧
    (ik Try.prog 62 = none) ∧
    (kd Try.prog 62 = none) ∧
    (esz Try.prog 62 = none) ∧
    (zc Try.prog 62 = some [.nilp, .nilp]) ∧
    (ars Try.prog 62 = none) ∧
    (fld Try.prog 62 0 = some (0, true, 2)) ∧
    (plc Try.prog 62 = some fun i => [(0, 2)][i]?) ∧
    (tag Try.prog 64 = some false) ∧
    (tsz Try.prog 64 = some 1) ∧
    (und Try.prog 64 = true) ∧
    (ik Try.prog 64 = none) ∧
    (kd Try.prog 64 = some 2) ∧
    (esz Try.prog 64 = none) ∧
    (zc Try.prog 64 = some [.nilp]) ∧
    (ars Try.prog 64 = none) ∧
    (tag Try.prog 74 = some false) ∧
    (tsz Try.prog 74 = some 1) ∧
    (und Try.prog 74 = true) ∧
    (ik Try.prog 74 = none) ∧
    (kd Try.prog 74 = some 1) ∧
    (esz Try.prog 74 = some 128) ∧
    (elt Try.prog 74 = some 80) ∧
    (zc Try.prog 74 = some [.nils]) ∧
    (ars Try.prog 74 = none) ∧
    (eli Try.prog 74 = some (128, 1024, List.replicate 128 (.int .i64 0))) ∧
    (tag Try.prog 76 = some true) ∧
    (tsz Try.prog 76 = some 2) ∧
    (und Try.prog 76 = true) ∧
    (ik Try.prog 76 = none) ∧
    (kd Try.prog 76 = none) ∧
    (esz Try.prog 76 = none) ∧
    (zc Try.prog 76 = some [.nils, .nils]) ∧
    (ars Try.prog 76 = none) ∧
    (fld Try.prog 76 0 = some (0, false, 1)) ∧
    (fld Try.prog 76 1 = some (1, false, 1)) ∧
    (plc Try.prog 76 = some fun i => [(0, 1), (1, 1)][i]?) ∧
    (tag Try.prog 78 = some true) ∧
    (tsz Try.prog 78 = some 4) ∧
    (und Try.prog 78 = true) ∧
    (ik Try.prog 78 = none) ∧
    (kd Try.prog 78 = none) ∧
    (esz Try.prog 78 = none) ∧
    (zc Try.prog 78 = some [.nils, .nils, .int .i64 0, .bool false]) ∧
    (ars Try.prog 78 = none) ∧
    (fld Try.prog 78 0 = some (0, true, 2)) ∧
    (fld Try.prog 78 1 = some (2, false, 1)) ∧
    (fld Try.prog 78 2 = some (3, false, 1)) ∧
    (plc Try.prog 78 = some fun i => [(0, 2), (2, 1), (3, 1)][i]?) ∧
    (tag Try.prog 80 = some true) ∧
    (tsz Try.prog 80 = some 128) ∧
    (und Try.prog 80 = true) ∧
    (ik Try.prog 80 = none) ∧
    (kd Try.prog 80 = some 266) ∧
    (esz Try.prog 80 = none) ∧
    (zc Try.prog 80 = some (List.replicate 128 (.int .i64 0))) ∧
    (ars Try.prog 80 = some (128, 1, false)) ∧
    (plc Try.prog 80 = some fun i => some (i * 1, 1)) ∧
    (tag Try.prog 85 = some true) ∧
    (tsz Try.prog 85 = some 3) ∧
    (und Try.prog 85 = true) ∧
    (ik Try.prog 85 = none) ∧
    (kd Try.prog 85 = some 16) ∧
    (esz Try.prog 85 = none) ∧
    (zc Try.prog 85 = some [.int .i64 0, .int .i64 0, .int .i64 0]) ∧
    (ars Try.prog 85 = none) ∧
    (fld Try.prog 85 0 = some (0, false, 1)) ∧
    (fld Try.prog 85 1 = some (1, false, 1)) ∧
    (fld Try.prog 85 2 = some (2, false, 1)) ∧
    (plc Try.prog 85 = some fun i => [(0, 1), (1, 1), (2, 1)][i]?) ∧
    (tag Try.prog 89 = some true) ∧
    (tsz Try.prog 89 = some 4) ∧
    (und Try.prog 89 = true) ∧
    (ik Try.prog 89 = none) ∧
    (kd Try.prog 89 = none) ∧
    (esz Try.prog 89 = none) ∧
    (zc Try.prog 89 = some [.nils, .nils, .nils, .nilp]) ∧
    (ars Try.prog 89 = none) ∧
    (fld Try.prog 89 0 = some (0, false, 1)) ∧
    (fld Try.prog 89 1 = some (1, false, 1)) ∧
    (fld Try.prog 89 2 = some (2, false, 1)) ∧
    (fld Try.prog 89 3 = some (3, false, 1)) ∧
    (plc Try.prog 89 = some fun i => [(0, 1), (1, 1), (2, 1), (3, 1)][i]?) ∧
    (tag Try.prog 98 = some false) ∧
    (tsz Try.prog 98 = some 1) ∧
    (und Try.prog 98 = true) ∧
    (ik Try.prog 98 = none) ∧
    (kd Try.prog 98 = some 2) ∧
    (esz Try.prog 98 = none) ∧
    (zc Try.prog 98 = some [.nilp]) ∧
    (ars Try.prog 98 = none) ∧
    (tag Try.prog 103 = some false) ∧
    (tsz Try.prog 103 = some 1) ∧
    (und Try.prog 103 = true) ∧
    (ik Try.prog 103 = some .u64) ∧
    (kd Try.prog 103 = none) ∧
    (esz Try.prog 103 = none) ∧
    (zc Try.prog 103 = some [.int .u64 0]) ∧
    (ars Try.prog 103 = none) ∧
    (tag Try.prog 105 = some false) ∧
    (tsz Try.prog 105 = some 1) ∧
    (und Try.prog 105 = true) ∧
    (ik Try.prog 105 = none) ∧
    (kd Try.prog 105 = none) ∧
    (esz Try.prog 105 = none) ∧
    (zc Try.prog 105 = some [.nilf]) ∧
    (ars Try.prog 105 = none) :=
  ⟨tag3, tsz3, und3, ik3, kd3, esz3, zc3, ars3, tag4, tsz4, und4, ik4, kd4, esz4, zc4, ars4, tag5, tsz5, und5, ik5, kd5, esz5, zc5, ars5, tag22, tsz22, und22, ik22, kd22, esz22, elt22, zc22, ars22, eli22, tag24, tsz24, und24, ik24, kd24, esz24, zc24, ars24, tag26, tsz26, und26, ik26, kd26, esz26, elt26, zc26, ars26, eli26, tag27, tsz27, und27, ik27, kd27, esz27, zc27, ars27, tag30, tsz30, und30, ik30, kd30, esz30, zc30, ars30, tag33, tsz33, und33, ik33, kd33, esz33, zc33, ars33, fld33_0, fld33_1, plc33, tag34, tsz34, und34, ik34, kd34, esz34, zc34, ars34, tag49, tsz49, und49, ik49, kd49, esz49, zc49, ars49, tag52, tsz52, und52, ik52, kd52, esz52, elt52, zc52, ars52, eli52, tag55, tsz55, und55, ik55, kd55, esz55, zc55, ars55, fld55_0, fld55_1, plc55, tag57, tsz57, und57, ik57, kd57, esz57, zc57, ars57, fld57_0, plc57, tag60, tsz60, und60, ik60, kd60, esz60, zc60, ars60, fld60_0, fld60_1, plc60, tag62, tsz62, und62, ik62, kd62, esz62, zc62, ars62, fld62_0, plc62, tag64, tsz64, und64, ik64, kd64, esz64, zc64, ars64, tag74, tsz74, und74, ik74, kd74, esz74, elt74, zc74, ars74, eli74, tag76, tsz76, und76, ik76, kd76, esz76, zc76, ars76, fld76_0, fld76_1, plc76, tag78, tsz78, und78, ik78, kd78, esz78, zc78, ars78, fld78_0, fld78_1, fld78_2, plc78, tag80, tsz80, und80, ik80, kd80, esz80, zc80, ars80, plc80, tag85, tsz85, und85, ik85, kd85, esz85, zc85, ars85, fld85_0, fld85_1, fld85_2, plc85, tag89, tsz89, und89, ik89, kd89, esz89, zc89, ars89, fld89_0, fld89_1, fld89_2, fld89_3, plc89, tag98, tsz98, und98, ik98, kd98, esz98, zc98, ars98, tag103, tsz103, und103, ik103, kd103, esz103, zc103, ars103, tag105, tsz105, und105, ik105, kd105, esz105, zc105, ars105⟩
/-! ### naskh.trie.may: function 36 -/
def r36_0 : List PS := [.mk (some 2) (.assign (.const (.int .i64 0))) none]
def r36_1 : List PS := [.mk (some 6) (.move (.tmp 0)) none,
  .mk (some 7) (.call ⟨(.builtin .len), #[(.tmp 6)], #[52]⟩) none,
  .mk (some 8) (.binOp .gtr 3 (.tmp 7) (.const (.int .i64 4096)) 3) none]
def r36_2 : List PS := [.mk (some 2) (.assign (.const (.int .i64 6))) none]
def r36_3 : List PS := [.mk (some 3) (.assign (.const (.int .i64 (-1)))) none]
def r36_4 : List PS := [.mk (some 9) (.move (.tmp 0)) none,
  .mk (some 10) (.call ⟨(.builtin .len), #[(.tmp 9)], #[52]⟩) none,
  .mk (some 11) (.move (.const (.int .i64 0))) none]
def r36_5 : List PS := [.mk (some 12) (.binOp .lss 3 (.tmp 11) (.tmp 10) 3) none]
def r36_6 : List PS := [.mk (some 13) (.indexAddr 52 (.tmp 9) (.tmp 11)) none,
  .mk (some 14) (.load 85 (.tmp 13)) none,
  .mk (some 5) (.alloc 85) none,
  .mk none (.store 85 (.tmp 5) (.tmp 14)) none,
  .frz 5]
def r36_7 : List PS := [.mk (some 15) (.fieldAddr 85 (.tmp 5) 0) none,
  .mk (some 16) (.load 3 (.tmp 15)) none,
  .mk (some 17) (.move (.tmp 3)) none,
  .mk (some 18) (.binOp .leq 3 (.tmp 16) (.tmp 17) 3) none,
  .mk (some 19) (.move (.tmp 18)) none,
  .mk (some 20) (.fieldAddr 85 (.tmp 5) 1) (some (19, false)),
  .mk (some 21) (.load 3 (.tmp 20)) (some (19, false)),
  .mk (some 22) (.fieldAddr 85 (.tmp 5) 0) (some (19, false)),
  .mk (some 23) (.load 3 (.tmp 22)) (some (19, false)),
  .mk (some 24) (.binOp .lss 3 (.tmp 21) (.tmp 23) 3) (some (19, false)),
  .mk (some 25) (.pick (.tmp 19) (.const (.bool true)) (.tmp 24)) none,
  .mk (some 26) (.move (.tmp 25)) none,
  .mk (some 27) (.fieldAddr 85 (.tmp 5) 1) (some (26, false)),
  .mk (some 28) (.load 3 (.tmp 27)) (some (26, false)),
  .mk (some 29) (.binOp .gtr 3 (.tmp 28) (.const (.int .i64 1114111)) 3) (some (26, false)),
  .mk (some 30) (.pick (.tmp 26) (.const (.bool true)) (.tmp 29)) none]
def r36_8 : List PS := [.mk (some 2) (.assign (.const (.int .i64 10))) none]
def r36_9 : List PS := [.mk (some 31) (.fieldAddr 85 (.tmp 5) 1) none,
  .mk (some 32) (.load 3 (.tmp 31)) none,
  .mk (some 3) (.assign (.tmp 32)) none]
def r36_10 : List PS := [.mk (some 33) (.binOp .add 3 (.tmp 11) (.const (.int .i64 1)) 3) none,
  .mk (some 11) (.move (.tmp 33)) none]
def r36_11 : List PS := [.mk (some 2) (.assign (.const (.int .i64 0))) none]
def c36 : PC := (.seq (.reg false r36_0) (.seq (.seq (.reg false r36_1) (.cond (.tmp 8) (.seq (.reg false r36_2) .ret) .skip)) (.seq (.reg false r36_3) (.seq (.seq (.reg false r36_4) (.block 0 (.loop (.seq (.reg false r36_5) (.seq (.cond (.tmp 12) .skip (.exit 0)) (.seq (.block 1 (.seq (.reg false r36_6) (.seq (.seq (.reg false r36_7) (.cond (.tmp 30) (.seq (.reg false r36_8) .ret) .skip)) (.reg false r36_9)))) (.reg false r36_10))))))) (.seq (.reg false r36_11) .ret)))))
theorem e36 {args : List PV} {h : Heap} {K : PV → Heap → Prop} (hl : args.length = 1) (s : pwp Try.prog [5] c36 (fin Try.prog [.tmp 2] h K) (slots0 (olds args)) h) : CanP Try.prog 36 args h K :=
  can_of2 (n := 34) mixed Try.func36 rfl (by kernel_rfl) (by rw [hl]; kernel_rfl) rfl (by kernel_rfl) s
/-! ### naskh.trie.even: function 55 -/
def r55_0 : List PS := [.mk (some 2) (.alloc 80) none]
def r55_1 : List PS := [.mk (some 3) (.alloc 80) none]
def r55_2 : List PS := [.mk (some 5) (.move (.const (.int .i64 0))) none]
def r55_3 : List PS := [.mk (some 6) (.binOp .lss 3 (.tmp 5) (.const (.int .i64 128)) 3) none]
def r55_4 : List PS := [.mk (some 7) (.move (.tmp 5)) none,
  .mk (some 4) (.assign (.tmp 7)) none]
def r55_5 : List PS := [.mk (some 8) (.move (.tmp 4)) none,
  .mk (some 9) (.move (.tmp 0)) none,
  .mk (some 10) (.indexAddr 80 (.tmp 3) (.tmp 8)) none,
  .mk none (.store 3 (.tmp 10) (.tmp 9)) none]
def r55_6 : List PS := [.mk (some 11) (.binOp .add 3 (.tmp 5) (.const (.int .i64 1)) 3) none,
  .mk (some 5) (.move (.tmp 11)) none]
def r55_7 : List PS := [.mk (some 12) (.load 80 (.tmp 3)) none,
  .mk none (.store 80 (.tmp 2) (.tmp 12)) none]
def c55 : PC := (.seq (.reg false r55_0) (.seq (.reg false r55_1) (.seq (.seq (.reg false r55_2) (.block 0 (.loop (.seq (.reg false r55_3) (.seq (.cond (.tmp 6) .skip (.exit 0)) (.seq (.block 1 (.seq (.reg false r55_4) (.reg false r55_5))) (.reg false r55_6))))))) (.seq (.reg false r55_7) .ret))))
theorem e55 {args : List PV} {h : Heap} {K : PV → Heap → Prop} (hl : args.length = 1) (s : pwp Try.prog [2, 3] c55 (fin Try.prog [.cell 2 80] h K) (slots0 (olds args)) h) : CanP Try.prog 55 args h K :=
  can_of2 (n := 13) mixed Try.func55 rfl (by kernel_rfl) (by rw [hl]; kernel_rfl) rfl (by kernel_rfl) s
/-! ### naskh.trie.filled: function 37 -/
def r37_0 : List PS := [.mk (some 8) (.alloc 80) none,
  .mk (some 9) (.assign (.const (.int .i64 0))) none]
def r37_1 : List PS := [.mk (some 14) (.move (.tmp 3)) none,
  .mk (some 15) (.call ⟨(.value (.func 55)), #[(.tmp 14)], #[3]⟩) none,
  .mk (some 10) (.alloc 80) none,
  .mk none (.store 80 (.tmp 10) (.tmp 15)) none]
def r37_2 : List PS := [.mk (some 16) (.move (.tmp 1)) none,
  .mk (some 17) (.binOp .mul 3 (.tmp 16) (.const (.int .i64 128)) 3) none,
  .mk (some 11) (.assign (.tmp 17)) none]
def r37_3 : List PS := [.mk (some 18) (.move (.tmp 2)) none,
  .mk (some 19) (.move (.tmp 0)) none,
  .mk (some 20) (.call ⟨(.builtin .len), #[(.tmp 19)], #[52]⟩) none,
  .mk (some 21) (.binOp .lss 3 (.tmp 18) (.tmp 20) 3) none,
  .mk (some 22) (.move (.tmp 21)) none,
  .mk (some 23) (.move (.tmp 0)) (some (22, true)),
  .mk (some 24) (.move (.tmp 2)) (some (22, true)),
  .mk (some 25) (.indexAddr 52 (.tmp 23) (.tmp 24)) (some (22, true)),
  .mk (some 26) (.fieldAddr 85 (.tmp 25) 0) (some (22, true)),
  .mk (some 27) (.load 3 (.tmp 26)) (some (22, true)),
  .mk (some 28) (.move (.tmp 11)) (some (22, true)),
  .mk (some 29) (.binOp .add 3 (.tmp 28) (.const (.int .i64 128)) 3) (some (22, true)),
  .mk (some 30) (.binOp .lss 3 (.tmp 27) (.tmp 29) 3) (some (22, true)),
  .mk (some 31) (.pick (.tmp 22) (.tmp 30) (.const (.bool false))) none]
def r37_4 : List PS := [.mk (some 34) (.move (.tmp 0)) none,
  .mk (some 35) (.move (.tmp 2)) none,
  .mk (some 36) (.indexAddr 52 (.tmp 34) (.tmp 35)) none,
  .mk (some 37) (.load 85 (.tmp 36)) none,
  .mk (some 12) (.alloc 85) none,
  .mk none (.store 85 (.tmp 12) (.tmp 37)) none,
  .frz 12]
def r37_5 : List PS := [.mk (some 38) (.fieldAddr 85 (.tmp 12) 0) none,
  .mk (some 39) (.load 3 (.tmp 38)) none,
  .mk (some 40) (.move (.tmp 11)) none,
  .mk (some 41) (.call ⟨(.builtin .max), #[(.tmp 39), (.tmp 40)], #[3, 3]⟩) none,
  .mk (some 13) (.assign (.tmp 41)) none]
def r37_6 : List PS := [.mk (some 42) (.move (.tmp 13)) none,
  .mk (some 43) (.fieldAddr 85 (.tmp 12) 1) none,
  .mk (some 44) (.load 3 (.tmp 43)) none,
  .mk (some 45) (.move (.tmp 11)) none,
  .mk (some 46) (.binOp .add 3 (.tmp 45) (.const (.int .i64 128)) 3) none,
  .mk (some 47) (.binOp .sub 3 (.tmp 46) (.const (.int .i64 1)) 3) none,
  .mk (some 48) (.call ⟨(.builtin .min), #[(.tmp 44), (.tmp 47)], #[3, 3]⟩) none,
  .mk (some 49) (.binOp .leq 3 (.tmp 42) (.tmp 48) 3) none]
def r37_7 : List PS := [.mk (some 52) (.move (.tmp 13)) none,
  .mk (some 53) (.move (.tmp 11)) none,
  .mk (some 54) (.binOp .sub 3 (.tmp 52) (.tmp 53) 3) none,
  .mk (some 55) (.fieldAddr 85 (.tmp 12) 2) none,
  .mk (some 56) (.load 3 (.tmp 55)) none,
  .mk (some 57) (.indexAddr 80 (.tmp 10) (.tmp 54)) none,
  .mk none (.store 3 (.tmp 57) (.tmp 56)) none]
def r37_8 : List PS := [.mk (some 50) (.move (.tmp 13)) none,
  .mk (some 51) (.binOp .add 3 (.tmp 50) (.const (.int .i64 1)) 3) none,
  .mk (some 13) (.assign (.tmp 51)) none]
def r37_9 : List PS := [.mk (some 58) (.fieldAddr 85 (.tmp 12) 1) none,
  .mk (some 59) (.load 3 (.tmp 58)) none,
  .mk (some 60) (.move (.tmp 11)) none,
  .mk (some 61) (.binOp .add 3 (.tmp 60) (.const (.int .i64 128)) 3) none,
  .mk (some 62) (.binOp .geq 3 (.tmp 59) (.tmp 61) 3) none]
def r37_10 : List PS := [.mk (some 32) (.move (.tmp 2)) none,
  .mk (some 33) (.binOp .add 3 (.tmp 32) (.const (.int .i64 1)) 3) none,
  .mk (some 2) (.assign (.tmp 33)) none]
def r37_11 : List PS := [.mk (some 63) (.load 80 (.tmp 10)) none,
  .mk (some 64) (.move (.tmp 2)) none,
  .mk none (.store 80 (.tmp 8) (.tmp 63)) none,
  .mk (some 9) (.assign (.tmp 64)) none]
def c37 : PC := (.seq (.reg false r37_0) (.seq (.reg false r37_1) (.seq (.reg false r37_2) (.seq (.block 0 (.loop (.seq (.seq (.reg false r37_3) (.cond (.tmp 31) .skip (.exit 0))) (.seq (.block 1 (.seq (.reg false r37_4) (.seq (.seq (.reg false r37_5) (.block 2 (.loop (.seq (.seq (.reg false r37_6) (.cond (.tmp 49) .skip (.exit 2))) (.seq (.block 3 (.reg false r37_7)) (.reg false r37_8)))))) (.seq (.reg false r37_9) (.cond (.tmp 62) (.exit 0) .skip))))) (.reg false r37_10))))) (.seq (.reg false r37_11) .ret)))))
theorem e37 {args : List PV} {h : Heap} {K : PV → Heap → Prop} (hl : args.length = 4) (s : pwp Try.prog [8, 10, 12] c37 (fin Try.prog [.cell 8 80, .tmp 9] h K) (slots0 (olds args)) h) : CanP Try.prog 37 args h K :=
  can_of2 (n := 65) mixed Try.func37 rfl (by kernel_rfl) (by rw [hl]; kernel_rfl) rfl (by kernel_rfl) s
/-! ### (*naskh.trie.stages).add: function 38 -/
def r38_0 : List PS := [.mk (some 3) (.box 80 (.tmp 1)) none,
  .mk (some 4) (.assign (.const (.int .i64 0))) none]
def r38_1 : List PS := [.mk (some 6) (.move (.tmp 0)) none,
  .mk (some 7) (.nilCheck (.tmp 6)) none,
  .mk (some 8) (.fieldAddr 76 (.tmp 7) 1) none,
  .mk (some 9) (.load 74 (.tmp 8)) none,
  .mk (some 10) (.call ⟨(.builtin .len), #[(.tmp 9)], #[74]⟩) none,
  .mk (some 11) (.move (.const (.int .i64 0))) none]
def r38_2 : List PS := [.mk (some 12) (.binOp .lss 3 (.tmp 11) (.tmp 10) 3) none]
def r38_3 : List PS := [.mk (some 13) (.move (.tmp 11)) none,
  .mk (some 5) (.assign (.tmp 13)) none]
def r38_4 : List PS := [.mk (some 14) (.move (.tmp 0)) none,
  .mk (some 15) (.nilCheck (.tmp 14)) none,
  .mk (some 16) (.fieldAddr 76 (.tmp 15) 1) none,
  .mk (some 17) (.load 74 (.tmp 16)) none,
  .mk (some 18) (.move (.tmp 5)) none,
  .mk (some 19) (.indexAddr 74 (.tmp 17) (.tmp 18)) none,
  .mk (some 20) (.load 80 (.tmp 19)) none,
  .mk (some 21) (.load 80 (.tmp 3)) none,
  .mk (some 22) (.binOp .eql 80 (.tmp 20) (.tmp 21) 80) none]
def r38_5 : List PS := [.mk (some 23) (.move (.tmp 5)) none,
  .mk (some 4) (.assign (.tmp 23)) none]
def r38_6 : List PS := [.mk (some 24) (.binOp .add 3 (.tmp 11) (.const (.int .i64 1)) 3) none,
  .mk (some 11) (.move (.tmp 24)) none]
def r38_7 : List PS := [.mk (some 25) (.move (.tmp 0)) none,
  .mk (some 26) (.move (.tmp 0)) none,
  .mk (some 27) (.nilCheck (.tmp 26)) none,
  .mk (some 28) (.fieldAddr 76 (.tmp 27) 1) none,
  .mk (some 29) (.load 74 (.tmp 28)) none,
  .mk (some 30) (.load 80 (.tmp 3)) none,
  .mk (some 31) (.buildSlice 74 1 #[(0, (.tmp 30))]) none,
  .mk (some 32) (.call ⟨(.builtin .append), #[(.tmp 29), (.tmp 31)], #[74, 74]⟩) none,
  .mk (some 33) (.nilCheck (.tmp 25)) none,
  .mk (some 34) (.fieldAddr 76 (.tmp 33) 1) none,
  .mk none (.store 74 (.tmp 34) (.tmp 32)) none]
def r38_8 : List PS := [.mk (some 35) (.move (.tmp 0)) none,
  .mk (some 36) (.nilCheck (.tmp 35)) none,
  .mk (some 37) (.fieldAddr 76 (.tmp 36) 1) none,
  .mk (some 38) (.load 74 (.tmp 37)) none,
  .mk (some 39) (.call ⟨(.builtin .len), #[(.tmp 38)], #[74]⟩) none,
  .mk (some 40) (.binOp .sub 3 (.tmp 39) (.const (.int .i64 1)) 3) none,
  .mk (some 4) (.assign (.tmp 40)) none]
def c38 : PC := (.seq (.reg false r38_0) (.seq (.seq (.reg false r38_1) (.block 0 (.loop (.seq (.reg false r38_2) (.seq (.cond (.tmp 12) .skip (.exit 0)) (.seq (.block 1 (.seq (.reg false r38_3) (.seq (.reg true r38_4) (.cond (.tmp 22) (.seq (.reg false r38_5) .ret) .skip)))) (.reg false r38_6))))))) (.seq (.reg true r38_7) (.seq (.reg false r38_8) .ret))))
theorem e38 {args : List PV} {h : Heap} {K : PV → Heap → Prop} (hl : args.length = 2) (s : pwp Try.prog [] c38 (fin Try.prog [.tmp 4] h K) (slots0 (olds args)) h) : CanP Try.prog 38 args h K :=
  can_of2 (n := 41) mixed Try.func38 rfl (by kernel_rfl) (by rw [hl]; kernel_rfl) rfl (by kernel_rfl) s
/-! ### naskh.trie.Build: function 21 -/
def r21_0 : List PS := [.mk (some 4) (.assign (.const (.pointer none))) none,
  .mk (some 5) (.assign (.const (.int .i64 0))) none]
def r21_1 : List PS := [.mk (some 13) (.move (.tmp 0)) none,
  .mk (some 14) (.call ⟨(.value (.func 36)), #[(.tmp 13)], #[52]⟩) none,
  .mk (some 6) (.assign (.tmp 14)) none]
def r21_2 : List PS := [.mk (some 15) (.move (.tmp 6)) none,
  .mk (some 16) (.binOp .neq 27 (.tmp 15) (.const (.int .i64 0)) 27) none]
def r21_3 : List PS := [.mk (some 17) (.move (.tmp 6)) none,
  .mk (some 4) (.assign (.const (.pointer none))) none,
  .mk (some 5) (.assign (.tmp 17)) none]
def r21_4 : List PS := [.mk (some 18) (.move (.tmp 1)) none,
  .mk (some 19) (.build 78 #[(1, (.tmp 18)), (2, (.const (.bool true)))]) none,
  .mk (some 20) (.box 78 (.tmp 19)) none,
  .mk (some 7) (.assign (.tmp 20)) none]
def r21_5 : List PS := [.mk (some 21) (.move (.tmp 7)) none,
  .mk (some 22) (.makeSlice 22 (.const (.int .i64 8704)) (.const (.int .i64 8704))) none,
  .mk (some 23) (.nilCheck (.tmp 21)) none,
  .mk (some 24) (.fieldAddr 78 (.tmp 23) 0) none,
  .mk (some 25) (.fieldAddr 76 (.tmp 24) 0) none,
  .mk none (.store 22 (.tmp 25) (.tmp 22)) none]
def r21_6 : List PS := [.mk (some 8) (.assign (.const (.int .i64 0))) none]
def r21_7 : List PS := [.mk (some 26) (.build 80 #[]) none,
  .mk (some 9) (.alloc 80) none,
  .mk none (.store 80 (.tmp 9) (.tmp 26)) none,
  .mk (some 10) (.assign (.const (.int .i64 (-1)))) none]
def r21_8 : List PS := [.mk (some 27) (.move (.const (.int .i64 0))) none]
def r21_9 : List PS := [.mk (some 28) (.binOp .lss 3 (.tmp 27) (.const (.int .i64 8704)) 3) none]
def r21_10 : List PS := [.mk (some 29) (.move (.tmp 27)) none,
  .mk (some 11) (.assign (.tmp 29)) none]
def r21_11 : List PS := [.mk (some 12) (.alloc 80) none]
def r21_12 : List PS := [.mk (some 31) (.move (.tmp 0)) none,
  .mk (some 32) (.move (.tmp 11)) none,
  .mk (some 33) (.move (.tmp 8)) none,
  .mk (some 34) (.move (.tmp 1)) none,
  .mk (some 35) (.call ⟨(.value (.func 37)), #[(.tmp 31), (.tmp 32), (.tmp 33), (.tmp 34)], #[52, 3, 3, 3]⟩) none,
  .mk (some 30) (.move (.tmp 35)) none,
  .mk (some 36) (.extract (.tmp 30) 0) none,
  .mk (some 37) (.extract (.tmp 30) 1) none,
  .mk none (.store 80 (.tmp 12) (.tmp 36)) none,
  .frz 12,
  .mk (some 8) (.assign (.tmp 37)) none]
def r21_13 : List PS := [.mk (some 38) (.move (.tmp 10)) none,
  .mk (some 39) (.binOp .lss 3 (.tmp 38) (.const (.int .i64 0)) 3) none,
  .mk (some 40) (.move (.tmp 39)) none,
  .mk (some 41) (.load 80 (.tmp 12)) (some (40, false)),
  .mk (some 42) (.load 80 (.tmp 9)) (some (40, false)),
  .mk (some 43) (.binOp .neq 80 (.tmp 41) (.tmp 42) 80) (some (40, false)),
  .mk (some 44) (.pick (.tmp 40) (.const (.bool true)) (.tmp 43)) none]
def r21_14 : List PS := [.mk (some 45) (.load 80 (.tmp 12)) none,
  .mk (some 46) (.move (.tmp 7)) none,
  .mk (some 47) (.nilCheck (.tmp 46)) none,
  .mk (some 48) (.fieldAddr 78 (.tmp 47) 0) none,
  .mk (some 49) (.load 80 (.tmp 12)) none,
  .mk (some 50) (.call ⟨(.value (.func 38)), #[(.tmp 48), (.tmp 49)], #[76, 80]⟩) none,
  .mk none (.store 80 (.tmp 9) (.tmp 45)) none,
  .mk (some 10) (.assign (.tmp 50)) none]
def r21_15 : List PS := [.mk (some 51) (.move (.tmp 7)) none,
  .mk (some 52) (.nilCheck (.tmp 51)) none,
  .mk (some 53) (.fieldAddr 78 (.tmp 52) 0) none,
  .mk (some 54) (.fieldAddr 76 (.tmp 53) 0) none,
  .mk (some 55) (.load 22 (.tmp 54)) none,
  .mk (some 56) (.move (.tmp 11)) none,
  .mk (some 57) (.move (.tmp 10)) none,
  .mk (some 58) (.indexAddr 22 (.tmp 55) (.tmp 56)) none,
  .mk none (.store 3 (.tmp 58) (.tmp 57)) none]
def r21_16 : List PS := [.mk (some 59) (.binOp .add 3 (.tmp 27) (.const (.int .i64 1)) 3) none,
  .mk (some 27) (.move (.tmp 59)) none]
def r21_17 : List PS := [.frzc 7 0,
  .frzc 7 1,
  .mk (some 60) (.move (.tmp 7)) none,
  .mk (some 4) (.assign (.tmp 60)) none,
  .mk (some 5) (.assign (.const (.int .i64 0))) none]
def c21 : PC := (.seq (.reg false r21_0) (.seq (.seq (.reg false r21_1) (.seq (.reg false r21_2) (.cond (.tmp 16) (.seq (.reg false r21_3) .ret) .skip))) (.seq (.reg false r21_4) (.seq (.reg false r21_5) (.seq (.reg false r21_6) (.seq (.reg false r21_7) (.seq (.seq (.reg false r21_8) (.block 0 (.loop (.seq (.reg false r21_9) (.seq (.cond (.tmp 28) .skip (.exit 0)) (.seq (.block 1 (.seq (.reg false r21_10) (.seq (.reg false r21_11) (.seq (.reg false r21_12) (.seq (.seq (.reg false r21_13) (.cond (.tmp 44) (.reg true r21_14) .skip)) (.reg false r21_15)))))) (.reg false r21_16))))))) (.seq (.reg false r21_17) .ret))))))))
theorem e21 {args : List PV} {h : Heap} {K : PV → Heap → Prop} (hl : args.length = 2) (s : pwp Try.prog [9, 12, 20, 45, 50] c21 (fin Try.prog [.tmp 4, .tmp 5] h K) (slots0 (olds args)) h) : CanP Try.prog 21 args h K :=
  can_of2 (n := 61) mixed Try.func21 rfl (by kernel_rfl) (by rw [hl]; kernel_rfl) rfl (by kernel_rfl) s
/-! ### naskh.api.BidiRanges: function 22 -/
def r22_0 : List PS := [.mk (some 0) (.assign (.const (.slice none 0 0))) none]
def r22_1 : List PS := [.mk (some 1) (.build 85 #[(0, (.const (.int .i64 0))), (1, (.const (.int .i64 8))), (2, (.const (.int .i64 9)))]) none,
  .mk (some 2) (.build 85 #[(0, (.const (.int .i64 9))), (1, (.const (.int .i64 9))), (2, (.const (.int .i64 11)))]) none,
  .mk (some 3) (.build 85 #[(0, (.const (.int .i64 10))), (1, (.const (.int .i64 10))), (2, (.const (.int .i64 10)))]) none,
  .mk (some 4) (.build 85 #[(0, (.const (.int .i64 11))), (1, (.const (.int .i64 11))), (2, (.const (.int .i64 11)))]) none,
  .mk (some 5) (.build 85 #[(0, (.const (.int .i64 12))), (1, (.const (.int .i64 12))), (2, (.const (.int .i64 12)))]) none,
  .mk (some 6) (.build 85 #[(0, (.const (.int .i64 13))), (1, (.const (.int .i64 13))), (2, (.const (.int .i64 10)))]) none,
  .mk (some 7) (.build 85 #[(0, (.const (.int .i64 14))), (1, (.const (.int .i64 27))), (2, (.const (.int .i64 9)))]) none,
  .mk (some 8) (.build 85 #[(0, (.const (.int .i64 28))), (1, (.const (.int .i64 30))), (2, (.const (.int .i64 10)))]) none,
  .mk (some 9) (.build 85 #[(0, (.const (.int .i64 31))), (1, (.const (.int .i64 31))), (2, (.const (.int .i64 11)))]) none,
  .mk (some 10) (.build 85 #[(0, (.const (.int .i64 32))), (1, (.const (.int .i64 32))), (2, (.const (.int .i64 12)))]) none,
  .mk (some 11) (.build 85 #[(0, (.const (.int .i64 33))), (1, (.const (.int .i64 34))), (2, (.const (.int .i64 13)))]) none,
  .mk (some 12) (.build 85 #[(0, (.const (.int .i64 35))), (1, (.const (.int .i64 37))), (2, (.const (.int .i64 5)))]) none,
  .mk (some 13) (.build 85 #[(0, (.const (.int .i64 38))), (1, (.const (.int .i64 42))), (2, (.const (.int .i64 13)))]) none,
  .mk (some 14) (.build 85 #[(0, (.const (.int .i64 43))), (1, (.const (.int .i64 43))), (2, (.const (.int .i64 4)))]) none,
  .mk (some 15) (.build 85 #[(0, (.const (.int .i64 44))), (1, (.const (.int .i64 44))), (2, (.const (.int .i64 7)))]) none,
  .mk (some 16) (.build 85 #[(0, (.const (.int .i64 45))), (1, (.const (.int .i64 45))), (2, (.const (.int .i64 4)))]) none,
  .mk (some 17) (.build 85 #[(0, (.const (.int .i64 46))), (1, (.const (.int .i64 47))), (2, (.const (.int .i64 7)))]) none,
  .mk (some 18) (.build 85 #[(0, (.const (.int .i64 48))), (1, (.const (.int .i64 57))), (2, (.const (.int .i64 3)))]) none,
  .mk (some 19) (.build 85 #[(0, (.const (.int .i64 58))), (1, (.const (.int .i64 58))), (2, (.const (.int .i64 7)))]) none,
  .mk (some 20) (.build 85 #[(0, (.const (.int .i64 59))), (1, (.const (.int .i64 64))), (2, (.const (.int .i64 13)))]) none,
  .mk (some 21) (.build 85 #[(0, (.const (.int .i64 91))), (1, (.const (.int .i64 96))), (2, (.const (.int .i64 13)))]) none,
  .mk (some 22) (.build 85 #[(0, (.const (.int .i64 123))), (1, (.const (.int .i64 126))), (2, (.const (.int .i64 13)))]) none,
  .mk (some 23) (.build 85 #[(0, (.const (.int .i64 127))), (1, (.const (.int .i64 132))), (2, (.const (.int .i64 9)))]) none,
  .mk (some 24) (.build 85 #[(0, (.const (.int .i64 133))), (1, (.const (.int .i64 133))), (2, (.const (.int .i64 10)))]) none,
  .mk (some 25) (.build 85 #[(0, (.const (.int .i64 134))), (1, (.const (.int .i64 159))), (2, (.const (.int .i64 9)))]) none,
  .mk (some 26) (.build 85 #[(0, (.const (.int .i64 160))), (1, (.const (.int .i64 160))), (2, (.const (.int .i64 7)))]) none,
  .mk (some 27) (.build 85 #[(0, (.const (.int .i64 161))), (1, (.const (.int .i64 161))), (2, (.const (.int .i64 13)))]) none,
  .mk (some 28) (.build 85 #[(0, (.const (.int .i64 162))), (1, (.const (.int .i64 165))), (2, (.const (.int .i64 5)))]) none,
  .mk (some 29) (.build 85 #[(0, (.const (.int .i64 166))), (1, (.const (.int .i64 169))), (2, (.const (.int .i64 13)))]) none,
  .mk (some 30) (.build 85 #[(0, (.const (.int .i64 171))), (1, (.const (.int .i64 172))), (2, (.const (.int .i64 13)))]) none,
  .mk (some 31) (.build 85 #[(0, (.const (.int .i64 173))), (1, (.const (.int .i64 173))), (2, (.const (.int .i64 9)))]) none,
  .mk (some 32) (.build 85 #[(0, (.const (.int .i64 174))), (1, (.const (.int .i64 175))), (2, (.const (.int .i64 13)))]) none,
  .mk (some 33) (.build 85 #[(0, (.const (.int .i64 176))), (1, (.const (.int .i64 177))), (2, (.const (.int .i64 5)))]) none,
  .mk (some 34) (.build 85 #[(0, (.const (.int .i64 178))), (1, (.const (.int .i64 179))), (2, (.const (.int .i64 3)))]) none,
  .mk (some 35) (.build 85 #[(0, (.const (.int .i64 180))), (1, (.const (.int .i64 180))), (2, (.const (.int .i64 13)))]) none,
  .mk (some 36) (.build 85 #[(0, (.const (.int .i64 182))), (1, (.const (.int .i64 184))), (2, (.const (.int .i64 13)))]) none,
  .mk (some 37) (.build 85 #[(0, (.const (.int .i64 185))), (1, (.const (.int .i64 185))), (2, (.const (.int .i64 3)))]) none,
  .mk (some 38) (.build 85 #[(0, (.const (.int .i64 187))), (1, (.const (.int .i64 191))), (2, (.const (.int .i64 13)))]) none,
  .mk (some 39) (.build 85 #[(0, (.const (.int .i64 215))), (1, (.const (.int .i64 215))), (2, (.const (.int .i64 13)))]) none,
  .mk (some 40) (.build 85 #[(0, (.const (.int .i64 247))), (1, (.const (.int .i64 247))), (2, (.const (.int .i64 13)))]) none,
  .mk (some 41) (.build 85 #[(0, (.const (.int .i64 697))), (1, (.const (.int .i64 698))), (2, (.const (.int .i64 13)))]) none,
  .mk (some 42) (.build 85 #[(0, (.const (.int .i64 706))), (1, (.const (.int .i64 719))), (2, (.const (.int .i64 13)))]) none,
  .mk (some 43) (.build 85 #[(0, (.const (.int .i64 722))), (1, (.const (.int .i64 735))), (2, (.const (.int .i64 13)))]) none,
  .mk (some 44) (.build 85 #[(0, (.const (.int .i64 768))), (1, (.const (.int .i64 879))), (2, (.const (.int .i64 8)))]) none,
  .mk (some 45) (.build 85 #[(0, (.const (.int .i64 1424))), (1, (.const (.int .i64 1424))), (2, (.const (.int .i64 1)))]) none,
  .mk (some 46) (.build 85 #[(0, (.const (.int .i64 1425))), (1, (.const (.int .i64 1469))), (2, (.const (.int .i64 8)))]) none,
  .mk (some 47) (.build 85 #[(0, (.const (.int .i64 1470))), (1, (.const (.int .i64 1470))), (2, (.const (.int .i64 1)))]) none,
  .mk (some 48) (.build 85 #[(0, (.const (.int .i64 1471))), (1, (.const (.int .i64 1471))), (2, (.const (.int .i64 8)))]) none,
  .mk (some 49) (.build 85 #[(0, (.const (.int .i64 1472))), (1, (.const (.int .i64 1472))), (2, (.const (.int .i64 1)))]) none,
  .mk (some 50) (.build 85 #[(0, (.const (.int .i64 1473))), (1, (.const (.int .i64 1474))), (2, (.const (.int .i64 8)))]) none,
  .mk (some 51) (.build 85 #[(0, (.const (.int .i64 1475))), (1, (.const (.int .i64 1475))), (2, (.const (.int .i64 1)))]) none,
  .mk (some 52) (.build 85 #[(0, (.const (.int .i64 1476))), (1, (.const (.int .i64 1477))), (2, (.const (.int .i64 8)))]) none,
  .mk (some 53) (.build 85 #[(0, (.const (.int .i64 1478))), (1, (.const (.int .i64 1478))), (2, (.const (.int .i64 1)))]) none,
  .mk (some 54) (.build 85 #[(0, (.const (.int .i64 1479))), (1, (.const (.int .i64 1479))), (2, (.const (.int .i64 8)))]) none,
  .mk (some 55) (.build 85 #[(0, (.const (.int .i64 1480))), (1, (.const (.int .i64 1535))), (2, (.const (.int .i64 1)))]) none,
  .mk (some 56) (.build 85 #[(0, (.const (.int .i64 1536))), (1, (.const (.int .i64 1541))), (2, (.const (.int .i64 6)))]) none,
  .mk (some 57) (.build 85 #[(0, (.const (.int .i64 1542))), (1, (.const (.int .i64 1543))), (2, (.const (.int .i64 13)))]) none,
  .mk (some 58) (.build 85 #[(0, (.const (.int .i64 1544))), (1, (.const (.int .i64 1544))), (2, (.const (.int .i64 2)))]) none,
  .mk (some 59) (.build 85 #[(0, (.const (.int .i64 1545))), (1, (.const (.int .i64 1546))), (2, (.const (.int .i64 5)))]) none,
  .mk (some 60) (.build 85 #[(0, (.const (.int .i64 1547))), (1, (.const (.int .i64 1547))), (2, (.const (.int .i64 2)))]) none,
  .mk (some 61) (.build 85 #[(0, (.const (.int .i64 1548))), (1, (.const (.int .i64 1548))), (2, (.const (.int .i64 7)))]) none,
  .mk (some 62) (.build 85 #[(0, (.const (.int .i64 1549))), (1, (.const (.int .i64 1549))), (2, (.const (.int .i64 2)))]) none,
  .mk (some 63) (.build 85 #[(0, (.const (.int .i64 1550))), (1, (.const (.int .i64 1551))), (2, (.const (.int .i64 13)))]) none,
  .mk (some 64) (.build 85 #[(0, (.const (.int .i64 1552))), (1, (.const (.int .i64 1562))), (2, (.const (.int .i64 8)))]) none,
  .mk (some 65) (.build 85 #[(0, (.const (.int .i64 1563))), (1, (.const (.int .i64 1610))), (2, (.const (.int .i64 2)))]) none,
  .mk (some 66) (.build 85 #[(0, (.const (.int .i64 1611))), (1, (.const (.int .i64 1631))), (2, (.const (.int .i64 8)))]) none,
  .mk (some 67) (.build 85 #[(0, (.const (.int .i64 1632))), (1, (.const (.int .i64 1641))), (2, (.const (.int .i64 6)))]) none,
  .mk (some 68) (.build 85 #[(0, (.const (.int .i64 1642))), (1, (.const (.int .i64 1642))), (2, (.const (.int .i64 5)))]) none,
  .mk (some 69) (.build 85 #[(0, (.const (.int .i64 1643))), (1, (.const (.int .i64 1644))), (2, (.const (.int .i64 6)))]) none,
  .mk (some 70) (.build 85 #[(0, (.const (.int .i64 1645))), (1, (.const (.int .i64 1647))), (2, (.const (.int .i64 2)))]) none,
  .mk (some 71) (.build 85 #[(0, (.const (.int .i64 1648))), (1, (.const (.int .i64 1648))), (2, (.const (.int .i64 8)))]) none,
  .mk (some 72) (.build 85 #[(0, (.const (.int .i64 1649))), (1, (.const (.int .i64 1749))), (2, (.const (.int .i64 2)))]) none,
  .mk (some 73) (.build 85 #[(0, (.const (.int .i64 1750))), (1, (.const (.int .i64 1756))), (2, (.const (.int .i64 8)))]) none,
  .mk (some 74) (.build 85 #[(0, (.const (.int .i64 1757))), (1, (.const (.int .i64 1757))), (2, (.const (.int .i64 6)))]) none,
  .mk (some 75) (.build 85 #[(0, (.const (.int .i64 1758))), (1, (.const (.int .i64 1758))), (2, (.const (.int .i64 13)))]) none,
  .mk (some 76) (.build 85 #[(0, (.const (.int .i64 1759))), (1, (.const (.int .i64 1764))), (2, (.const (.int .i64 8)))]) none,
  .mk (some 77) (.build 85 #[(0, (.const (.int .i64 1765))), (1, (.const (.int .i64 1766))), (2, (.const (.int .i64 2)))]) none,
  .mk (some 78) (.build 85 #[(0, (.const (.int .i64 1767))), (1, (.const (.int .i64 1768))), (2, (.const (.int .i64 8)))]) none,
  .mk (some 79) (.build 85 #[(0, (.const (.int .i64 1769))), (1, (.const (.int .i64 1769))), (2, (.const (.int .i64 13)))]) none,
  .mk (some 80) (.build 85 #[(0, (.const (.int .i64 1770))), (1, (.const (.int .i64 1773))), (2, (.const (.int .i64 8)))]) none,
  .mk (some 81) (.build 85 #[(0, (.const (.int .i64 1774))), (1, (.const (.int .i64 1775))), (2, (.const (.int .i64 2)))]) none,
  .mk (some 82) (.build 85 #[(0, (.const (.int .i64 1776))), (1, (.const (.int .i64 1785))), (2, (.const (.int .i64 3)))]) none,
  .mk (some 83) (.build 85 #[(0, (.const (.int .i64 1786))), (1, (.const (.int .i64 1808))), (2, (.const (.int .i64 2)))]) none,
  .mk (some 84) (.build 85 #[(0, (.const (.int .i64 1809))), (1, (.const (.int .i64 1809))), (2, (.const (.int .i64 8)))]) none,
  .mk (some 85) (.build 85 #[(0, (.const (.int .i64 1810))), (1, (.const (.int .i64 1839))), (2, (.const (.int .i64 2)))]) none,
  .mk (some 86) (.build 85 #[(0, (.const (.int .i64 1840))), (1, (.const (.int .i64 1866))), (2, (.const (.int .i64 8)))]) none,
  .mk (some 87) (.build 85 #[(0, (.const (.int .i64 1867))), (1, (.const (.int .i64 1957))), (2, (.const (.int .i64 2)))]) none,
  .mk (some 88) (.build 85 #[(0, (.const (.int .i64 1958))), (1, (.const (.int .i64 1968))), (2, (.const (.int .i64 8)))]) none,
  .mk (some 89) (.build 85 #[(0, (.const (.int .i64 1969))), (1, (.const (.int .i64 1983))), (2, (.const (.int .i64 2)))]) none,
  .mk (some 90) (.build 85 #[(0, (.const (.int .i64 1984))), (1, (.const (.int .i64 2026))), (2, (.const (.int .i64 1)))]) none,
  .mk (some 91) (.build 85 #[(0, (.const (.int .i64 2027))), (1, (.const (.int .i64 2035))), (2, (.const (.int .i64 8)))]) none,
  .mk (some 92) (.build 85 #[(0, (.const (.int .i64 2036))), (1, (.const (.int .i64 2037))), (2, (.const (.int .i64 1)))]) none,
  .mk (some 93) (.build 85 #[(0, (.const (.int .i64 2038))), (1, (.const (.int .i64 2041))), (2, (.const (.int .i64 13)))]) none,
  .mk (some 94) (.build 85 #[(0, (.const (.int .i64 2042))), (1, (.const (.int .i64 2044))), (2, (.const (.int .i64 1)))]) none,
  .mk (some 95) (.build 85 #[(0, (.const (.int .i64 2045))), (1, (.const (.int .i64 2045))), (2, (.const (.int .i64 8)))]) none,
  .mk (some 96) (.build 85 #[(0, (.const (.int .i64 2046))), (1, (.const (.int .i64 2069))), (2, (.const (.int .i64 1)))]) none,
  .mk (some 97) (.build 85 #[(0, (.const (.int .i64 2070))), (1, (.const (.int .i64 2073))), (2, (.const (.int .i64 8)))]) none,
  .mk (some 98) (.build 85 #[(0, (.const (.int .i64 2074))), (1, (.const (.int .i64 2074))), (2, (.const (.int .i64 1)))]) none,
  .mk (some 99) (.build 85 #[(0, (.const (.int .i64 2075))), (1, (.const (.int .i64 2083))), (2, (.const (.int .i64 8)))]) none,
  .mk (some 100) (.build 85 #[(0, (.const (.int .i64 2084))), (1, (.const (.int .i64 2084))), (2, (.const (.int .i64 1)))]) none,
  .mk (some 101) (.build 85 #[(0, (.const (.int .i64 2085))), (1, (.const (.int .i64 2087))), (2, (.const (.int .i64 8)))]) none,
  .mk (some 102) (.build 85 #[(0, (.const (.int .i64 2088))), (1, (.const (.int .i64 2088))), (2, (.const (.int .i64 1)))]) none,
  .mk (some 103) (.build 85 #[(0, (.const (.int .i64 2089))), (1, (.const (.int .i64 2093))), (2, (.const (.int .i64 8)))]) none,
  .mk (some 104) (.build 85 #[(0, (.const (.int .i64 2094))), (1, (.const (.int .i64 2136))), (2, (.const (.int .i64 1)))]) none,
  .mk (some 105) (.build 85 #[(0, (.const (.int .i64 2137))), (1, (.const (.int .i64 2139))), (2, (.const (.int .i64 8)))]) none,
  .mk (some 106) (.build 85 #[(0, (.const (.int .i64 2140))), (1, (.const (.int .i64 2143))), (2, (.const (.int .i64 1)))]) none,
  .mk (some 107) (.build 85 #[(0, (.const (.int .i64 2144))), (1, (.const (.int .i64 2191))), (2, (.const (.int .i64 2)))]) none,
  .mk (some 108) (.build 85 #[(0, (.const (.int .i64 2192))), (1, (.const (.int .i64 2193))), (2, (.const (.int .i64 6)))]) none,
  .mk (some 109) (.build 85 #[(0, (.const (.int .i64 2194))), (1, (.const (.int .i64 2199))), (2, (.const (.int .i64 2)))]) none,
  .mk (some 110) (.build 85 #[(0, (.const (.int .i64 2200))), (1, (.const (.int .i64 2207))), (2, (.const (.int .i64 8)))]) none,
  .mk (some 111) (.build 85 #[(0, (.const (.int .i64 2208))), (1, (.const (.int .i64 2249))), (2, (.const (.int .i64 2)))]) none,
  .mk (some 112) (.build 85 #[(0, (.const (.int .i64 2250))), (1, (.const (.int .i64 2273))), (2, (.const (.int .i64 8)))]) none,
  .mk (some 113) (.build 85 #[(0, (.const (.int .i64 2274))), (1, (.const (.int .i64 2274))), (2, (.const (.int .i64 6)))]) none,
  .mk (some 114) (.build 85 #[(0, (.const (.int .i64 2275))), (1, (.const (.int .i64 2306))), (2, (.const (.int .i64 8)))]) none,
  .mk (some 115) (.build 85 #[(0, (.const (.int .i64 8192))), (1, (.const (.int .i64 8202))), (2, (.const (.int .i64 12)))]) none,
  .mk (some 116) (.build 85 #[(0, (.const (.int .i64 8203))), (1, (.const (.int .i64 8205))), (2, (.const (.int .i64 9)))]) none,
  .mk (some 117) (.build 85 #[(0, (.const (.int .i64 8207))), (1, (.const (.int .i64 8207))), (2, (.const (.int .i64 1)))]) none,
  .mk (some 118) (.build 85 #[(0, (.const (.int .i64 8208))), (1, (.const (.int .i64 8231))), (2, (.const (.int .i64 13)))]) none,
  .mk (some 119) (.build 85 #[(0, (.const (.int .i64 8232))), (1, (.const (.int .i64 8232))), (2, (.const (.int .i64 12)))]) none,
  .mk (some 120) (.build 85 #[(0, (.const (.int .i64 8233))), (1, (.const (.int .i64 8233))), (2, (.const (.int .i64 10)))]) none,
  .mk (some 121) (.build 85 #[(0, (.const (.int .i64 8234))), (1, (.const (.int .i64 8234))), (2, (.const (.int .i64 14)))]) none,
  .mk (some 122) (.build 85 #[(0, (.const (.int .i64 8235))), (1, (.const (.int .i64 8235))), (2, (.const (.int .i64 16)))]) none,
  .mk (some 123) (.build 85 #[(0, (.const (.int .i64 8236))), (1, (.const (.int .i64 8236))), (2, (.const (.int .i64 18)))]) none,
  .mk (some 124) (.build 85 #[(0, (.const (.int .i64 8237))), (1, (.const (.int .i64 8237))), (2, (.const (.int .i64 15)))]) none,
  .mk (some 125) (.build 85 #[(0, (.const (.int .i64 8238))), (1, (.const (.int .i64 8238))), (2, (.const (.int .i64 17)))]) none,
  .mk (some 126) (.build 85 #[(0, (.const (.int .i64 8239))), (1, (.const (.int .i64 8239))), (2, (.const (.int .i64 7)))]) none,
  .mk (some 127) (.build 85 #[(0, (.const (.int .i64 8240))), (1, (.const (.int .i64 8244))), (2, (.const (.int .i64 5)))]) none,
  .mk (some 128) (.build 85 #[(0, (.const (.int .i64 8245))), (1, (.const (.int .i64 8259))), (2, (.const (.int .i64 13)))]) none,
  .mk (some 129) (.build 85 #[(0, (.const (.int .i64 8260))), (1, (.const (.int .i64 8260))), (2, (.const (.int .i64 7)))]) none,
  .mk (some 130) (.build 85 #[(0, (.const (.int .i64 8261))), (1, (.const (.int .i64 8286))), (2, (.const (.int .i64 13)))]) none,
  .mk (some 131) (.build 85 #[(0, (.const (.int .i64 8287))), (1, (.const (.int .i64 8287))), (2, (.const (.int .i64 12)))]) none,
  .mk (some 132) (.build 85 #[(0, (.const (.int .i64 8288))), (1, (.const (.int .i64 8293))), (2, (.const (.int .i64 9)))]) none,
  .mk (some 133) (.build 85 #[(0, (.const (.int .i64 8294))), (1, (.const (.int .i64 8294))), (2, (.const (.int .i64 19)))]) none,
  .mk (some 134) (.build 85 #[(0, (.const (.int .i64 8295))), (1, (.const (.int .i64 8295))), (2, (.const (.int .i64 20)))]) none,
  .mk (some 135) (.build 85 #[(0, (.const (.int .i64 8296))), (1, (.const (.int .i64 8296))), (2, (.const (.int .i64 21)))]) none,
  .mk (some 136) (.build 85 #[(0, (.const (.int .i64 8297))), (1, (.const (.int .i64 8297))), (2, (.const (.int .i64 22)))]) none,
  .mk (some 137) (.build 85 #[(0, (.const (.int .i64 8298))), (1, (.const (.int .i64 8303))), (2, (.const (.int .i64 9)))]) none,
  .mk (some 138) (.build 85 #[(0, (.const (.int .i64 8304))), (1, (.const (.int .i64 8304))), (2, (.const (.int .i64 3)))]) none,
  .mk (some 139) (.build 85 #[(0, (.const (.int .i64 8308))), (1, (.const (.int .i64 8313))), (2, (.const (.int .i64 3)))]) none,
  .mk (some 140) (.build 85 #[(0, (.const (.int .i64 8314))), (1, (.const (.int .i64 8315))), (2, (.const (.int .i64 4)))]) none,
  .mk (some 141) (.build 85 #[(0, (.const (.int .i64 8316))), (1, (.const (.int .i64 8318))), (2, (.const (.int .i64 13)))]) none,
  .mk (some 142) (.build 85 #[(0, (.const (.int .i64 8320))), (1, (.const (.int .i64 8329))), (2, (.const (.int .i64 3)))]) none,
  .mk (some 143) (.build 85 #[(0, (.const (.int .i64 8330))), (1, (.const (.int .i64 8331))), (2, (.const (.int .i64 4)))]) none,
  .mk (some 144) (.build 85 #[(0, (.const (.int .i64 8332))), (1, (.const (.int .i64 8334))), (2, (.const (.int .i64 13)))]) none,
  .mk (some 145) (.build 85 #[(0, (.const (.int .i64 8352))), (1, (.const (.int .i64 8399))), (2, (.const (.int .i64 5)))]) none,
  .mk (some 146) (.build 85 #[(0, (.const (.int .i64 8400))), (1, (.const (.int .i64 8432))), (2, (.const (.int .i64 8)))]) none,
  .mk (some 147) (.build 85 #[(0, (.const (.int .i64 8592))), (1, (.const (.int .i64 8721))), (2, (.const (.int .i64 13)))]) none,
  .mk (some 148) (.build 85 #[(0, (.const (.int .i64 8722))), (1, (.const (.int .i64 8722))), (2, (.const (.int .i64 4)))]) none,
  .mk (some 149) (.build 85 #[(0, (.const (.int .i64 8723))), (1, (.const (.int .i64 8723))), (2, (.const (.int .i64 5)))]) none,
  .mk (some 150) (.build 85 #[(0, (.const (.int .i64 8724))), (1, (.const (.int .i64 9013))), (2, (.const (.int .i64 13)))]) none,
  .mk (some 151) (.build 85 #[(0, (.const (.int .i64 9083))), (1, (.const (.int .i64 9108))), (2, (.const (.int .i64 13)))]) none,
  .mk (some 152) (.build 85 #[(0, (.const (.int .i64 9110))), (1, (.const (.int .i64 9254))), (2, (.const (.int .i64 13)))]) none,
  .mk (some 153) (.build 85 #[(0, (.const (.int .i64 9280))), (1, (.const (.int .i64 9290))), (2, (.const (.int .i64 13)))]) none,
  .mk (some 154) (.build 85 #[(0, (.const (.int .i64 9312))), (1, (.const (.int .i64 9351))), (2, (.const (.int .i64 13)))]) none,
  .mk (some 155) (.build 85 #[(0, (.const (.int .i64 9352))), (1, (.const (.int .i64 9371))), (2, (.const (.int .i64 3)))]) none,
  .mk (some 156) (.build 85 #[(0, (.const (.int .i64 9450))), (1, (.const (.int .i64 9899))), (2, (.const (.int .i64 13)))]) none,
  .mk (some 157) (.build 85 #[(0, (.const (.int .i64 9901))), (1, (.const (.int .i64 10239))), (2, (.const (.int .i64 13)))]) none,
  .mk (some 158) (.build 85 #[(0, (.const (.int .i64 10496))), (1, (.const (.int .i64 11123))), (2, (.const (.int .i64 13)))]) none,
  .mk (some 159) (.build 85 #[(0, (.const (.int .i64 11776))), (1, (.const (.int .i64 11869))), (2, (.const (.int .i64 13)))]) none,
  .mk (some 160) (.build 85 #[(0, (.const (.int .i64 12288))), (1, (.const (.int .i64 12288))), (2, (.const (.int .i64 12)))]) none,
  .mk (some 161) (.build 85 #[(0, (.const (.int .i64 12289))), (1, (.const (.int .i64 12292))), (2, (.const (.int .i64 13)))]) none,
  .mk (some 162) (.build 85 #[(0, (.const (.int .i64 12296))), (1, (.const (.int .i64 12320))), (2, (.const (.int .i64 13)))]) none,
  .mk (some 163) (.build 85 #[(0, (.const (.int .i64 12330))), (1, (.const (.int .i64 12333))), (2, (.const (.int .i64 8)))]) none,
  .mk (some 164) (.build 85 #[(0, (.const (.int .i64 12336))), (1, (.const (.int .i64 12336))), (2, (.const (.int .i64 13)))]) none,
  .mk (some 165) (.build 85 #[(0, (.const (.int .i64 64285))), (1, (.const (.int .i64 64285))), (2, (.const (.int .i64 1)))]) none,
  .mk (some 166) (.build 85 #[(0, (.const (.int .i64 64286))), (1, (.const (.int .i64 64286))), (2, (.const (.int .i64 8)))]) none,
  .mk (some 167) (.build 85 #[(0, (.const (.int .i64 64287))), (1, (.const (.int .i64 64296))), (2, (.const (.int .i64 1)))]) none,
  .mk (some 168) (.build 85 #[(0, (.const (.int .i64 64297))), (1, (.const (.int .i64 64297))), (2, (.const (.int .i64 4)))]) none,
  .mk (some 169) (.build 85 #[(0, (.const (.int .i64 64298))), (1, (.const (.int .i64 64335))), (2, (.const (.int .i64 1)))]) none,
  .mk (some 170) (.build 85 #[(0, (.const (.int .i64 64336))), (1, (.const (.int .i64 64829))), (2, (.const (.int .i64 2)))]) none,
  .mk (some 171) (.build 85 #[(0, (.const (.int .i64 64830))), (1, (.const (.int .i64 64847))), (2, (.const (.int .i64 13)))]) none,
  .mk (some 172) (.build 85 #[(0, (.const (.int .i64 64848))), (1, (.const (.int .i64 64974))), (2, (.const (.int .i64 2)))]) none,
  .mk (some 173) (.build 85 #[(0, (.const (.int .i64 64975))), (1, (.const (.int .i64 64975))), (2, (.const (.int .i64 13)))]) none,
  .mk (some 174) (.build 85 #[(0, (.const (.int .i64 64976))), (1, (.const (.int .i64 65007))), (2, (.const (.int .i64 9)))]) none,
  .mk (some 175) (.build 85 #[(0, (.const (.int .i64 65008))), (1, (.const (.int .i64 65020))), (2, (.const (.int .i64 2)))]) none,
  .mk (some 176) (.build 85 #[(0, (.const (.int .i64 65021))), (1, (.const (.int .i64 65023))), (2, (.const (.int .i64 13)))]) none,
  .mk (some 177) (.build 85 #[(0, (.const (.int .i64 65024))), (1, (.const (.int .i64 65039))), (2, (.const (.int .i64 8)))]) none,
  .mk (some 178) (.build 85 #[(0, (.const (.int .i64 65040))), (1, (.const (.int .i64 65049))), (2, (.const (.int .i64 13)))]) none,
  .mk (some 179) (.build 85 #[(0, (.const (.int .i64 65056))), (1, (.const (.int .i64 65071))), (2, (.const (.int .i64 8)))]) none,
  .mk (some 180) (.build 85 #[(0, (.const (.int .i64 65072))), (1, (.const (.int .i64 65103))), (2, (.const (.int .i64 13)))]) none,
  .mk (some 181) (.build 85 #[(0, (.const (.int .i64 65104))), (1, (.const (.int .i64 65104))), (2, (.const (.int .i64 7)))]) none,
  .mk (some 182) (.build 85 #[(0, (.const (.int .i64 65105))), (1, (.const (.int .i64 65105))), (2, (.const (.int .i64 13)))]) none,
  .mk (some 183) (.build 85 #[(0, (.const (.int .i64 65106))), (1, (.const (.int .i64 65106))), (2, (.const (.int .i64 7)))]) none,
  .mk (some 184) (.build 85 #[(0, (.const (.int .i64 65108))), (1, (.const (.int .i64 65108))), (2, (.const (.int .i64 13)))]) none,
  .mk (some 185) (.build 85 #[(0, (.const (.int .i64 65109))), (1, (.const (.int .i64 65109))), (2, (.const (.int .i64 7)))]) none,
  .mk (some 186) (.build 85 #[(0, (.const (.int .i64 65110))), (1, (.const (.int .i64 65118))), (2, (.const (.int .i64 13)))]) none,
  .mk (some 187) (.build 85 #[(0, (.const (.int .i64 65119))), (1, (.const (.int .i64 65119))), (2, (.const (.int .i64 5)))]) none,
  .mk (some 188) (.build 85 #[(0, (.const (.int .i64 65120))), (1, (.const (.int .i64 65121))), (2, (.const (.int .i64 13)))]) none,
  .mk (some 189) (.build 85 #[(0, (.const (.int .i64 65122))), (1, (.const (.int .i64 65123))), (2, (.const (.int .i64 4)))]) none,
  .mk (some 190) (.build 85 #[(0, (.const (.int .i64 65124))), (1, (.const (.int .i64 65126))), (2, (.const (.int .i64 13)))]) none,
  .mk (some 191) (.build 85 #[(0, (.const (.int .i64 65128))), (1, (.const (.int .i64 65128))), (2, (.const (.int .i64 13)))]) none,
  .mk (some 192) (.build 85 #[(0, (.const (.int .i64 65129))), (1, (.const (.int .i64 65130))), (2, (.const (.int .i64 5)))]) none,
  .mk (some 193) (.build 85 #[(0, (.const (.int .i64 65131))), (1, (.const (.int .i64 65131))), (2, (.const (.int .i64 13)))]) none,
  .mk (some 194) (.build 85 #[(0, (.const (.int .i64 65136))), (1, (.const (.int .i64 65278))), (2, (.const (.int .i64 2)))]) none,
  .mk (some 195) (.build 85 #[(0, (.const (.int .i64 65279))), (1, (.const (.int .i64 65279))), (2, (.const (.int .i64 9)))]) none,
  .mk (some 196) (.build 85 #[(0, (.const (.int .i64 65281))), (1, (.const (.int .i64 65282))), (2, (.const (.int .i64 13)))]) none,
  .mk (some 197) (.build 85 #[(0, (.const (.int .i64 65283))), (1, (.const (.int .i64 65285))), (2, (.const (.int .i64 5)))]) none,
  .mk (some 198) (.build 85 #[(0, (.const (.int .i64 65286))), (1, (.const (.int .i64 65290))), (2, (.const (.int .i64 13)))]) none,
  .mk (some 199) (.build 85 #[(0, (.const (.int .i64 65291))), (1, (.const (.int .i64 65291))), (2, (.const (.int .i64 4)))]) none,
  .mk (some 200) (.build 85 #[(0, (.const (.int .i64 65292))), (1, (.const (.int .i64 65292))), (2, (.const (.int .i64 7)))]) none,
  .mk (some 201) (.build 85 #[(0, (.const (.int .i64 65293))), (1, (.const (.int .i64 65293))), (2, (.const (.int .i64 4)))]) none,
  .mk (some 202) (.build 85 #[(0, (.const (.int .i64 65294))), (1, (.const (.int .i64 65295))), (2, (.const (.int .i64 7)))]) none,
  .mk (some 203) (.build 85 #[(0, (.const (.int .i64 65296))), (1, (.const (.int .i64 65305))), (2, (.const (.int .i64 3)))]) none,
  .mk (some 204) (.build 85 #[(0, (.const (.int .i64 65306))), (1, (.const (.int .i64 65306))), (2, (.const (.int .i64 7)))]) none,
  .mk (some 205) (.build 85 #[(0, (.const (.int .i64 65307))), (1, (.const (.int .i64 65312))), (2, (.const (.int .i64 13)))]) none,
  .mk (some 206) (.build 85 #[(0, (.const (.int .i64 65339))), (1, (.const (.int .i64 65344))), (2, (.const (.int .i64 13)))]) none,
  .mk (some 207) (.build 85 #[(0, (.const (.int .i64 65371))), (1, (.const (.int .i64 65381))), (2, (.const (.int .i64 13)))]) none,
  .mk (some 208) (.build 85 #[(0, (.const (.int .i64 65504))), (1, (.const (.int .i64 65505))), (2, (.const (.int .i64 5)))]) none,
  .mk (some 209) (.build 85 #[(0, (.const (.int .i64 65506))), (1, (.const (.int .i64 65508))), (2, (.const (.int .i64 13)))]) none,
  .mk (some 210) (.build 85 #[(0, (.const (.int .i64 65509))), (1, (.const (.int .i64 65510))), (2, (.const (.int .i64 5)))]) none,
  .mk (some 211) (.build 85 #[(0, (.const (.int .i64 65520))), (1, (.const (.int .i64 65528))), (2, (.const (.int .i64 9)))]) none,
  .mk (some 212) (.build 85 #[(0, (.const (.int .i64 65529))), (1, (.const (.int .i64 65533))), (2, (.const (.int .i64 13)))]) none,
  .mk (some 213) (.build 85 #[(0, (.const (.int .i64 65534))), (1, (.const (.int .i64 65535))), (2, (.const (.int .i64 9)))]) none,
  .mk (some 214) (.build 85 #[(0, (.const (.int .i64 67584))), (1, (.const (.int .i64 68863))), (2, (.const (.int .i64 1)))]) none,
  .mk (some 215) (.build 85 #[(0, (.const (.int .i64 68864))), (1, (.const (.int .i64 68927))), (2, (.const (.int .i64 2)))]) none,
  .mk (some 216) (.build 85 #[(0, (.const (.int .i64 68928))), (1, (.const (.int .i64 69631))), (2, (.const (.int .i64 1)))]) none,
  .mk (some 217) (.build 85 #[(0, (.const (.int .i64 120782))), (1, (.const (.int .i64 120831))), (2, (.const (.int .i64 3)))]) none,
  .mk (some 218) (.build 85 #[(0, (.const (.int .i64 124928))), (1, (.const (.int .i64 126063))), (2, (.const (.int .i64 1)))]) none,
  .mk (some 219) (.build 85 #[(0, (.const (.int .i64 126064))), (1, (.const (.int .i64 126143))), (2, (.const (.int .i64 2)))]) none,
  .mk (some 220) (.build 85 #[(0, (.const (.int .i64 126144))), (1, (.const (.int .i64 126207))), (2, (.const (.int .i64 1)))]) none,
  .mk (some 221) (.build 85 #[(0, (.const (.int .i64 126208))), (1, (.const (.int .i64 126287))), (2, (.const (.int .i64 2)))]) none,
  .mk (some 222) (.build 85 #[(0, (.const (.int .i64 126288))), (1, (.const (.int .i64 126463))), (2, (.const (.int .i64 1)))]) none,
  .mk (some 223) (.build 85 #[(0, (.const (.int .i64 126464))), (1, (.const (.int .i64 126719))), (2, (.const (.int .i64 2)))]) none,
  .mk (some 224) (.build 85 #[(0, (.const (.int .i64 126720))), (1, (.const (.int .i64 126975))), (2, (.const (.int .i64 1)))]) none,
  .mk (some 225) (.build 85 #[(0, (.const (.int .i64 126976))), (1, (.const (.int .i64 127231))), (2, (.const (.int .i64 13)))]) none,
  .mk (some 226) (.build 85 #[(0, (.const (.int .i64 127232))), (1, (.const (.int .i64 127242))), (2, (.const (.int .i64 3)))]) none,
  .mk (some 227) (.build 85 #[(0, (.const (.int .i64 127744))), (1, (.const (.int .i64 128727))), (2, (.const (.int .i64 13)))]) none,
  .mk (some 228) (.build 85 #[(0, (.const (.int .i64 917504))), (1, (.const (.int .i64 917759))), (2, (.const (.int .i64 9)))]) none,
  .mk (some 229) (.build 85 #[(0, (.const (.int .i64 917760))), (1, (.const (.int .i64 917999))), (2, (.const (.int .i64 8)))]) none,
  .mk (some 230) (.build 85 #[(0, (.const (.int .i64 918000))), (1, (.const (.int .i64 921599))), (2, (.const (.int .i64 9)))]) none,
  .mk (some 231) (.buildSlice 52 230 #[(0, (.tmp 1)), (1, (.tmp 2)), (2, (.tmp 3)), (3, (.tmp 4)), (4, (.tmp 5)), (5, (.tmp 6)), (6, (.tmp 7)), (7, (.tmp 8)), (8, (.tmp 9)), (9, (.tmp 10)), (10, (.tmp 11)), (11, (.tmp 12)), (12, (.tmp 13)), (13, (.tmp 14)), (14, (.tmp 15)), (15, (.tmp 16)), (16, (.tmp 17)), (17, (.tmp 18)), (18, (.tmp 19)), (19, (.tmp 20)), (20, (.tmp 21)), (21, (.tmp 22)), (22, (.tmp 23)), (23, (.tmp 24)), (24, (.tmp 25)), (25, (.tmp 26)), (26, (.tmp 27)), (27, (.tmp 28)), (28, (.tmp 29)), (29, (.tmp 30)), (30, (.tmp 31)), (31, (.tmp 32)), (32, (.tmp 33)), (33, (.tmp 34)), (34, (.tmp 35)), (35, (.tmp 36)), (36, (.tmp 37)), (37, (.tmp 38)), (38, (.tmp 39)), (39, (.tmp 40)), (40, (.tmp 41)), (41, (.tmp 42)), (42, (.tmp 43)), (43, (.tmp 44)), (44, (.tmp 45)), (45, (.tmp 46)), (46, (.tmp 47)), (47, (.tmp 48)), (48, (.tmp 49)), (49, (.tmp 50)), (50, (.tmp 51)), (51, (.tmp 52)), (52, (.tmp 53)), (53, (.tmp 54)), (54, (.tmp 55)), (55, (.tmp 56)), (56, (.tmp 57)), (57, (.tmp 58)), (58, (.tmp 59)), (59, (.tmp 60)), (60, (.tmp 61)), (61, (.tmp 62)), (62, (.tmp 63)), (63, (.tmp 64)), (64, (.tmp 65)), (65, (.tmp 66)), (66, (.tmp 67)), (67, (.tmp 68)), (68, (.tmp 69)), (69, (.tmp 70)), (70, (.tmp 71)), (71, (.tmp 72)), (72, (.tmp 73)), (73, (.tmp 74)), (74, (.tmp 75)), (75, (.tmp 76)), (76, (.tmp 77)), (77, (.tmp 78)), (78, (.tmp 79)), (79, (.tmp 80)), (80, (.tmp 81)), (81, (.tmp 82)), (82, (.tmp 83)), (83, (.tmp 84)), (84, (.tmp 85)), (85, (.tmp 86)), (86, (.tmp 87)), (87, (.tmp 88)), (88, (.tmp 89)), (89, (.tmp 90)), (90, (.tmp 91)), (91, (.tmp 92)), (92, (.tmp 93)), (93, (.tmp 94)), (94, (.tmp 95)), (95, (.tmp 96)), (96, (.tmp 97)), (97, (.tmp 98)), (98, (.tmp 99)), (99, (.tmp 100)), (100, (.tmp 101)), (101, (.tmp 102)), (102, (.tmp 103)), (103, (.tmp 104)), (104, (.tmp 105)), (105, (.tmp 106)), (106, (.tmp 107)), (107, (.tmp 108)), (108, (.tmp 109)), (109, (.tmp 110)), (110, (.tmp 111)), (111, (.tmp 112)), (112, (.tmp 113)), (113, (.tmp 114)), (114, (.tmp 115)), (115, (.tmp 116)), (116, (.tmp 117)), (117, (.tmp 118)), (118, (.tmp 119)), (119, (.tmp 120)), (120, (.tmp 121)), (121, (.tmp 122)), (122, (.tmp 123)), (123, (.tmp 124)), (124, (.tmp 125)), (125, (.tmp 126)), (126, (.tmp 127)), (127, (.tmp 128)), (128, (.tmp 129)), (129, (.tmp 130)), (130, (.tmp 131)), (131, (.tmp 132)), (132, (.tmp 133)), (133, (.tmp 134)), (134, (.tmp 135)), (135, (.tmp 136)), (136, (.tmp 137)), (137, (.tmp 138)), (138, (.tmp 139)), (139, (.tmp 140)), (140, (.tmp 141)), (141, (.tmp 142)), (142, (.tmp 143)), (143, (.tmp 144)), (144, (.tmp 145)), (145, (.tmp 146)), (146, (.tmp 147)), (147, (.tmp 148)), (148, (.tmp 149)), (149, (.tmp 150)), (150, (.tmp 151)), (151, (.tmp 152)), (152, (.tmp 153)), (153, (.tmp 154)), (154, (.tmp 155)), (155, (.tmp 156)), (156, (.tmp 157)), (157, (.tmp 158)), (158, (.tmp 159)), (159, (.tmp 160)), (160, (.tmp 161)), (161, (.tmp 162)), (162, (.tmp 163)), (163, (.tmp 164)), (164, (.tmp 165)), (165, (.tmp 166)), (166, (.tmp 167)), (167, (.tmp 168)), (168, (.tmp 169)), (169, (.tmp 170)), (170, (.tmp 171)), (171, (.tmp 172)), (172, (.tmp 173)), (173, (.tmp 174)), (174, (.tmp 175)), (175, (.tmp 176)), (176, (.tmp 177)), (177, (.tmp 178)), (178, (.tmp 179)), (179, (.tmp 180)), (180, (.tmp 181)), (181, (.tmp 182)), (182, (.tmp 183)), (183, (.tmp 184)), (184, (.tmp 185)), (185, (.tmp 186)), (186, (.tmp 187)), (187, (.tmp 188)), (188, (.tmp 189)), (189, (.tmp 190)), (190, (.tmp 191)), (191, (.tmp 192)), (192, (.tmp 193)), (193, (.tmp 194)), (194, (.tmp 195)), (195, (.tmp 196)), (196, (.tmp 197)), (197, (.tmp 198)), (198, (.tmp 199)), (199, (.tmp 200)), (200, (.tmp 201)), (201, (.tmp 202)), (202, (.tmp 203)), (203, (.tmp 204)), (204, (.tmp 205)), (205, (.tmp 206)), (206, (.tmp 207)), (207, (.tmp 208)), (208, (.tmp 209)), (209, (.tmp 210)), (210, (.tmp 211)), (211, (.tmp 212)), (212, (.tmp 213)), (213, (.tmp 214)), (214, (.tmp 215)), (215, (.tmp 216)), (216, (.tmp 217)), (217, (.tmp 218)), (218, (.tmp 219)), (219, (.tmp 220)), (220, (.tmp 221)), (221, (.tmp 222)), (222, (.tmp 223)), (223, (.tmp 224)), (224, (.tmp 225)), (225, (.tmp 226)), (226, (.tmp 227)), (227, (.tmp 228)), (228, (.tmp 229)), (229, (.tmp 230))]) none,
  .mk (some 0) (.assign (.tmp 231)) none]
def c22 : PC := (.seq (.reg false r22_0) (.seq (.reg false r22_1) .ret))
theorem e22 {args : List PV} {h : Heap} {K : PV → Heap → Prop} (hl : args.length = 0) (s : pwp Try.prog [] c22 (fin Try.prog [.tmp 0] h K) (slots0 (olds args)) h) : CanP Try.prog 22 args h K :=
  can_of2 (n := 232) mixed Try.func22 rfl (by kernel_rfl) (by rw [hl]; kernel_rfl) rfl (by kernel_rfl) s
/-! ### naskh.api.JoinRanges: function 23 -/
def r23_0 : List PS := [.mk (some 0) (.assign (.const (.slice none 0 0))) none]
def r23_1 : List PS := [.mk (some 1) (.build 85 #[(0, (.const (.int .i64 768))), (1, (.const (.int .i64 879))), (2, (.const (.int .i64 1)))]) none,
  .mk (some 2) (.build 85 #[(0, (.const (.int .i64 1155))), (1, (.const (.int .i64 1161))), (2, (.const (.int .i64 1)))]) none,
  .mk (some 3) (.build 85 #[(0, (.const (.int .i64 1425))), (1, (.const (.int .i64 1469))), (2, (.const (.int .i64 1)))]) none,
  .mk (some 4) (.build 85 #[(0, (.const (.int .i64 1471))), (1, (.const (.int .i64 1471))), (2, (.const (.int .i64 1)))]) none,
  .mk (some 5) (.build 85 #[(0, (.const (.int .i64 1473))), (1, (.const (.int .i64 1474))), (2, (.const (.int .i64 1)))]) none,
  .mk (some 6) (.build 85 #[(0, (.const (.int .i64 1476))), (1, (.const (.int .i64 1477))), (2, (.const (.int .i64 1)))]) none,
  .mk (some 7) (.build 85 #[(0, (.const (.int .i64 1479))), (1, (.const (.int .i64 1479))), (2, (.const (.int .i64 1)))]) none,
  .mk (some 8) (.build 85 #[(0, (.const (.int .i64 1552))), (1, (.const (.int .i64 1562))), (2, (.const (.int .i64 1)))]) none,
  .mk (some 9) (.build 85 #[(0, (.const (.int .i64 1564))), (1, (.const (.int .i64 1564))), (2, (.const (.int .i64 1)))]) none,
  .mk (some 10) (.build 85 #[(0, (.const (.int .i64 1568))), (1, (.const (.int .i64 1568))), (2, (.const (.int .i64 3)))]) none,
  .mk (some 11) (.build 85 #[(0, (.const (.int .i64 1570))), (1, (.const (.int .i64 1573))), (2, (.const (.int .i64 2)))]) none,
  .mk (some 12) (.build 85 #[(0, (.const (.int .i64 1574))), (1, (.const (.int .i64 1574))), (2, (.const (.int .i64 3)))]) none,
  .mk (some 13) (.build 85 #[(0, (.const (.int .i64 1575))), (1, (.const (.int .i64 1575))), (2, (.const (.int .i64 2)))]) none,
  .mk (some 14) (.build 85 #[(0, (.const (.int .i64 1576))), (1, (.const (.int .i64 1576))), (2, (.const (.int .i64 3)))]) none,
  .mk (some 15) (.build 85 #[(0, (.const (.int .i64 1577))), (1, (.const (.int .i64 1577))), (2, (.const (.int .i64 2)))]) none,
  .mk (some 16) (.build 85 #[(0, (.const (.int .i64 1578))), (1, (.const (.int .i64 1582))), (2, (.const (.int .i64 3)))]) none,
  .mk (some 17) (.build 85 #[(0, (.const (.int .i64 1583))), (1, (.const (.int .i64 1586))), (2, (.const (.int .i64 2)))]) none,
  .mk (some 18) (.build 85 #[(0, (.const (.int .i64 1587))), (1, (.const (.int .i64 1599))), (2, (.const (.int .i64 3)))]) none,
  .mk (some 19) (.build 85 #[(0, (.const (.int .i64 1600))), (1, (.const (.int .i64 1600))), (2, (.const (.int .i64 5)))]) none,
  .mk (some 20) (.build 85 #[(0, (.const (.int .i64 1601))), (1, (.const (.int .i64 1607))), (2, (.const (.int .i64 3)))]) none,
  .mk (some 21) (.build 85 #[(0, (.const (.int .i64 1608))), (1, (.const (.int .i64 1608))), (2, (.const (.int .i64 2)))]) none,
  .mk (some 22) (.build 85 #[(0, (.const (.int .i64 1609))), (1, (.const (.int .i64 1610))), (2, (.const (.int .i64 3)))]) none,
  .mk (some 23) (.build 85 #[(0, (.const (.int .i64 1611))), (1, (.const (.int .i64 1631))), (2, (.const (.int .i64 1)))]) none,
  .mk (some 24) (.build 85 #[(0, (.const (.int .i64 1646))), (1, (.const (.int .i64 1647))), (2, (.const (.int .i64 3)))]) none,
  .mk (some 25) (.build 85 #[(0, (.const (.int .i64 1648))), (1, (.const (.int .i64 1648))), (2, (.const (.int .i64 1)))]) none,
  .mk (some 26) (.build 85 #[(0, (.const (.int .i64 1649))), (1, (.const (.int .i64 1651))), (2, (.const (.int .i64 2)))]) none,
  .mk (some 27) (.build 85 #[(0, (.const (.int .i64 1653))), (1, (.const (.int .i64 1655))), (2, (.const (.int .i64 2)))]) none,
  .mk (some 28) (.build 85 #[(0, (.const (.int .i64 1656))), (1, (.const (.int .i64 1671))), (2, (.const (.int .i64 3)))]) none,
  .mk (some 29) (.build 85 #[(0, (.const (.int .i64 1672))), (1, (.const (.int .i64 1689))), (2, (.const (.int .i64 2)))]) none,
  .mk (some 30) (.build 85 #[(0, (.const (.int .i64 1690))), (1, (.const (.int .i64 1727))), (2, (.const (.int .i64 3)))]) none,
  .mk (some 31) (.build 85 #[(0, (.const (.int .i64 1728))), (1, (.const (.int .i64 1728))), (2, (.const (.int .i64 2)))]) none,
  .mk (some 32) (.build 85 #[(0, (.const (.int .i64 1729))), (1, (.const (.int .i64 1730))), (2, (.const (.int .i64 3)))]) none,
  .mk (some 33) (.build 85 #[(0, (.const (.int .i64 1731))), (1, (.const (.int .i64 1739))), (2, (.const (.int .i64 2)))]) none,
  .mk (some 34) (.build 85 #[(0, (.const (.int .i64 1740))), (1, (.const (.int .i64 1740))), (2, (.const (.int .i64 3)))]) none,
  .mk (some 35) (.build 85 #[(0, (.const (.int .i64 1741))), (1, (.const (.int .i64 1741))), (2, (.const (.int .i64 2)))]) none,
  .mk (some 36) (.build 85 #[(0, (.const (.int .i64 1742))), (1, (.const (.int .i64 1742))), (2, (.const (.int .i64 3)))]) none,
  .mk (some 37) (.build 85 #[(0, (.const (.int .i64 1743))), (1, (.const (.int .i64 1743))), (2, (.const (.int .i64 2)))]) none,
  .mk (some 38) (.build 85 #[(0, (.const (.int .i64 1744))), (1, (.const (.int .i64 1745))), (2, (.const (.int .i64 3)))]) none,
  .mk (some 39) (.build 85 #[(0, (.const (.int .i64 1746))), (1, (.const (.int .i64 1747))), (2, (.const (.int .i64 2)))]) none,
  .mk (some 40) (.build 85 #[(0, (.const (.int .i64 1749))), (1, (.const (.int .i64 1749))), (2, (.const (.int .i64 2)))]) none,
  .mk (some 41) (.build 85 #[(0, (.const (.int .i64 1750))), (1, (.const (.int .i64 1756))), (2, (.const (.int .i64 1)))]) none,
  .mk (some 42) (.build 85 #[(0, (.const (.int .i64 1759))), (1, (.const (.int .i64 1764))), (2, (.const (.int .i64 1)))]) none,
  .mk (some 43) (.build 85 #[(0, (.const (.int .i64 1767))), (1, (.const (.int .i64 1768))), (2, (.const (.int .i64 1)))]) none,
  .mk (some 44) (.build 85 #[(0, (.const (.int .i64 1770))), (1, (.const (.int .i64 1773))), (2, (.const (.int .i64 1)))]) none,
  .mk (some 45) (.build 85 #[(0, (.const (.int .i64 1774))), (1, (.const (.int .i64 1775))), (2, (.const (.int .i64 2)))]) none,
  .mk (some 46) (.build 85 #[(0, (.const (.int .i64 1786))), (1, (.const (.int .i64 1788))), (2, (.const (.int .i64 3)))]) none,
  .mk (some 47) (.build 85 #[(0, (.const (.int .i64 1791))), (1, (.const (.int .i64 1791))), (2, (.const (.int .i64 3)))]) none,
  .mk (some 48) (.build 85 #[(0, (.const (.int .i64 1840))), (1, (.const (.int .i64 1866))), (2, (.const (.int .i64 1)))]) none,
  .mk (some 49) (.build 85 #[(0, (.const (.int .i64 1958))), (1, (.const (.int .i64 1968))), (2, (.const (.int .i64 1)))]) none,
  .mk (some 50) (.build 85 #[(0, (.const (.int .i64 1994))), (1, (.const (.int .i64 2026))), (2, (.const (.int .i64 3)))]) none,
  .mk (some 51) (.build 85 #[(0, (.const (.int .i64 2027))), (1, (.const (.int .i64 2035))), (2, (.const (.int .i64 1)))]) none,
  .mk (some 52) (.build 85 #[(0, (.const (.int .i64 2042))), (1, (.const (.int .i64 2042))), (2, (.const (.int .i64 5)))]) none,
  .mk (some 53) (.build 85 #[(0, (.const (.int .i64 2200))), (1, (.const (.int .i64 2207))), (2, (.const (.int .i64 1)))]) none,
  .mk (some 54) (.build 85 #[(0, (.const (.int .i64 2250))), (1, (.const (.int .i64 2273))), (2, (.const (.int .i64 1)))]) none,
  .mk (some 55) (.build 85 #[(0, (.const (.int .i64 2275))), (1, (.const (.int .i64 2306))), (2, (.const (.int .i64 1)))]) none,
  .mk (some 56) (.build 85 #[(0, (.const (.int .i64 8203))), (1, (.const (.int .i64 8203))), (2, (.const (.int .i64 1)))]) none,
  .mk (some 57) (.build 85 #[(0, (.const (.int .i64 8205))), (1, (.const (.int .i64 8205))), (2, (.const (.int .i64 5)))]) none,
  .mk (some 58) (.build 85 #[(0, (.const (.int .i64 8206))), (1, (.const (.int .i64 8207))), (2, (.const (.int .i64 1)))]) none,
  .mk (some 59) (.build 85 #[(0, (.const (.int .i64 8234))), (1, (.const (.int .i64 8238))), (2, (.const (.int .i64 1)))]) none,
  .mk (some 60) (.build 85 #[(0, (.const (.int .i64 8288))), (1, (.const (.int .i64 8292))), (2, (.const (.int .i64 1)))]) none,
  .mk (some 61) (.build 85 #[(0, (.const (.int .i64 8298))), (1, (.const (.int .i64 8303))), (2, (.const (.int .i64 1)))]) none,
  .mk (some 62) (.build 85 #[(0, (.const (.int .i64 8400))), (1, (.const (.int .i64 8432))), (2, (.const (.int .i64 1)))]) none,
  .mk (some 63) (.build 85 #[(0, (.const (.int .i64 43072))), (1, (.const (.int .i64 43121))), (2, (.const (.int .i64 3)))]) none,
  .mk (some 64) (.build 85 #[(0, (.const (.int .i64 43122))), (1, (.const (.int .i64 43122))), (2, (.const (.int .i64 4)))]) none,
  .mk (some 65) (.build 85 #[(0, (.const (.int .i64 65024))), (1, (.const (.int .i64 65039))), (2, (.const (.int .i64 1)))]) none,
  .mk (some 66) (.build 85 #[(0, (.const (.int .i64 65056))), (1, (.const (.int .i64 65071))), (2, (.const (.int .i64 1)))]) none,
  .mk (some 67) (.build 85 #[(0, (.const (.int .i64 65279))), (1, (.const (.int .i64 65279))), (2, (.const (.int .i64 1)))]) none,
  .mk (some 68) (.build 85 #[(0, (.const (.int .i64 917760))), (1, (.const (.int .i64 917999))), (2, (.const (.int .i64 1)))]) none,
  .mk (some 69) (.buildSlice 52 68 #[(0, (.tmp 1)), (1, (.tmp 2)), (2, (.tmp 3)), (3, (.tmp 4)), (4, (.tmp 5)), (5, (.tmp 6)), (6, (.tmp 7)), (7, (.tmp 8)), (8, (.tmp 9)), (9, (.tmp 10)), (10, (.tmp 11)), (11, (.tmp 12)), (12, (.tmp 13)), (13, (.tmp 14)), (14, (.tmp 15)), (15, (.tmp 16)), (16, (.tmp 17)), (17, (.tmp 18)), (18, (.tmp 19)), (19, (.tmp 20)), (20, (.tmp 21)), (21, (.tmp 22)), (22, (.tmp 23)), (23, (.tmp 24)), (24, (.tmp 25)), (25, (.tmp 26)), (26, (.tmp 27)), (27, (.tmp 28)), (28, (.tmp 29)), (29, (.tmp 30)), (30, (.tmp 31)), (31, (.tmp 32)), (32, (.tmp 33)), (33, (.tmp 34)), (34, (.tmp 35)), (35, (.tmp 36)), (36, (.tmp 37)), (37, (.tmp 38)), (38, (.tmp 39)), (39, (.tmp 40)), (40, (.tmp 41)), (41, (.tmp 42)), (42, (.tmp 43)), (43, (.tmp 44)), (44, (.tmp 45)), (45, (.tmp 46)), (46, (.tmp 47)), (47, (.tmp 48)), (48, (.tmp 49)), (49, (.tmp 50)), (50, (.tmp 51)), (51, (.tmp 52)), (52, (.tmp 53)), (53, (.tmp 54)), (54, (.tmp 55)), (55, (.tmp 56)), (56, (.tmp 57)), (57, (.tmp 58)), (58, (.tmp 59)), (59, (.tmp 60)), (60, (.tmp 61)), (61, (.tmp 62)), (62, (.tmp 63)), (63, (.tmp 64)), (64, (.tmp 65)), (65, (.tmp 66)), (66, (.tmp 67)), (67, (.tmp 68))]) none,
  .mk (some 0) (.assign (.tmp 69)) none]
def c23 : PC := (.seq (.reg false r23_0) (.seq (.reg false r23_1) .ret))
theorem e23 {args : List PV} {h : Heap} {K : PV → Heap → Prop} (hl : args.length = 0) (s : pwp Try.prog [] c23 (fin Try.prog [.tmp 0] h K) (slots0 (olds args)) h) : CanP Try.prog 23 args h K :=
  can_of2 (n := 70) mixed Try.func23 rfl (by kernel_rfl) (by rw [hl]; kernel_rfl) rfl (by kernel_rfl) s
/-! ### naskh.props.New: function 7 -/
def r7_0 : List PS := [.mk (some 0) (.assign (.const (.pointer none))) none]
def r7_1 : List PS := [.mk (some 6) (.call ⟨(.value (.func 22)), #[], #[]⟩) none,
  .mk (some 7) (.call ⟨(.value (.func 21)), #[(.tmp 6), (.const (.int .i64 0))], #[52, 3]⟩) none,
  .mk (some 5) (.move (.tmp 7)) none,
  .mk (some 8) (.extract (.tmp 5) 0) none,
  .mk (some 9) (.extract (.tmp 5) 1) none,
  .mk (some 1) (.assign (.tmp 8)) none,
  .mk (some 2) (.assign (.tmp 9)) none]
def r7_2 : List PS := [.mk (some 11) (.call ⟨(.value (.func 23)), #[], #[]⟩) none,
  .mk (some 12) (.call ⟨(.value (.func 21)), #[(.tmp 11), (.const (.int .i64 0))], #[52, 3]⟩) none,
  .mk (some 10) (.move (.tmp 12)) none,
  .mk (some 13) (.extract (.tmp 10) 0) none,
  .mk (some 14) (.extract (.tmp 10) 1) none,
  .mk (some 3) (.assign (.tmp 13)) none,
  .mk (some 4) (.assign (.tmp 14)) none]
def r7_3 : List PS := [.mk (some 15) (.move (.tmp 2)) none,
  .mk (some 16) (.binOp .neq 27 (.tmp 15) (.const (.int .i64 0)) 27) none,
  .mk (some 17) (.move (.tmp 16)) none,
  .mk (some 18) (.move (.tmp 4)) (some (17, false)),
  .mk (some 19) (.binOp .neq 27 (.tmp 18) (.const (.int .i64 0)) 27) (some (17, false)),
  .mk (some 20) (.pick (.tmp 17) (.const (.bool true)) (.tmp 19)) none]
def r7_4 : List PS := [.mk (some 0) (.assign (.const (.pointer none))) none]
def r7_5 : List PS := [.mk (some 21) (.move (.tmp 1)) none,
  .mk (some 22) (.move (.tmp 3)) none,
  .mk (some 23) (.build 55 #[(0, (.tmp 21)), (1, (.tmp 22))]) none,
  .mk (some 24) (.build 57 #[(0, (.tmp 23))]) none,
  .mk (some 25) (.box 57 (.tmp 24)) none,
  .mk (some 0) (.assign (.tmp 25)) none]
def c7 : PC := (.seq (.reg false r7_0) (.seq (.reg false r7_1) (.seq (.reg false r7_2) (.seq (.seq (.reg false r7_3) (.cond (.tmp 20) (.seq (.reg false r7_4) .ret) .skip)) (.seq (.reg false r7_5) .ret)))))
theorem e7 {args : List PV} {h : Heap} {K : PV → Heap → Prop} (hl : args.length = 0) (s : pwp Try.prog [] c7 (fin Try.prog [.tmp 0] h K) (slots0 (olds args)) h) : CanP Try.prog 7 args h K :=
  can_of2 (n := 26) mixed Try.func7 rfl (by kernel_rfl) (by rw [hl]; kernel_rfl) rfl (by kernel_rfl) s
/-! ### naskh.api.Wides: function 25 -/
def r25_0 : List PS := [.mk (some 0) (.assign (.const (.slice none 0 0))) none]
def r25_1 : List PS := [.mk (some 1) (.build 85 #[(0, (.const (.int .i64 4352))), (1, (.const (.int .i64 4447))), (2, (.const (.int .i64 2)))]) none,
  .mk (some 2) (.build 85 #[(0, (.const (.int .i64 8986))), (1, (.const (.int .i64 8987))), (2, (.const (.int .i64 2)))]) none,
  .mk (some 3) (.build 85 #[(0, (.const (.int .i64 9001))), (1, (.const (.int .i64 9002))), (2, (.const (.int .i64 2)))]) none,
  .mk (some 4) (.build 85 #[(0, (.const (.int .i64 9193))), (1, (.const (.int .i64 9196))), (2, (.const (.int .i64 2)))]) none,
  .mk (some 5) (.build 85 #[(0, (.const (.int .i64 9725))), (1, (.const (.int .i64 9726))), (2, (.const (.int .i64 2)))]) none,
  .mk (some 6) (.build 85 #[(0, (.const (.int .i64 9748))), (1, (.const (.int .i64 9749))), (2, (.const (.int .i64 2)))]) none,
  .mk (some 7) (.build 85 #[(0, (.const (.int .i64 9800))), (1, (.const (.int .i64 9811))), (2, (.const (.int .i64 2)))]) none,
  .mk (some 8) (.build 85 #[(0, (.const (.int .i64 11904))), (1, (.const (.int .i64 11929))), (2, (.const (.int .i64 2)))]) none,
  .mk (some 9) (.build 85 #[(0, (.const (.int .i64 11931))), (1, (.const (.int .i64 12019))), (2, (.const (.int .i64 2)))]) none,
  .mk (some 10) (.build 85 #[(0, (.const (.int .i64 12032))), (1, (.const (.int .i64 12245))), (2, (.const (.int .i64 2)))]) none,
  .mk (some 11) (.build 85 #[(0, (.const (.int .i64 12272))), (1, (.const (.int .i64 12350))), (2, (.const (.int .i64 2)))]) none,
  .mk (some 12) (.build 85 #[(0, (.const (.int .i64 12353))), (1, (.const (.int .i64 12438))), (2, (.const (.int .i64 2)))]) none,
  .mk (some 13) (.build 85 #[(0, (.const (.int .i64 12441))), (1, (.const (.int .i64 12543))), (2, (.const (.int .i64 2)))]) none,
  .mk (some 14) (.build 85 #[(0, (.const (.int .i64 12549))), (1, (.const (.int .i64 12591))), (2, (.const (.int .i64 2)))]) none,
  .mk (some 15) (.build 85 #[(0, (.const (.int .i64 12593))), (1, (.const (.int .i64 12686))), (2, (.const (.int .i64 2)))]) none,
  .mk (some 16) (.build 85 #[(0, (.const (.int .i64 12688))), (1, (.const (.int .i64 12771))), (2, (.const (.int .i64 2)))]) none,
  .mk (some 17) (.build 85 #[(0, (.const (.int .i64 12784))), (1, (.const (.int .i64 12830))), (2, (.const (.int .i64 2)))]) none,
  .mk (some 18) (.build 85 #[(0, (.const (.int .i64 12832))), (1, (.const (.int .i64 12871))), (2, (.const (.int .i64 2)))]) none,
  .mk (some 19) (.build 85 #[(0, (.const (.int .i64 12880))), (1, (.const (.int .i64 19903))), (2, (.const (.int .i64 2)))]) none,
  .mk (some 20) (.build 85 #[(0, (.const (.int .i64 19968))), (1, (.const (.int .i64 42124))), (2, (.const (.int .i64 2)))]) none,
  .mk (some 21) (.build 85 #[(0, (.const (.int .i64 42128))), (1, (.const (.int .i64 42182))), (2, (.const (.int .i64 2)))]) none,
  .mk (some 22) (.build 85 #[(0, (.const (.int .i64 43360))), (1, (.const (.int .i64 43388))), (2, (.const (.int .i64 2)))]) none,
  .mk (some 23) (.build 85 #[(0, (.const (.int .i64 44032))), (1, (.const (.int .i64 55203))), (2, (.const (.int .i64 2)))]) none,
  .mk (some 24) (.build 85 #[(0, (.const (.int .i64 63744))), (1, (.const (.int .i64 64255))), (2, (.const (.int .i64 2)))]) none,
  .mk (some 25) (.build 85 #[(0, (.const (.int .i64 65040))), (1, (.const (.int .i64 65049))), (2, (.const (.int .i64 2)))]) none,
  .mk (some 26) (.build 85 #[(0, (.const (.int .i64 65072))), (1, (.const (.int .i64 65106))), (2, (.const (.int .i64 2)))]) none,
  .mk (some 27) (.build 85 #[(0, (.const (.int .i64 65108))), (1, (.const (.int .i64 65126))), (2, (.const (.int .i64 2)))]) none,
  .mk (some 28) (.build 85 #[(0, (.const (.int .i64 65128))), (1, (.const (.int .i64 65131))), (2, (.const (.int .i64 2)))]) none,
  .mk (some 29) (.build 85 #[(0, (.const (.int .i64 65281))), (1, (.const (.int .i64 65376))), (2, (.const (.int .i64 2)))]) none,
  .mk (some 30) (.build 85 #[(0, (.const (.int .i64 65504))), (1, (.const (.int .i64 65510))), (2, (.const (.int .i64 2)))]) none,
  .mk (some 31) (.build 85 #[(0, (.const (.int .i64 127744))), (1, (.const (.int .i64 127776))), (2, (.const (.int .i64 2)))]) none,
  .mk (some 32) (.build 85 #[(0, (.const (.int .i64 127789))), (1, (.const (.int .i64 127797))), (2, (.const (.int .i64 2)))]) none,
  .mk (some 33) (.build 85 #[(0, (.const (.int .i64 127799))), (1, (.const (.int .i64 127868))), (2, (.const (.int .i64 2)))]) none,
  .mk (some 34) (.build 85 #[(0, (.const (.int .i64 127870))), (1, (.const (.int .i64 127891))), (2, (.const (.int .i64 2)))]) none,
  .mk (some 35) (.build 85 #[(0, (.const (.int .i64 127904))), (1, (.const (.int .i64 127946))), (2, (.const (.int .i64 2)))]) none,
  .mk (some 36) (.build 85 #[(0, (.const (.int .i64 128000))), (1, (.const (.int .i64 128062))), (2, (.const (.int .i64 2)))]) none,
  .mk (some 37) (.build 85 #[(0, (.const (.int .i64 128066))), (1, (.const (.int .i64 128252))), (2, (.const (.int .i64 2)))]) none,
  .mk (some 38) (.build 85 #[(0, (.const (.int .i64 128512))), (1, (.const (.int .i64 128591))), (2, (.const (.int .i64 2)))]) none,
  .mk (some 39) (.build 85 #[(0, (.const (.int .i64 128640))), (1, (.const (.int .i64 128709))), (2, (.const (.int .i64 2)))]) none,
  .mk (some 40) (.build 85 #[(0, (.const (.int .i64 131072))), (1, (.const (.int .i64 196605))), (2, (.const (.int .i64 2)))]) none,
  .mk (some 41) (.build 85 #[(0, (.const (.int .i64 196608))), (1, (.const (.int .i64 262141))), (2, (.const (.int .i64 2)))]) none,
  .mk (some 42) (.buildSlice 52 41 #[(0, (.tmp 1)), (1, (.tmp 2)), (2, (.tmp 3)), (3, (.tmp 4)), (4, (.tmp 5)), (5, (.tmp 6)), (6, (.tmp 7)), (7, (.tmp 8)), (8, (.tmp 9)), (9, (.tmp 10)), (10, (.tmp 11)), (11, (.tmp 12)), (12, (.tmp 13)), (13, (.tmp 14)), (14, (.tmp 15)), (15, (.tmp 16)), (16, (.tmp 17)), (17, (.tmp 18)), (18, (.tmp 19)), (19, (.tmp 20)), (20, (.tmp 21)), (21, (.tmp 22)), (22, (.tmp 23)), (23, (.tmp 24)), (24, (.tmp 25)), (25, (.tmp 26)), (26, (.tmp 27)), (27, (.tmp 28)), (28, (.tmp 29)), (29, (.tmp 30)), (30, (.tmp 31)), (31, (.tmp 32)), (32, (.tmp 33)), (33, (.tmp 34)), (34, (.tmp 35)), (35, (.tmp 36)), (36, (.tmp 37)), (37, (.tmp 38)), (38, (.tmp 39)), (39, (.tmp 40)), (40, (.tmp 41))]) none,
  .mk (some 0) (.assign (.tmp 42)) none]
def c25 : PC := (.seq (.reg false r25_0) (.seq (.reg false r25_1) .ret))
theorem e25 {args : List PV} {h : Heap} {K : PV → Heap → Prop} (hl : args.length = 0) (s : pwp Try.prog [] c25 (fin Try.prog [.tmp 0] h K) (slots0 (olds args)) h) : CanP Try.prog 25 args h K :=
  can_of2 (n := 43) mixed Try.func25 rfl (by kernel_rfl) (by rw [hl]; kernel_rfl) rfl (by kernel_rfl) s
/-! ### naskh.width.New: function 9 -/
def r9_0 : List PS := [.mk (some 2) (.assign (.const (.pointer none))) none]
def r9_1 : List PS := [.mk (some 6) (.call ⟨(.value (.func 25)), #[], #[]⟩) none,
  .mk (some 7) (.call ⟨(.value (.func 21)), #[(.tmp 6), (.const (.int .i64 1))], #[52, 3]⟩) none,
  .mk (some 5) (.move (.tmp 7)) none,
  .mk (some 8) (.extract (.tmp 5) 0) none,
  .mk (some 9) (.extract (.tmp 5) 1) none,
  .mk (some 3) (.assign (.tmp 8)) none,
  .mk (some 4) (.assign (.tmp 9)) none]
def r9_2 : List PS := [.mk (some 10) (.move (.tmp 4)) none,
  .mk (some 11) (.binOp .neq 27 (.tmp 10) (.const (.int .i64 0)) 27) none]
def r9_3 : List PS := [.mk (some 2) (.assign (.const (.pointer none))) none]
def r9_4 : List PS := [.mk (some 12) (.move (.tmp 3)) none,
  .mk (some 13) (.move (.tmp 0)) none,
  .mk (some 14) (.build 60 #[(0, (.tmp 12)), (1, (.tmp 13))]) none,
  .mk (some 15) (.build 62 #[(0, (.tmp 14))]) none,
  .mk (some 16) (.box 62 (.tmp 15)) none,
  .mk (some 2) (.assign (.tmp 16)) none]
def c9 : PC := (.seq (.reg false r9_0) (.seq (.reg false r9_1) (.seq (.seq (.reg false r9_2) (.cond (.tmp 11) (.seq (.reg false r9_3) .ret) .skip)) (.seq (.reg false r9_4) .ret))))
theorem e9 {args : List PV} {h : Heap} {K : PV → Heap → Prop} (hl : args.length = 1) (s : pwp Try.prog [] c9 (fin Try.prog [.tmp 2] h K) (slots0 (olds args)) h) : CanP Try.prog 9 args h K :=
  can_of2 (n := 17) mixed Try.func9 rfl (by kernel_rfl) (by rw [hl]; kernel_rfl) rfl (by kernel_rfl) s
/-! ### naskh.props.each: function 57 -/
def r57_0 : List PS := [.mk (some 4) (.assign (.const (.slice none 0 0))) none]
def r57_1 : List PS := [.mk (some 8) (.move (.tmp 0)) none,
  .mk (some 9) (.call ⟨(.builtin .len), #[(.tmp 8)], #[22]⟩) none,
  .mk (some 10) (.makeSlice 22 (.tmp 9) (.tmp 9)) none,
  .mk (some 5) (.assign (.tmp 10)) none]
def r57_2 : List PS := [.mk (some 11) (.move (.tmp 0)) none,
  .mk (some 12) (.call ⟨(.builtin .len), #[(.tmp 11)], #[22]⟩) none,
  .mk (some 13) (.move (.const (.int .i64 0))) none]
def r57_3 : List PS := [.mk (some 14) (.binOp .lss 3 (.tmp 13) (.tmp 12) 3) none]
def r57_4 : List PS := [.mk (some 15) (.move (.tmp 13)) none,
  .mk (some 16) (.indexAddr 22 (.tmp 11) (.tmp 13)) none,
  .mk (some 17) (.load 3 (.tmp 16)) none,
  .mk (some 6) (.assign (.tmp 15)) none,
  .mk (some 7) (.assign (.tmp 17)) none]
def r57_5 : List PS := [.mk (some 18) (.move (.tmp 5)) none,
  .mk (some 19) (.move (.tmp 6)) none,
  .mk (some 20) (.move (.tmp 1)) none,
  .mk (some 21) (.move (.tmp 7)) none,
  .mk (some 22) (.call ⟨(.value (.tmp 20)), #[(.tmp 21)], #[3]⟩) none,
  .mk (some 23) (.indexAddr 22 (.tmp 18) (.tmp 19)) none,
  .mk none (.store 3 (.tmp 23) (.tmp 22)) none]
def r57_6 : List PS := [.mk (some 24) (.binOp .add 3 (.tmp 13) (.const (.int .i64 1)) 3) none,
  .mk (some 13) (.move (.tmp 24)) none]
def r57_7 : List PS := [.mk (some 25) (.move (.tmp 5)) none,
  .mk (some 4) (.assign (.tmp 25)) none]
def c57 : PC := (.seq (.reg false r57_0) (.seq (.reg false r57_1) (.seq (.seq (.reg false r57_2) (.block 0 (.loop (.seq (.reg false r57_3) (.seq (.cond (.tmp 14) .skip (.exit 0)) (.seq (.block 1 (.seq (.reg false r57_4) (.reg false r57_5))) (.reg false r57_6))))))) (.seq (.reg false r57_7) .ret))))
theorem e57 {args : List PV} {h : Heap} {K : PV → Heap → Prop} (hl : args.length = 2) (s : pwp Try.prog [] c57 (fin Try.prog [.tmp 4] h K) (slots0 (olds args)) h) : CanP Try.prog 57 args h K :=
  can_of2 (n := 26) mixed Try.func57 rfl (by kernel_rfl) (by rw [hl]; kernel_rfl) rfl (by kernel_rfl) s
/-! ### (*naskh.trie.Table).has: function 62 -/
def r62_0 : List PS := [.mk (some 4) (.assign (.const (.bool false))) none]
def r62_1 : List PS := [.mk (some 5) (.move (.tmp 0)) none,
  .mk (some 6) (.binOp .neq 49 (.tmp 5) (.const (.pointer none)) 49) none,
  .mk (some 7) (.move (.tmp 6)) none,
  .mk (some 8) (.move (.tmp 0)) (some (7, true)),
  .mk (some 9) (.nilCheck (.tmp 8)) (some (7, true)),
  .mk (some 10) (.fieldAddr 78 (.tmp 9) 2) (some (7, true)),
  .mk (some 11) (.load 4 (.tmp 10)) (some (7, true)),
  .mk (some 12) (.pick (.tmp 7) (.tmp 11) (.const (.bool false))) none,
  .mk (some 13) (.move (.tmp 12)) none,
  .mk (some 14) (.move (.tmp 1)) (some (13, true)),
  .mk (some 15) (.binOp .geq 3 (.tmp 14) (.const (.int .i64 0)) 3) (some (13, true)),
  .mk (some 16) (.pick (.tmp 13) (.tmp 15) (.const (.bool false))) none,
  .mk (some 17) (.move (.tmp 16)) none,
  .mk (some 18) (.move (.tmp 1)) (some (17, true)),
  .mk (some 19) (.binOp .leq 3 (.tmp 18) (.const (.int .i64 1114111)) 3) (some (17, true)),
  .mk (some 20) (.pick (.tmp 17) (.tmp 19) (.const (.bool false))) none,
  .mk (some 4) (.assign (.tmp 20)) none]
def c62 : PC := (.seq (.reg false r62_0) (.seq (.reg false r62_1) .ret))
theorem e62 {args : List PV} {h : Heap} {K : PV → Heap → Prop} (hl : args.length = 2) (s : pwp Try.prog [] c62 (fin Try.prog [.tmp 4] h K) (slots0 (olds args)) h) : CanP Try.prog 62 args h K :=
  can_of2 (n := 21) mixed Try.func62 rfl (by kernel_rfl) (by rw [hl]; kernel_rfl) rfl (by kernel_rfl) s
/-! ### (*naskh.trie.stages).at: function 63 -/
def r63_0 : List PS := [.mk (some 4) (.assign (.const (.int .i64 0))) none]
def r63_1 : List PS := [.mk (some 5) (.move (.tmp 0)) none,
  .mk (some 6) (.nilCheck (.tmp 5)) none,
  .mk (some 7) (.fieldAddr 76 (.tmp 6) 1) none,
  .mk (some 8) (.load 74 (.tmp 7)) none,
  .mk (some 9) (.move (.tmp 0)) none,
  .mk (some 10) (.nilCheck (.tmp 9)) none,
  .mk (some 11) (.fieldAddr 76 (.tmp 10) 0) none,
  .mk (some 12) (.load 22 (.tmp 11)) none,
  .mk (some 13) (.move (.tmp 1)) none,
  .mk (some 14) (.binOp .shr 3 (.tmp 13) (.const (.int .u64 7)) 103) none,
  .mk (some 15) (.indexAddr 22 (.tmp 12) (.tmp 14)) none,
  .mk (some 16) (.load 3 (.tmp 15)) none,
  .mk (some 17) (.move (.tmp 1)) none,
  .mk (some 18) (.binOp .and 3 (.tmp 17) (.const (.int .i64 127)) 3) none,
  .mk (some 19) (.indexAddr 74 (.tmp 8) (.tmp 16)) none,
  .mk (some 20) (.indexAddr 80 (.tmp 19) (.tmp 18)) none,
  .mk (some 21) (.load 3 (.tmp 20)) none,
  .mk (some 4) (.assign (.tmp 21)) none]
def c63 : PC := (.seq (.reg false r63_0) (.seq (.reg true r63_1) .ret))
theorem e63 {args : List PV} {h : Heap} {K : PV → Heap → Prop} (hl : args.length = 2) (s : pwp Try.prog [] c63 (fin Try.prog [.tmp 4] h K) (slots0 (olds args)) h) : CanP Try.prog 63 args h K :=
  can_of2 (n := 22) mixed Try.func63 rfl (by kernel_rfl) (by rw [hl]; kernel_rfl) rfl (by kernel_rfl) s
/-! ### (*naskh.trie.Table).Get: function 47 -/
def r47_0 : List PS := [.mk (some 4) (.assign (.const (.int .i64 0))) none]
def r47_1 : List PS := [.mk (some 6) (.move (.tmp 0)) none,
  .mk (some 7) (.move (.tmp 1)) none,
  .mk (some 8) (.call ⟨(.value (.func 62)), #[(.tmp 6), (.tmp 7)], #[49, 3]⟩) none,
  .mk (some 5) (.assign (.tmp 8)) none]
def r47_2 : List PS := [.mk (some 9) (.move (.tmp 0)) none,
  .mk (some 10) (.nilCheck (.tmp 9)) none,
  .mk (some 11) (.fieldAddr 78 (.tmp 10) 0) none,
  .mk (some 12) (.move (.tmp 1)) none,
  .mk (some 13) (.call ⟨(.value (.func 63)), #[(.tmp 11), (.tmp 12)], #[76, 3]⟩) none,
  .mk (some 4) (.assign (.tmp 13)) none]
def r47_3 : List PS := [.mk (some 15) (.move (.tmp 0)) none,
  .mk (some 16) (.binOp .eql 49 (.tmp 15) (.const (.pointer none)) 49) none,
  .mk (some 14) (.assign (.tmp 16)) none]
def r47_4 : List PS := [.mk (some 4) (.assign (.const (.int .i64 0))) none]
def r47_5 : List PS := [.mk (some 17) (.move (.tmp 0)) none,
  .mk (some 18) (.nilCheck (.tmp 17)) none,
  .mk (some 19) (.fieldAddr 78 (.tmp 18) 1) none,
  .mk (some 20) (.load 3 (.tmp 19)) none,
  .mk (some 4) (.assign (.tmp 20)) none]
def c47 : PC := (.seq (.reg false r47_0) (.seq (.block 0 (.seq (.reg false r47_1) (.cond (.tmp 5) (.seq (.reg false r47_2) .ret) (.seq (.reg false r47_3) (.cond (.tmp 14) (.seq (.reg false r47_4) .ret) .skip))))) (.seq (.reg false r47_5) .ret)))
theorem e47 {args : List PV} {h : Heap} {K : PV → Heap → Prop} (hl : args.length = 2) (s : pwp Try.prog [] c47 (fin Try.prog [.tmp 4] h K) (slots0 (olds args)) h) : CanP Try.prog 47 args h K :=
  can_of2 (n := 21) mixed Try.func47 rfl (by kernel_rfl) (by rw [hl]; kernel_rfl) rfl (by kernel_rfl) s
/-! ### (*naskh.props.Props).made: function 61 -/
def r61_0 : List PS := [.mk (some 2) (.assign (.const (.bool false))) none]
def r61_1 : List PS := [.mk (some 3) (.move (.tmp 0)) none,
  .mk (some 4) (.binOp .neq 24 (.tmp 3) (.const (.pointer none)) 24) none,
  .mk (some 5) (.move (.tmp 4)) none,
  .mk (some 6) (.move (.tmp 0)) (some (5, true)),
  .mk (some 7) (.nilCheck (.tmp 6)) (some (5, true)),
  .mk (some 8) (.fieldAddr 57 (.tmp 7) 0) (some (5, true)),
  .mk (some 9) (.fieldAddr 55 (.tmp 8) 0) (some (5, true)),
  .mk (some 10) (.load 49 (.tmp 9)) (some (5, true)),
  .mk (some 11) (.binOp .neq 49 (.tmp 10) (.const (.pointer none)) 49) (some (5, true)),
  .mk (some 12) (.pick (.tmp 5) (.tmp 11) (.const (.bool false))) none,
  .mk (some 2) (.assign (.tmp 12)) none]
def c61 : PC := (.seq (.reg false r61_0) (.seq (.reg false r61_1) .ret))
theorem e61 {args : List PV} {h : Heap} {K : PV → Heap → Prop} (hl : args.length = 1) (s : pwp Try.prog [] c61 (fin Try.prog [.tmp 2] h K) (slots0 (olds args)) h) : CanP Try.prog 61 args h K :=
  can_of2 (n := 13) mixed Try.func61 rfl (by kernel_rfl) (by rw [hl]; kernel_rfl) rfl (by kernel_rfl) s
/-! ### naskh.props.code: function 68 -/
def r68_0 : List PS := [.mk (some 2) (.assign (.const (.bool false))) none]
def r68_1 : List PS := [.mk (some 3) (.move (.tmp 0)) none,
  .mk (some 4) (.binOp .geq 3 (.tmp 3) (.const (.int .i64 0)) 3) none,
  .mk (some 5) (.move (.tmp 4)) none,
  .mk (some 6) (.move (.tmp 0)) (some (5, true)),
  .mk (some 7) (.binOp .leq 3 (.tmp 6) (.const (.int .i64 1114111)) 3) (some (5, true)),
  .mk (some 8) (.pick (.tmp 5) (.tmp 7) (.const (.bool false))) none,
  .mk (some 2) (.assign (.tmp 8)) none]
def c68 : PC := (.seq (.reg false r68_0) (.seq (.reg false r68_1) .ret))
theorem e68 {args : List PV} {h : Heap} {K : PV → Heap → Prop} (hl : args.length = 1) (s : pwp Try.prog [] c68 (fin Try.prog [.tmp 2] h K) (slots0 (olds args)) h) : CanP Try.prog 68 args h K :=
  can_of2 (n := 9) mixed Try.func68 rfl (by kernel_rfl) (by rw [hl]; kernel_rfl) rfl (by kernel_rfl) s
/-! ### (*naskh.props.Props).Class: function 58 -/
def r58_0 : List PS := [.mk (some 4) (.assign (.const (.int .i64 0))) none]
def r58_1 : List PS := [.mk (some 5) (.move (.tmp 0)) none,
  .mk (some 6) (.call ⟨(.value (.func 61)), #[(.tmp 5)], #[24]⟩) none,
  .mk (some 7) (.unOp .not 4 (.tmp 6)) none,
  .mk (some 8) (.move (.tmp 7)) none,
  .mk (some 9) (.move (.tmp 1)) (some (8, false)),
  .mk (some 10) (.call ⟨(.value (.func 68)), #[(.tmp 9)], #[3]⟩) (some (8, false)),
  .mk (some 11) (.unOp .not 4 (.tmp 10)) (some (8, false)),
  .mk (some 12) (.pick (.tmp 8) (.const (.bool true)) (.tmp 11)) none]
def r58_2 : List PS := [.mk (some 4) (.assign (.const (.int .i64 13))) none]
def r58_3 : List PS := [.mk (some 13) (.move (.tmp 0)) none,
  .mk (some 14) (.nilCheck (.tmp 13)) none,
  .mk (some 15) (.fieldAddr 57 (.tmp 14) 0) none,
  .mk (some 16) (.fieldAddr 55 (.tmp 15) 0) none,
  .mk (some 17) (.load 49 (.tmp 16)) none,
  .mk (some 18) (.move (.tmp 1)) none,
  .mk (some 19) (.call ⟨(.value (.func 47)), #[(.tmp 17), (.tmp 18)], #[49, 3]⟩) none,
  .mk (some 4) (.assign (.tmp 19)) none]
def c58 : PC := (.seq (.reg false r58_0) (.seq (.seq (.reg false r58_1) (.cond (.tmp 12) (.seq (.reg false r58_2) .ret) .skip)) (.seq (.reg false r58_3) .ret)))
theorem e58 {args : List PV} {h : Heap} {K : PV → Heap → Prop} (hl : args.length = 2) (s : pwp Try.prog [] c58 (fin Try.prog [.tmp 4] h K) (slots0 (olds args)) h) : CanP Try.prog 58 args h K :=
  can_of2 (n := 20) mixed Try.func58 rfl (by kernel_rfl) (by rw [hl]; kernel_rfl) rfl (by kernel_rfl) s
/-! ### (*naskh.props.Props).Classes: function 40 -/
def r40_0 : List PS := [.mk (some 4) (.assign (.const (.slice none 0 0))) none]
def r40_1 : List PS := [.mk (some 5) (.move (.tmp 1)) none,
  .mk (some 6) (.move (.tmp 0)) none,
  .mk (some 7) (.makeFunc (.func 58) #[(.tmp 6)] #[]) none,
  .mk (some 8) (.call ⟨(.value (.func 57)), #[(.tmp 5), (.tmp 7)], #[22, 34]⟩) none,
  .mk (some 4) (.assign (.tmp 8)) none]
def c40 : PC := (.seq (.reg false r40_0) (.seq (.reg false r40_1) .ret))
theorem e40 {args : List PV} {h : Heap} {K : PV → Heap → Prop} (hl : args.length = 2) (s : pwp Try.prog [] c40 (fin Try.prog [.tmp 4] h K) (slots0 (olds args)) h) : CanP Try.prog 40 args h K :=
  can_of2 (n := 9) mixed Try.func40 rfl (by kernel_rfl) (by rw [hl]; kernel_rfl) rfl (by kernel_rfl) s
/-! ### naskh.para.Split: function 41 -/
def r41_0 : List PS := [.mk (some 4) (.assign (.const (.slice none 0 0))) none]
def r41_1 : List PS := [.mk (some 5) (.assign (.const (.slice none 0 0))) none]
def r41_2 : List PS := [.mk (some 10) (.build 33 #[]) none,
  .mk (some 6) (.alloc 33) none,
  .mk none (.store 33 (.tmp 6) (.tmp 10)) none]
def r41_3 : List PS := [.mk (some 11) (.move (.tmp 1)) none,
  .mk (some 12) (.call ⟨(.builtin .len), #[(.tmp 11)], #[22]⟩) none,
  .mk (some 13) (.move (.const (.int .i64 0))) none]
def r41_4 : List PS := [.mk (some 14) (.binOp .lss 3 (.tmp 13) (.tmp 12) 3) none]
def r41_5 : List PS := [.mk (some 15) (.move (.tmp 13)) none,
  .mk (some 16) (.indexAddr 22 (.tmp 11) (.tmp 13)) none,
  .mk (some 17) (.load 3 (.tmp 16)) none,
  .mk (some 7) (.assign (.tmp 15)) none,
  .mk (some 8) (.assign (.tmp 17)) none]
def r41_6 : List PS := [.mk (some 18) (.move (.tmp 7)) none,
  .mk (some 19) (.binOp .add 3 (.tmp 18) (.const (.int .i64 1)) 3) none,
  .mk (some 20) (.fieldAddr 33 (.tmp 6) 1) none,
  .mk none (.store 3 (.tmp 20) (.tmp 19)) none]
def r41_7 : List PS := [.mk (some 21) (.move (.tmp 8)) none,
  .mk (some 22) (.binOp .eql 3 (.tmp 21) (.const (.int .i64 13)) 3) none,
  .mk (some 23) (.move (.tmp 22)) none,
  .mk (some 24) (.move (.tmp 7)) (some (23, true)),
  .mk (some 25) (.binOp .add 3 (.tmp 24) (.const (.int .i64 1)) 3) (some (23, true)),
  .mk (some 26) (.move (.tmp 1)) (some (23, true)),
  .mk (some 27) (.call ⟨(.builtin .len), #[(.tmp 26)], #[22]⟩) (some (23, true)),
  .mk (some 28) (.binOp .lss 3 (.tmp 25) (.tmp 27) 3) (some (23, true)),
  .mk (some 29) (.pick (.tmp 23) (.tmp 28) (.const (.bool false))) none,
  .mk (some 30) (.move (.tmp 29)) none,
  .mk (some 31) (.move (.tmp 1)) (some (30, true)),
  .mk (some 32) (.move (.tmp 7)) (some (30, true)),
  .mk (some 33) (.binOp .add 3 (.tmp 32) (.const (.int .i64 1)) 3) (some (30, true)),
  .mk (some 34) (.indexAddr 22 (.tmp 31) (.tmp 33)) (some (30, true)),
  .mk (some 35) (.load 3 (.tmp 34)) (some (30, true)),
  .mk (some 36) (.binOp .eql 3 (.tmp 35) (.const (.int .i64 10)) 3) (some (30, true)),
  .mk (some 37) (.pick (.tmp 30) (.tmp 36) (.const (.bool false))) none,
  .mk (some 9) (.assign (.tmp 37)) none]
def r41_8 : List PS := [.mk (some 38) (.move (.tmp 0)) none,
  .mk (some 39) (.move (.tmp 8)) none,
  .mk (some 40) (.call ⟨(.value (.func 58)), #[(.tmp 38), (.tmp 39)], #[24, 3]⟩) none,
  .mk (some 41) (.binOp .neq 3 (.tmp 40) (.const (.int .i64 10)) 3) none,
  .mk (some 42) (.move (.tmp 41)) none,
  .mk (some 43) (.move (.tmp 9)) (some (42, false)),
  .mk (some 44) (.pick (.tmp 42) (.const (.bool true)) (.tmp 43)) none]
def r41_9 : List PS := [.mk (some 45) (.move (.tmp 5)) none,
  .mk (some 46) (.load 33 (.tmp 6)) none,
  .mk (some 47) (.buildSlice 26 1 #[(0, (.tmp 46))]) none,
  .mk (some 48) (.call ⟨(.builtin .append), #[(.tmp 45), (.tmp 47)], #[26, 26]⟩) none,
  .mk (some 5) (.assign (.tmp 48)) none]
def r41_10 : List PS := [.mk (some 49) (.move (.tmp 7)) none,
  .mk (some 50) (.binOp .add 3 (.tmp 49) (.const (.int .i64 1)) 3) none,
  .mk (some 51) (.build 33 #[(0, (.tmp 50))]) none,
  .mk none (.store 33 (.tmp 6) (.tmp 51)) none]
def r41_11 : List PS := [.mk (some 52) (.binOp .add 3 (.tmp 13) (.const (.int .i64 1)) 3) none,
  .mk (some 13) (.move (.tmp 52)) none]
def r41_12 : List PS := [.mk (some 53) (.fieldAddr 33 (.tmp 6) 1) none,
  .mk (some 54) (.load 3 (.tmp 53)) none,
  .mk (some 55) (.fieldAddr 33 (.tmp 6) 0) none,
  .mk (some 56) (.load 3 (.tmp 55)) none,
  .mk (some 57) (.binOp .gtr 3 (.tmp 54) (.tmp 56) 3) none]
def r41_13 : List PS := [.mk (some 58) (.move (.tmp 5)) none,
  .mk (some 59) (.load 33 (.tmp 6)) none,
  .mk (some 60) (.buildSlice 26 1 #[(0, (.tmp 59))]) none,
  .mk (some 61) (.call ⟨(.builtin .append), #[(.tmp 58), (.tmp 60)], #[26, 26]⟩) none,
  .mk (some 5) (.assign (.tmp 61)) none]
def r41_14 : List PS := [.mk (some 62) (.move (.tmp 5)) none,
  .mk (some 4) (.assign (.tmp 62)) none]
def c41 : PC := (.seq (.reg false r41_0) (.seq (.reg false r41_1) (.seq (.reg false r41_2) (.seq (.seq (.reg false r41_3) (.block 0 (.loop (.seq (.reg false r41_4) (.seq (.cond (.tmp 14) .skip (.exit 0)) (.seq (.block 1 (.seq (.reg false r41_5) (.seq (.reg false r41_6) (.seq (.reg false r41_7) (.seq (.seq (.reg false r41_8) (.cond (.tmp 44) (.exit 1) .skip)) (.seq (.reg false r41_9) (.reg false r41_10))))))) (.reg false r41_11))))))) (.seq (.seq (.reg false r41_12) (.cond (.tmp 57) (.reg false r41_13) .skip)) (.seq (.reg false r41_14) .ret))))))
theorem e41 {args : List PV} {h : Heap} {K : PV → Heap → Prop} (hl : args.length = 2) (s : pwp Try.prog [6] c41 (fin Try.prog [.tmp 4] h K) (slots0 (olds args)) h) : CanP Try.prog 41 args h K :=
  can_of2 (n := 63) mixed Try.func41 rfl (by kernel_rfl) (by rw [hl]; kernel_rfl) rfl (by kernel_rfl) s
/-! ### naskh.wrap.newText: function 27 -/
def r27_0 : List PS := [.mk (some 6) (.assign (.const (.pointer none))) none]
def r27_1 : List PS := [.mk (some 7) (.move (.tmp 2)) none,
  .mk (some 8) (.move (.tmp 0)) none,
  .mk (some 9) (.move (.tmp 2)) none,
  .mk (some 10) (.call ⟨(.value (.func 40)), #[(.tmp 8), (.tmp 9)], #[24, 22]⟩) none,
  .mk (some 11) (.move (.tmp 0)) none,
  .mk (some 12) (.move (.tmp 2)) none,
  .mk (some 13) (.call ⟨(.value (.func 41)), #[(.tmp 11), (.tmp 12)], #[24, 22]⟩) none,
  .mk (some 14) (.move (.tmp 1)) none,
  .mk (some 15) (.build 89 #[(0, (.tmp 7)), (1, (.tmp 10)), (2, (.tmp 13)), (3, (.tmp 14))]) none,
  .mk (some 16) (.box 89 (.tmp 15)) none,
  .mk (some 6) (.assign (.tmp 16)) none]
def c27 : PC := (.seq (.reg false r27_0) (.seq (.reg false r27_1) .ret))
theorem e27 {args : List PV} {h : Heap} {K : PV → Heap → Prop} (hl : args.length = 3) (s : pwp Try.prog [] c27 (fin Try.prog [.tmp 6] h K) (slots0 (olds args)) h) : CanP Try.prog 27 args h K :=
  can_of2 (n := 17) mixed Try.func27 rfl (by kernel_rfl) (by rw [hl]; kernel_rfl) rfl (by kernel_rfl) s
/-! ### (*naskh.wrap.text).limit: function 42 -/
def r42_0 : List PS := [.mk (some 4) (.assign (.const (.int .i64 0))) none]
def r42_1 : List PS := [.mk (some 7) (.move (.tmp 0)) none,
  .mk (some 8) (.nilCheck (.tmp 7)) none,
  .mk (some 9) (.fieldAddr 89 (.tmp 8) 2) none,
  .mk (some 10) (.load 26 (.tmp 9)) none,
  .mk (some 11) (.call ⟨(.builtin .len), #[(.tmp 10)], #[26]⟩) none,
  .mk (some 12) (.move (.const (.int .i64 0))) none]
def r42_2 : List PS := [.mk (some 13) (.binOp .lss 3 (.tmp 12) (.tmp 11) 3) none]
def r42_3 : List PS := [.mk (some 14) (.indexAddr 26 (.tmp 10) (.tmp 12)) none,
  .mk (some 15) (.load 33 (.tmp 14)) none,
  .mk (some 6) (.alloc 33) none,
  .mk none (.store 33 (.tmp 6) (.tmp 15)) none,
  .frz 6]
def r42_4 : List PS := [.mk (some 16) (.fieldAddr 33 (.tmp 6) 0) none,
  .mk (some 17) (.load 3 (.tmp 16)) none,
  .mk (some 18) (.move (.tmp 1)) none,
  .mk (some 19) (.binOp .gtr 3 (.tmp 17) (.tmp 18) 3) none]
def r42_5 : List PS := [.mk (some 20) (.fieldAddr 33 (.tmp 6) 0) none,
  .mk (some 21) (.load 3 (.tmp 20)) none,
  .mk (some 4) (.assign (.tmp 21)) none]
def r42_6 : List PS := [.mk (some 22) (.binOp .add 3 (.tmp 12) (.const (.int .i64 1)) 3) none,
  .mk (some 12) (.move (.tmp 22)) none]
def r42_7 : List PS := [.mk (some 23) (.move (.tmp 0)) none,
  .mk (some 24) (.nilCheck (.tmp 23)) none,
  .mk (some 25) (.fieldAddr 89 (.tmp 24) 0) none,
  .mk (some 26) (.load 22 (.tmp 25)) none,
  .mk (some 27) (.call ⟨(.builtin .len), #[(.tmp 26)], #[22]⟩) none,
  .mk (some 4) (.assign (.tmp 27)) none]
def c42 : PC := (.seq (.reg false r42_0) (.seq (.seq (.reg false r42_1) (.block 0 (.loop (.seq (.reg false r42_2) (.seq (.cond (.tmp 13) .skip (.exit 0)) (.seq (.block 1 (.seq (.reg false r42_3) (.seq (.reg false r42_4) (.cond (.tmp 19) (.seq (.reg false r42_5) .ret) .skip)))) (.reg false r42_6))))))) (.seq (.reg false r42_7) .ret)))
theorem e42 {args : List PV} {h : Heap} {K : PV → Heap → Prop} (hl : args.length = 2) (s : pwp Try.prog [6] c42 (fin Try.prog [.tmp 4] h K) (slots0 (olds args)) h) : CanP Try.prog 42 args h K :=
  can_of2 (n := 28) mixed Try.func42 rfl (by kernel_rfl) (by rw [hl]; kernel_rfl) rfl (by kernel_rfl) s
/-! ### slices.BinarySearchFunc[[]naskh.api.Span,naskh.api.Span,int]: function 70 -/
def r70_0 : List PS := [.mk (some 6) (.assign (.const (.int .i64 0))) none,
  .mk (some 7) (.assign (.const (.bool false))) none]
def r70_1 : List PS := [.mk (some 12) (.move (.tmp 0)) none,
  .mk (some 13) (.call ⟨(.builtin .len), #[(.tmp 12)], #[26]⟩) none,
  .mk (some 8) (.assign (.tmp 13)) none]
def r70_2 : List PS := [.mk (some 14) (.move (.tmp 8)) none,
  .mk (some 9) (.assign (.const (.int .i64 0))) none,
  .mk (some 10) (.assign (.tmp 14)) none]
def r70_3 : List PS := [.mk (some 15) (.move (.tmp 9)) none,
  .mk (some 16) (.move (.tmp 10)) none,
  .mk (some 17) (.binOp .lss 3 (.tmp 15) (.tmp 16) 3) none]
def r70_4 : List PS := [.mk (some 18) (.move (.tmp 9)) none,
  .mk (some 19) (.move (.tmp 10)) none,
  .mk (some 20) (.binOp .add 3 (.tmp 18) (.tmp 19) 3) none,
  .mk (some 21) (.convert 3 103 (.tmp 20)) none,
  .mk (some 22) (.binOp .shr 103 (.tmp 21) (.const (.int .u64 1)) 103) none,
  .mk (some 23) (.convert 103 3 (.tmp 22)) none,
  .mk (some 11) (.assign (.tmp 23)) none]
def r70_5 : List PS := [.mk (some 24) (.move (.tmp 2)) none,
  .mk (some 25) (.move (.tmp 0)) none,
  .mk (some 26) (.move (.tmp 11)) none,
  .mk (some 27) (.indexAddr 26 (.tmp 25) (.tmp 26)) none,
  .mk (some 28) (.load 33 (.tmp 27)) none,
  .mk (some 29) (.move (.tmp 1)) none,
  .mk (some 30) (.call ⟨(.value (.tmp 24)), #[(.tmp 28), (.tmp 29)], #[33, 3]⟩) none,
  .mk (some 31) (.binOp .lss 3 (.tmp 30) (.const (.int .i64 0)) 3) none]
def r70_6 : List PS := [.mk (some 32) (.move (.tmp 11)) none,
  .mk (some 33) (.binOp .add 3 (.tmp 32) (.const (.int .i64 1)) 3) none,
  .mk (some 9) (.assign (.tmp 33)) none]
def r70_7 : List PS := [.mk (some 34) (.move (.tmp 11)) none,
  .mk (some 10) (.assign (.tmp 34)) none]
def r70_8 : List PS := [.mk (some 35) (.move (.tmp 9)) none,
  .mk (some 36) (.move (.tmp 9)) none,
  .mk (some 37) (.move (.tmp 8)) none,
  .mk (some 38) (.binOp .lss 3 (.tmp 36) (.tmp 37) 3) none,
  .mk (some 39) (.move (.tmp 38)) none,
  .mk (some 40) (.move (.tmp 2)) (some (39, true)),
  .mk (some 41) (.move (.tmp 0)) (some (39, true)),
  .mk (some 42) (.move (.tmp 9)) (some (39, true)),
  .mk (some 43) (.indexAddr 26 (.tmp 41) (.tmp 42)) (some (39, true)),
  .mk (some 44) (.load 33 (.tmp 43)) (some (39, true)),
  .mk (some 45) (.move (.tmp 1)) (some (39, true)),
  .mk (some 46) (.call ⟨(.value (.tmp 40)), #[(.tmp 44), (.tmp 45)], #[33, 3]⟩) (some (39, true)),
  .mk (some 47) (.binOp .eql 3 (.tmp 46) (.const (.int .i64 0)) 3) (some (39, true)),
  .mk (some 48) (.pick (.tmp 39) (.tmp 47) (.const (.bool false))) none,
  .mk (some 6) (.assign (.tmp 35)) none,
  .mk (some 7) (.assign (.tmp 48)) none]
def c70 : PC := (.seq (.reg false r70_0) (.seq (.reg false r70_1) (.seq (.reg false r70_2) (.seq (.block 0 (.loop (.seq (.seq (.reg false r70_3) (.cond (.tmp 17) .skip (.exit 0))) (.block 1 (.seq (.reg false r70_4) (.seq (.reg false r70_5) (.cond (.tmp 31) (.reg false r70_6) (.reg false r70_7)))))))) (.seq (.reg false r70_8) .ret)))))
theorem e70 {args : List PV} {h : Heap} {K : PV → Heap → Prop} (hl : args.length = 3) (s : pwp Try.prog [] c70 (fin Try.prog [.tmp 6, .tmp 7] h K) (slots0 (olds args)) h) : CanP Try.prog 70 args h K :=
  can_of2 (n := 49) mixed Try.func70 rfl (by kernel_rfl) (by rw [hl]; kernel_rfl) rfl (by kernel_rfl) s
/-! ### (*naskh.wrap.text).begins$1: function 71 -/
def r71_0 : List PS := [.mk (some 2) (.box 33 (.tmp 0)) none,
  .mk (some 4) (.assign (.const (.int .i64 0))) none]
def r71_1 : List PS := [.mk (some 5) (.fieldAddr 33 (.tmp 2) 0) none,
  .mk (some 6) (.load 3 (.tmp 5)) none,
  .mk (some 7) (.move (.tmp 1)) none,
  .mk (some 8) (.binOp .sub 3 (.tmp 6) (.tmp 7) 3) none,
  .mk (some 4) (.assign (.tmp 8)) none]
def c71 : PC := (.seq (.reg false r71_0) (.seq (.reg false r71_1) .ret))
theorem e71 {args : List PV} {h : Heap} {K : PV → Heap → Prop} (hl : args.length = 2) (s : pwp Try.prog [] c71 (fin Try.prog [.tmp 4] h K) (slots0 (olds args)) h) : CanP Try.prog 71 args h K :=
  can_of2 (n := 9) mixed Try.func71 rfl (by kernel_rfl) (by rw [hl]; kernel_rfl) rfl (by kernel_rfl) s
/-! ### (*naskh.wrap.text).begins: function 67 -/
def r67_0 : List PS := [.mk (some 4) (.assign (.const (.bool false))) none]
def r67_1 : List PS := [.mk (some 8) (.move (.tmp 0)) none,
  .mk (some 9) (.nilCheck (.tmp 8)) none,
  .mk (some 10) (.fieldAddr 89 (.tmp 9) 2) none,
  .mk (some 11) (.load 26 (.tmp 10)) none,
  .mk (some 12) (.move (.tmp 1)) none,
  .mk (some 13) (.call ⟨(.value (.func 70)), #[(.tmp 11), (.tmp 12), (.func 71)], #[26, 3, 105]⟩) none,
  .mk (some 7) (.move (.tmp 13)) none,
  .mk (some 14) (.extract (.tmp 7) 0) none,
  .mk (some 15) (.extract (.tmp 7) 1) none,
  .mk (some 5) (.assign (.tmp 14)) none,
  .mk (some 6) (.assign (.tmp 15)) none]
def r67_2 : List PS := [.mk (some 16) (.move (.tmp 6)) none,
  .mk (some 4) (.assign (.tmp 16)) none]
def c67 : PC := (.seq (.reg false r67_0) (.seq (.reg false r67_1) (.seq (.reg false r67_2) .ret)))
theorem e67 {args : List PV} {h : Heap} {K : PV → Heap → Prop} (hl : args.length = 2) (s : pwp Try.prog [] c67 (fin Try.prog [.tmp 4] h K) (slots0 (olds args)) h) : CanP Try.prog 67 args h K :=
  can_of2 (n := 17) mixed Try.func67 rfl (by kernel_rfl) (by rw [hl]; kernel_rfl) rfl (by kernel_rfl) s
/-! ### (*naskh.wrap.text).may: function 54 -/
def r54_0 : List PS := [.mk (some 4) (.assign (.const (.bool false))) none]
def r54_1 : List PS := [.mk (some 5) (.move (.tmp 0)) none,
  .mk (some 6) (.move (.tmp 1)) none,
  .mk (some 7) (.call ⟨(.value (.func 67)), #[(.tmp 5), (.tmp 6)], #[64, 3]⟩) none]
def r54_2 : List PS := [.mk (some 4) (.assign (.const (.bool true))) none]
def r54_3 : List PS := [.mk (some 8) (.move (.tmp 0)) none,
  .mk (some 9) (.nilCheck (.tmp 8)) none,
  .mk (some 10) (.fieldAddr 89 (.tmp 9) 1) none,
  .mk (some 11) (.load 22 (.tmp 10)) none,
  .mk (some 12) (.move (.tmp 1)) none,
  .mk (some 13) (.binOp .sub 3 (.tmp 12) (.const (.int .i64 1)) 3) none,
  .mk (some 14) (.indexAddr 22 (.tmp 11) (.tmp 13)) none,
  .mk (some 15) (.load 3 (.tmp 14)) none,
  .mk (some 16) (.binOp .neq 3 (.tmp 15) (.const (.int .i64 12)) 3) none]
def r54_4 : List PS := [.mk (some 4) (.assign (.const (.bool false))) none]
def r54_5 : List PS := [.mk (some 17) (.move (.tmp 0)) none,
  .mk (some 18) (.nilCheck (.tmp 17)) none,
  .mk (some 19) (.fieldAddr 89 (.tmp 18) 1) none,
  .mk (some 20) (.load 22 (.tmp 19)) none,
  .mk (some 21) (.move (.tmp 1)) none,
  .mk (some 22) (.indexAddr 22 (.tmp 20) (.tmp 21)) none,
  .mk (some 23) (.load 3 (.tmp 22)) none]
def r54_6 : List PS := [.mk (some 25) (.binOp .eql 3 (.tmp 23) (.const (.int .i64 12)) 3) none,
  .mk (some 24) (.assign (.tmp 25)) none]
def r54_7 : List PS := [.mk (some 26) (.binOp .eql 3 (.tmp 23) (.const (.int .i64 8)) 3) none,
  .mk (some 24) (.assign (.tmp 26)) none]
def r54_8 : List PS := [.mk (some 4) (.assign (.const (.bool false))) none]
def r54_9 : List PS := [.mk (some 4) (.assign (.const (.bool true))) none]
def c54 : PC := (.seq (.reg false r54_0) (.seq (.seq (.reg false r54_1) (.cond (.tmp 7) (.seq (.reg false r54_2) .ret) .skip)) (.seq (.seq (.reg false r54_3) (.cond (.tmp 16) (.seq (.reg false r54_4) .ret) .skip)) (.seq (.seq (.reg false r54_5) (.block 0 (.seq (.seq (.reg false r54_6) (.cond (.tmp 24) .skip (.reg false r54_7))) (.cond (.tmp 24) (.seq (.reg false r54_8) .ret) .skip)))) (.seq (.reg false r54_9) .ret)))))
theorem e54 {args : List PV} {h : Heap} {K : PV → Heap → Prop} (hl : args.length = 2) (s : pwp Try.prog [] c54 (fin Try.prog [.tmp 4] h K) (slots0 (olds args)) h) : CanP Try.prog 54 args h K :=
  can_of2 (n := 27) mixed Try.func54 rfl (by kernel_rfl) (by rw [hl]; kernel_rfl) rfl (by kernel_rfl) s
/-! ### (*naskh.props.Props).is: function 60 -/
def r60_0 : List PS := [.mk (some 6) (.assign (.const (.bool false))) none]
def r60_1 : List PS := [.mk (some 10) (.move (.tmp 0)) none,
  .mk (some 11) (.call ⟨(.value (.func 61)), #[(.tmp 10)], #[24]⟩) none,
  .mk (some 12) (.unOp .not 4 (.tmp 11)) none]
def r60_2 : List PS := [.mk (some 6) (.assign (.const (.bool false))) none]
def r60_3 : List PS := [.mk (some 13) (.move (.tmp 0)) none,
  .mk (some 14) (.move (.tmp 1)) none,
  .mk (some 15) (.call ⟨(.value (.func 58)), #[(.tmp 13), (.tmp 14)], #[24, 3]⟩) none,
  .mk (some 7) (.assign (.tmp 15)) none]
def r60_4 : List PS := [.mk (some 16) (.move (.tmp 2)) none,
  .mk (some 17) (.call ⟨(.builtin .len), #[(.tmp 16)], #[22]⟩) none,
  .mk (some 18) (.move (.const (.int .i64 0))) none]
def r60_5 : List PS := [.mk (some 19) (.binOp .lss 3 (.tmp 18) (.tmp 17) 3) none]
def r60_6 : List PS := [.mk (some 20) (.indexAddr 22 (.tmp 16) (.tmp 18)) none,
  .mk (some 21) (.load 3 (.tmp 20)) none,
  .mk (some 9) (.assign (.tmp 21)) none]
def r60_7 : List PS := [.mk (some 22) (.move (.tmp 7)) none,
  .mk (some 23) (.move (.tmp 9)) none,
  .mk (some 24) (.binOp .eql 3 (.tmp 22) (.tmp 23) 3) none]
def r60_8 : List PS := [.mk (some 6) (.assign (.const (.bool true))) none]
def r60_9 : List PS := [.mk (some 25) (.binOp .add 3 (.tmp 18) (.const (.int .i64 1)) 3) none,
  .mk (some 18) (.move (.tmp 25)) none]
def r60_10 : List PS := [.mk (some 6) (.assign (.const (.bool false))) none]
def c60 : PC := (.seq (.reg false r60_0) (.seq (.seq (.reg false r60_1) (.cond (.tmp 12) (.seq (.reg false r60_2) .ret) .skip)) (.seq (.reg false r60_3) (.seq (.seq (.reg false r60_4) (.block 0 (.loop (.seq (.reg false r60_5) (.seq (.cond (.tmp 19) .skip (.exit 0)) (.seq (.block 1 (.seq (.reg false r60_6) (.seq (.reg false r60_7) (.cond (.tmp 24) (.seq (.reg false r60_8) .ret) .skip)))) (.reg false r60_9))))))) (.seq (.reg false r60_10) .ret)))))
theorem e60 {args : List PV} {h : Heap} {K : PV → Heap → Prop} (hl : args.length = 3) (s : pwp Try.prog [] c60 (fin Try.prog [.tmp 6] h K) (slots0 (olds args)) h) : CanP Try.prog 60 args h K :=
  can_of2 (n := 26) mixed Try.func60 rfl (by kernel_rfl) (by rw [hl]; kernel_rfl) rfl (by kernel_rfl) s
/-! ### (*naskh.props.Props).Mark: function 45 -/
def r45_0 : List PS := [.mk (some 4) (.assign (.const (.bool false))) none]
def r45_1 : List PS := [.mk (some 5) (.move (.tmp 0)) none,
  .mk (some 6) (.move (.tmp 1)) none,
  .mk (some 7) (.buildSlice 22 1 #[(0, (.const (.int .i64 8)))]) none,
  .mk (some 8) (.call ⟨(.value (.func 60)), #[(.tmp 5), (.tmp 6), (.tmp 7)], #[24, 3, 22]⟩) none,
  .mk (some 4) (.assign (.tmp 8)) none]
def c45 : PC := (.seq (.reg false r45_0) (.seq (.reg false r45_1) .ret))
theorem e45 {args : List PV} {h : Heap} {K : PV → Heap → Prop} (hl : args.length = 2) (s : pwp Try.prog [] c45 (fin Try.prog [.tmp 4] h K) (slots0 (olds args)) h) : CanP Try.prog 45 args h K :=
  can_of2 (n := 9) mixed Try.func45 rfl (by kernel_rfl) (by rw [hl]; kernel_rfl) rfl (by kernel_rfl) s
/-! ### (*naskh.props.Props).Control: function 46 -/
def r46_0 : List PS := [.mk (some 4) (.assign (.const (.bool false))) none]
def r46_1 : List PS := [.mk (some 5) (.move (.tmp 1)) none]
def r46_2 : List PS := [.mk (some 7) (.binOp .eql 3 (.tmp 5) (.const (.int .i64 8206)) 3) none,
  .mk (some 6) (.assign (.tmp 7)) none]
def r46_3 : List PS := [.mk (some 8) (.binOp .eql 3 (.tmp 5) (.const (.int .i64 8207)) 3) none,
  .mk (some 6) (.assign (.tmp 8)) none]
def r46_4 : List PS := [.mk (some 9) (.binOp .eql 3 (.tmp 5) (.const (.int .i64 1564)) 3) none,
  .mk (some 6) (.assign (.tmp 9)) none]
def r46_5 : List PS := [.mk (some 10) (.move (.tmp 0)) none,
  .mk (some 11) (.call ⟨(.value (.func 61)), #[(.tmp 10)], #[24]⟩) none,
  .mk (some 4) (.assign (.tmp 11)) none]
def r46_6 : List PS := [.mk (some 12) (.move (.tmp 0)) none,
  .mk (some 13) (.move (.tmp 1)) none,
  .mk (some 14) (.buildSlice 22 10 #[(0, (.const (.int .i64 9))), (1, (.const (.int .i64 14))), (2, (.const (.int .i64 15))), (3, (.const (.int .i64 16))), (4, (.const (.int .i64 17))), (5, (.const (.int .i64 18))), (6, (.const (.int .i64 19))), (7, (.const (.int .i64 20))), (8, (.const (.int .i64 21))), (9, (.const (.int .i64 22)))]) none,
  .mk (some 15) (.call ⟨(.value (.func 60)), #[(.tmp 12), (.tmp 13), (.tmp 14)], #[24, 3, 22]⟩) none,
  .mk (some 4) (.assign (.tmp 15)) none]
def c46 : PC := (.seq (.reg false r46_0) (.seq (.seq (.reg false r46_1) (.block 0 (.seq (.seq (.reg false r46_2) (.cond (.tmp 6) .skip (.seq (.reg false r46_3) (.cond (.tmp 6) .skip (.reg false r46_4))))) (.cond (.tmp 6) (.seq (.reg false r46_5) .ret) .skip)))) (.seq (.reg false r46_6) .ret)))
theorem e46 {args : List PV} {h : Heap} {K : PV → Heap → Prop} (hl : args.length = 2) (s : pwp Try.prog [] c46 (fin Try.prog [.tmp 4] h K) (slots0 (olds args)) h) : CanP Try.prog 46 args h K :=
  can_of2 (n := 16) mixed Try.func46 rfl (by kernel_rfl) (by rw [hl]; kernel_rfl) rfl (by kernel_rfl) s
/-! ### (*naskh.width.Meter).Width: function 30 -/
def r30_0 : List PS := [.mk (some 4) (.assign (.const (.int .i64 0))) none]
def r30_1 : List PS := [.mk (some 5) (.move (.tmp 0)) none,
  .mk (some 6) (.binOp .eql 30 (.tmp 5) (.const (.pointer none)) 30) none,
  .mk (some 7) (.move (.tmp 6)) none,
  .mk (some 8) (.move (.tmp 0)) (some (7, false)),
  .mk (some 9) (.nilCheck (.tmp 8)) (some (7, false)),
  .mk (some 10) (.fieldAddr 62 (.tmp 9) 0) (some (7, false)),
  .mk (some 11) (.fieldAddr 60 (.tmp 10) 0) (some (7, false)),
  .mk (some 12) (.load 49 (.tmp 11)) (some (7, false)),
  .mk (some 13) (.binOp .eql 49 (.tmp 12) (.const (.pointer none)) 49) (some (7, false)),
  .mk (some 14) (.pick (.tmp 7) (.const (.bool true)) (.tmp 13)) none]
def r30_2 : List PS := [.mk (some 4) (.assign (.const (.int .i64 1))) none]
def r30_3 : List PS := [.mk (some 15) (.move (.tmp 0)) none,
  .mk (some 16) (.nilCheck (.tmp 15)) none,
  .mk (some 17) (.fieldAddr 62 (.tmp 16) 0) none,
  .mk (some 18) (.fieldAddr 60 (.tmp 17) 1) none,
  .mk (some 19) (.load 24 (.tmp 18)) none,
  .mk (some 20) (.move (.tmp 1)) none,
  .mk (some 21) (.call ⟨(.value (.func 45)), #[(.tmp 19), (.tmp 20)], #[24, 3]⟩) none,
  .mk (some 22) (.move (.tmp 21)) none,
  .mk (some 23) (.move (.tmp 0)) (some (22, false)),
  .mk (some 24) (.nilCheck (.tmp 23)) (some (22, false)),
  .mk (some 25) (.fieldAddr 62 (.tmp 24) 0) (some (22, false)),
  .mk (some 26) (.fieldAddr 60 (.tmp 25) 1) (some (22, false)),
  .mk (some 27) (.load 24 (.tmp 26)) (some (22, false)),
  .mk (some 28) (.move (.tmp 1)) (some (22, false)),
  .mk (some 29) (.call ⟨(.value (.func 46)), #[(.tmp 27), (.tmp 28)], #[24, 3]⟩) (some (22, false)),
  .mk (some 30) (.pick (.tmp 22) (.const (.bool true)) (.tmp 29)) none]
def r30_4 : List PS := [.mk (some 4) (.assign (.const (.int .i64 0))) none]
def r30_5 : List PS := [.mk (some 31) (.move (.tmp 0)) none,
  .mk (some 32) (.nilCheck (.tmp 31)) none,
  .mk (some 33) (.fieldAddr 62 (.tmp 32) 0) none,
  .mk (some 34) (.fieldAddr 60 (.tmp 33) 0) none,
  .mk (some 35) (.load 49 (.tmp 34)) none,
  .mk (some 36) (.move (.tmp 1)) none,
  .mk (some 37) (.call ⟨(.value (.func 47)), #[(.tmp 35), (.tmp 36)], #[49, 3]⟩) none,
  .mk (some 4) (.assign (.tmp 37)) none]
def c30 : PC := (.seq (.reg false r30_0) (.seq (.seq (.reg false r30_1) (.cond (.tmp 14) (.seq (.reg false r30_2) .ret) .skip)) (.seq (.seq (.reg false r30_3) (.cond (.tmp 30) (.seq (.reg false r30_4) .ret) .skip)) (.seq (.reg false r30_5) .ret))))
theorem e30 {args : List PV} {h : Heap} {K : PV → Heap → Prop} (hl : args.length = 2) (s : pwp Try.prog [] c30 (fin Try.prog [.tmp 4] h K) (slots0 (olds args)) h) : CanP Try.prog 30 args h K :=
  can_of2 (n := 38) mixed Try.func30 rfl (by kernel_rfl) (by rw [hl]; kernel_rfl) rfl (by kernel_rfl) s
/-! ### (*naskh.width.Meter).Text: function 14 -/
def r14_0 : List PS := [.mk (some 4) (.assign (.const (.int .i64 0))) none]
def r14_1 : List PS := [.mk (some 5) (.assign (.const (.int .i64 0))) none]
def r14_2 : List PS := [.mk (some 8) (.move (.tmp 1)) none,
  .mk (some 9) (.call ⟨(.builtin .len), #[(.tmp 8)], #[22]⟩) none,
  .mk (some 10) (.move (.const (.int .i64 0))) none]
def r14_3 : List PS := [.mk (some 11) (.binOp .lss 3 (.tmp 10) (.tmp 9) 3) none]
def r14_4 : List PS := [.mk (some 12) (.indexAddr 22 (.tmp 8) (.tmp 10)) none,
  .mk (some 13) (.load 3 (.tmp 12)) none,
  .mk (some 7) (.assign (.tmp 13)) none]
def r14_5 : List PS := [.mk (some 14) (.move (.tmp 5)) none,
  .mk (some 15) (.move (.tmp 0)) none,
  .mk (some 16) (.move (.tmp 7)) none,
  .mk (some 17) (.call ⟨(.value (.func 30)), #[(.tmp 15), (.tmp 16)], #[30, 3]⟩) none,
  .mk (some 18) (.binOp .add 3 (.tmp 14) (.tmp 17) 3) none,
  .mk (some 5) (.assign (.tmp 18)) none]
def r14_6 : List PS := [.mk (some 19) (.binOp .add 3 (.tmp 10) (.const (.int .i64 1)) 3) none,
  .mk (some 10) (.move (.tmp 19)) none]
def r14_7 : List PS := [.mk (some 20) (.move (.tmp 5)) none,
  .mk (some 4) (.assign (.tmp 20)) none]
def c14 : PC := (.seq (.reg false r14_0) (.seq (.reg false r14_1) (.seq (.seq (.reg false r14_2) (.block 0 (.loop (.seq (.reg false r14_3) (.seq (.cond (.tmp 11) .skip (.exit 0)) (.seq (.block 1 (.seq (.reg false r14_4) (.reg false r14_5))) (.reg false r14_6))))))) (.seq (.reg false r14_7) .ret))))
theorem e14 {args : List PV} {h : Heap} {K : PV → Heap → Prop} (hl : args.length = 2) (s : pwp Try.prog [] c14 (fin Try.prog [.tmp 4] h K) (slots0 (olds args)) h) : CanP Try.prog 14 args h K :=
  can_of2 (n := 21) mixed Try.func14 rfl (by kernel_rfl) (by rw [hl]; kernel_rfl) rfl (by kernel_rfl) s
/-! ### (*naskh.wrap.text).cells: function 59 -/
def r59_0 : List PS := [.mk (some 3) (.box 33 (.tmp 1)) none,
  .mk (some 4) (.assign (.const (.int .i64 0))) none]
def r59_1 : List PS := [.mk (some 5) (.fieldAddr 33 (.tmp 3) 1) none,
  .mk (some 6) (.load 3 (.tmp 5)) none,
  .mk (some 7) (.fieldAddr 33 (.tmp 3) 0) none,
  .mk (some 8) (.load 3 (.tmp 7)) none,
  .mk (some 9) (.binOp .gtr 3 (.tmp 6) (.tmp 8) 3) none,
  .mk (some 10) (.move (.tmp 9)) none,
  .mk (some 11) (.move (.tmp 0)) (some (10, true)),
  .mk (some 12) (.nilCheck (.tmp 11)) (some (10, true)),
  .mk (some 13) (.fieldAddr 89 (.tmp 12) 1) (some (10, true)),
  .mk (some 14) (.load 22 (.tmp 13)) (some (10, true)),
  .mk (some 15) (.fieldAddr 33 (.tmp 3) 1) (some (10, true)),
  .mk (some 16) (.load 3 (.tmp 15)) (some (10, true)),
  .mk (some 17) (.binOp .sub 3 (.tmp 16) (.const (.int .i64 1)) 3) (some (10, true)),
  .mk (some 18) (.indexAddr 22 (.tmp 14) (.tmp 17)) (some (10, true)),
  .mk (some 19) (.load 3 (.tmp 18)) (some (10, true)),
  .mk (some 20) (.binOp .eql 3 (.tmp 19) (.const (.int .i64 12)) 3) (some (10, true)),
  .mk (some 21) (.move (.tmp 20)) (some (10, true)),
  .mk (some 22) (.move (.tmp 0)) (some (21, false)),
  .mk (some 23) (.nilCheck (.tmp 22)) (some (21, false)),
  .mk (some 24) (.fieldAddr 89 (.tmp 23) 1) (some (21, false)),
  .mk (some 25) (.load 22 (.tmp 24)) (some (21, false)),
  .mk (some 26) (.fieldAddr 33 (.tmp 3) 1) (some (21, false)),
  .mk (some 27) (.load 3 (.tmp 26)) (some (21, false)),
  .mk (some 28) (.binOp .sub 3 (.tmp 27) (.const (.int .i64 1)) 3) (some (21, false)),
  .mk (some 29) (.indexAddr 22 (.tmp 25) (.tmp 28)) (some (21, false)),
  .mk (some 30) (.load 3 (.tmp 29)) (some (21, false)),
  .mk (some 31) (.binOp .eql 3 (.tmp 30) (.const (.int .i64 10)) 3) (some (21, false)),
  .mk (some 32) (.pick (.tmp 21) (.const (.bool true)) (.tmp 31)) (some (10, true)),
  .mk (some 33) (.pick (.tmp 10) (.tmp 32) (.const (.bool false))) none]
def r59_2 : List PS := [.mk (some 34) (.fieldAddr 33 (.tmp 3) 1) none,
  .mk (some 35) (.load 3 (.tmp 34)) none,
  .mk (some 36) (.binOp .sub 3 (.tmp 35) (.const (.int .i64 1)) 3) none,
  .mk (some 37) (.fieldAddr 33 (.tmp 3) 1) none,
  .mk none (.store 3 (.tmp 37) (.tmp 36)) none]
def r59_3 : List PS := [.mk (some 38) (.move (.tmp 0)) none,
  .mk (some 39) (.nilCheck (.tmp 38)) none,
  .mk (some 40) (.fieldAddr 89 (.tmp 39) 3) none,
  .mk (some 41) (.load 30 (.tmp 40)) none,
  .mk (some 42) (.move (.tmp 0)) none,
  .mk (some 43) (.nilCheck (.tmp 42)) none,
  .mk (some 44) (.fieldAddr 89 (.tmp 43) 0) none,
  .mk (some 45) (.load 22 (.tmp 44)) none,
  .mk (some 46) (.fieldAddr 33 (.tmp 3) 0) none,
  .mk (some 47) (.load 3 (.tmp 46)) none,
  .mk (some 48) (.fieldAddr 33 (.tmp 3) 1) none,
  .mk (some 49) (.load 3 (.tmp 48)) none,
  .mk (some 50) (.slice 22 (.tmp 45) (some (.tmp 47)) (some (.tmp 49)) none) none,
  .mk (some 51) (.call ⟨(.value (.func 14)), #[(.tmp 41), (.tmp 50)], #[30, 22]⟩) none,
  .mk (some 4) (.assign (.tmp 51)) none]
def c59 : PC := (.seq (.reg false r59_0) (.seq (.block 0 (.loop (.seq (.seq (.reg true r59_1) (.cond (.tmp 33) .skip (.exit 0))) (.block 1 (.reg false r59_2))))) (.seq (.reg true r59_3) .ret)))
theorem e59 {args : List PV} {h : Heap} {K : PV → Heap → Prop} (hl : args.length = 2) (s : pwp Try.prog [3] c59 (fin Try.prog [.tmp 4] h K) (slots0 (olds args)) h) : CanP Try.prog 59 args h K :=
  can_of2 (n := 52) mixed Try.func59 rfl (by kernel_rfl) (by rw [hl]; kernel_rfl) rfl (by kernel_rfl) s
/-! ### (*naskh.wrap.text).whole: function 43 -/
def r43_0 : List PS := [.mk (some 8) (.assign (.const (.int .i64 0))) none,
  .mk (some 9) (.assign (.const (.bool false))) none]
def r43_1 : List PS := [.mk (some 11) (.move (.tmp 2)) none,
  .mk (some 10) (.assign (.tmp 11)) none]
def r43_2 : List PS := [.mk (some 12) (.move (.tmp 10)) none,
  .mk (some 13) (.move (.tmp 1)) none,
  .mk (some 14) (.binOp .gtr 3 (.tmp 12) (.tmp 13) 3) none]
def r43_3 : List PS := [.mk (some 17) (.move (.tmp 10)) none,
  .mk (some 18) (.move (.tmp 2)) none,
  .mk (some 19) (.binOp .lss 3 (.tmp 17) (.tmp 18) 3) none,
  .mk (some 20) (.move (.tmp 19)) none,
  .mk (some 21) (.move (.tmp 0)) (some (20, true)),
  .mk (some 22) (.move (.tmp 10)) (some (20, true)),
  .mk (some 23) (.call ⟨(.value (.func 54)), #[(.tmp 21), (.tmp 22)], #[64, 3]⟩) (some (20, true)),
  .mk (some 24) (.unOp .not 4 (.tmp 23)) (some (20, true)),
  .mk (some 25) (.pick (.tmp 20) (.tmp 24) (.const (.bool false))) none]
def r43_4 : List PS := [.mk (some 26) (.move (.tmp 0)) none,
  .mk (some 27) (.move (.tmp 1)) none,
  .mk (some 28) (.move (.tmp 10)) none,
  .mk (some 29) (.build 33 #[(0, (.tmp 27)), (1, (.tmp 28))]) none,
  .mk (some 30) (.call ⟨(.value (.func 59)), #[(.tmp 26), (.tmp 29)], #[64, 33]⟩) none,
  .mk (some 31) (.move (.tmp 3)) none,
  .mk (some 32) (.binOp .leq 3 (.tmp 30) (.tmp 31) 3) none]
def r43_5 : List PS := [.mk (some 33) (.move (.tmp 10)) none,
  .mk (some 8) (.assign (.tmp 33)) none,
  .mk (some 9) (.assign (.const (.bool true))) none]
def r43_6 : List PS := [.mk (some 15) (.move (.tmp 10)) none,
  .mk (some 16) (.binOp .sub 3 (.tmp 15) (.const (.int .i64 1)) 3) none,
  .mk (some 10) (.assign (.tmp 16)) none]
def r43_7 : List PS := [.mk (some 8) (.assign (.const (.int .i64 0))) none,
  .mk (some 9) (.assign (.const (.bool false))) none]
def c43 : PC := (.seq (.reg false r43_0) (.seq (.seq (.reg false r43_1) (.block 0 (.loop (.seq (.seq (.reg false r43_2) (.cond (.tmp 14) .skip (.exit 0))) (.seq (.block 1 (.seq (.seq (.reg false r43_3) (.cond (.tmp 25) (.exit 1) .skip)) (.seq (.reg false r43_4) (.cond (.tmp 32) (.seq (.reg false r43_5) .ret) .skip)))) (.reg false r43_6)))))) (.seq (.reg false r43_7) .ret)))
theorem e43 {args : List PV} {h : Heap} {K : PV → Heap → Prop} (hl : args.length = 4) (s : pwp Try.prog [] c43 (fin Try.prog [.tmp 8, .tmp 9] h K) (slots0 (olds args)) h) : CanP Try.prog 43 args h K :=
  can_of2 (n := 34) mixed Try.func43 rfl (by kernel_rfl) (by rw [hl]; kernel_rfl) rfl (by kernel_rfl) s
/-! ### (*naskh.width.Meter).Fit: function 44 -/
def r44_0 : List PS := [.mk (some 6) (.assign (.const (.int .i64 0))) none]
def r44_1 : List PS := [.mk (some 11) (.move (.tmp 2)) none,
  .mk (some 12) (.binOp .lss 3 (.tmp 11) (.const (.int .i64 0)) 3) none]
def r44_2 : List PS := [.mk (some 6) (.assign (.const (.int .i64 0))) none]
def r44_3 : List PS := [.mk (some 13) (.move (.tmp 2)) none,
  .mk (some 7) (.assign (.tmp 13)) none]
def r44_4 : List PS := [.mk (some 14) (.move (.tmp 1)) none,
  .mk (some 15) (.call ⟨(.builtin .len), #[(.tmp 14)], #[22]⟩) none,
  .mk (some 16) (.move (.const (.int .i64 0))) none]
def r44_5 : List PS := [.mk (some 17) (.binOp .lss 3 (.tmp 16) (.tmp 15) 3) none]
def r44_6 : List PS := [.mk (some 18) (.move (.tmp 16)) none,
  .mk (some 19) (.indexAddr 22 (.tmp 14) (.tmp 16)) none,
  .mk (some 20) (.load 3 (.tmp 19)) none,
  .mk (some 8) (.assign (.tmp 18)) none,
  .mk (some 9) (.assign (.tmp 20)) none]
def r44_7 : List PS := [.mk (some 21) (.move (.tmp 0)) none,
  .mk (some 22) (.move (.tmp 9)) none,
  .mk (some 23) (.call ⟨(.value (.func 30)), #[(.tmp 21), (.tmp 22)], #[30, 3]⟩) none,
  .mk (some 10) (.assign (.tmp 23)) none]
def r44_8 : List PS := [.mk (some 24) (.move (.tmp 10)) none,
  .mk (some 25) (.move (.tmp 7)) none,
  .mk (some 26) (.binOp .gtr 3 (.tmp 24) (.tmp 25) 3) none]
def r44_9 : List PS := [.mk (some 27) (.move (.tmp 8)) none,
  .mk (some 6) (.assign (.tmp 27)) none]
def r44_10 : List PS := [.mk (some 28) (.move (.tmp 7)) none,
  .mk (some 29) (.move (.tmp 10)) none,
  .mk (some 30) (.binOp .sub 3 (.tmp 28) (.tmp 29) 3) none,
  .mk (some 7) (.assign (.tmp 30)) none]
def r44_11 : List PS := [.mk (some 31) (.binOp .add 3 (.tmp 16) (.const (.int .i64 1)) 3) none,
  .mk (some 16) (.move (.tmp 31)) none]
def r44_12 : List PS := [.mk (some 32) (.move (.tmp 1)) none,
  .mk (some 33) (.call ⟨(.builtin .len), #[(.tmp 32)], #[22]⟩) none,
  .mk (some 6) (.assign (.tmp 33)) none]
def c44 : PC := (.seq (.reg false r44_0) (.seq (.seq (.reg false r44_1) (.cond (.tmp 12) (.seq (.reg false r44_2) .ret) .skip)) (.seq (.reg false r44_3) (.seq (.seq (.reg false r44_4) (.block 0 (.loop (.seq (.reg false r44_5) (.seq (.cond (.tmp 17) .skip (.exit 0)) (.seq (.block 1 (.seq (.reg false r44_6) (.seq (.reg false r44_7) (.seq (.seq (.reg false r44_8) (.cond (.tmp 26) (.seq (.reg false r44_9) .ret) .skip)) (.reg false r44_10))))) (.reg false r44_11))))))) (.seq (.reg false r44_12) .ret)))))
theorem e44 {args : List PV} {h : Heap} {K : PV → Heap → Prop} (hl : args.length = 3) (s : pwp Try.prog [] c44 (fin Try.prog [.tmp 6] h K) (slots0 (olds args)) h) : CanP Try.prog 44 args h K :=
  can_of2 (n := 34) mixed Try.func44 rfl (by kernel_rfl) (by rw [hl]; kernel_rfl) rfl (by kernel_rfl) s
/-! ### (*naskh.wrap.text).end: function 28 -/
def r28_0 : List PS := [.mk (some 6) (.assign (.const (.int .i64 0))) none]
def r28_1 : List PS := [.mk (some 11) (.move (.tmp 0)) none,
  .mk (some 12) (.move (.tmp 1)) none,
  .mk (some 13) (.call ⟨(.value (.func 42)), #[(.tmp 11), (.tmp 12)], #[64, 3]⟩) none,
  .mk (some 7) (.assign (.tmp 13)) none]
def r28_2 : List PS := [.mk (some 15) (.move (.tmp 0)) none,
  .mk (some 16) (.move (.tmp 1)) none,
  .mk (some 17) (.move (.tmp 7)) none,
  .mk (some 18) (.move (.tmp 2)) none,
  .mk (some 19) (.call ⟨(.value (.func 43)), #[(.tmp 15), (.tmp 16), (.tmp 17), (.tmp 18)], #[64, 3, 3, 3]⟩) none,
  .mk (some 14) (.move (.tmp 19)) none,
  .mk (some 20) (.extract (.tmp 14) 0) none,
  .mk (some 21) (.extract (.tmp 14) 1) none,
  .mk (some 8) (.assign (.tmp 20)) none,
  .mk (some 9) (.assign (.tmp 21)) none]
def r28_3 : List PS := [.mk (some 22) (.move (.tmp 9)) none]
def r28_4 : List PS := [.mk (some 23) (.move (.tmp 8)) none,
  .mk (some 6) (.assign (.tmp 23)) none]
def r28_5 : List PS := [.mk (some 24) (.move (.tmp 1)) none,
  .mk (some 25) (.move (.tmp 0)) none,
  .mk (some 26) (.nilCheck (.tmp 25)) none,
  .mk (some 27) (.fieldAddr 89 (.tmp 26) 3) none,
  .mk (some 28) (.load 30 (.tmp 27)) none,
  .mk (some 29) (.move (.tmp 0)) none,
  .mk (some 30) (.nilCheck (.tmp 29)) none,
  .mk (some 31) (.fieldAddr 89 (.tmp 30) 0) none,
  .mk (some 32) (.load 22 (.tmp 31)) none,
  .mk (some 33) (.move (.tmp 1)) none,
  .mk (some 34) (.move (.tmp 7)) none,
  .mk (some 35) (.slice 22 (.tmp 32) (some (.tmp 33)) (some (.tmp 34)) none) none,
  .mk (some 36) (.move (.tmp 2)) none,
  .mk (some 37) (.call ⟨(.value (.func 44)), #[(.tmp 28), (.tmp 35), (.tmp 36)], #[30, 22, 3]⟩) none,
  .mk (some 38) (.call ⟨(.builtin .max), #[(.tmp 37), (.const (.int .i64 1))], #[3, 3]⟩) none,
  .mk (some 39) (.binOp .add 3 (.tmp 24) (.tmp 38) 3) none,
  .mk (some 10) (.assign (.tmp 39)) none]
def r28_6 : List PS := [.mk (some 40) (.move (.tmp 10)) none,
  .mk (some 41) (.move (.tmp 7)) none,
  .mk (some 42) (.binOp .lss 3 (.tmp 40) (.tmp 41) 3) none,
  .mk (some 43) (.move (.tmp 42)) none,
  .mk (some 44) (.move (.tmp 0)) (some (43, true)),
  .mk (some 45) (.nilCheck (.tmp 44)) (some (43, true)),
  .mk (some 46) (.fieldAddr 89 (.tmp 45) 1) (some (43, true)),
  .mk (some 47) (.load 22 (.tmp 46)) (some (43, true)),
  .mk (some 48) (.move (.tmp 10)) (some (43, true)),
  .mk (some 49) (.indexAddr 22 (.tmp 47) (.tmp 48)) (some (43, true)),
  .mk (some 50) (.load 3 (.tmp 49)) (some (43, true)),
  .mk (some 51) (.binOp .eql 3 (.tmp 50) (.const (.int .i64 8)) 3) (some (43, true)),
  .mk (some 52) (.pick (.tmp 43) (.tmp 51) (.const (.bool false))) none]
def r28_7 : List PS := [.mk (some 53) (.move (.tmp 10)) none,
  .mk (some 54) (.binOp .add 3 (.tmp 53) (.const (.int .i64 1)) 3) none,
  .mk (some 10) (.assign (.tmp 54)) none]
def r28_8 : List PS := [.mk (some 55) (.move (.tmp 10)) none,
  .mk (some 6) (.assign (.tmp 55)) none]
def c28 : PC := (.seq (.reg false r28_0) (.seq (.reg false r28_1) (.seq (.seq (.reg false r28_2) (.seq (.reg false r28_3) (.cond (.tmp 22) (.seq (.reg false r28_4) .ret) .skip))) (.seq (.reg true r28_5) (.seq (.block 0 (.loop (.seq (.seq (.reg false r28_6) (.cond (.tmp 52) .skip (.exit 0))) (.block 1 (.reg false r28_7))))) (.seq (.reg false r28_8) .ret))))))
theorem e28 {args : List PV} {h : Heap} {K : PV → Heap → Prop} (hl : args.length = 3) (s : pwp Try.prog [] c28 (fin Try.prog [.tmp 6] h K) (slots0 (olds args)) h) : CanP Try.prog 28 args h K :=
  can_of2 (n := 56) mixed Try.func28 rfl (by kernel_rfl) (by rw [hl]; kernel_rfl) rfl (by kernel_rfl) s
/-! ### naskh.wrap.Breaks: function 11 -/
def r11_0 : List PS := [.mk (some 8) (.assign (.const (.slice none 0 0))) none,
  .mk (some 9) (.assign (.const (.int .i64 0))) none]
def r11_1 : List PS := [.mk (some 13) (.move (.tmp 2)) none,
  .mk (some 14) (.call ⟨(.builtin .len), #[(.tmp 13)], #[22]⟩) none,
  .mk (some 15) (.binOp .gtr 3 (.tmp 14) (.const (.int .i64 16777216)) 3) none]
def r11_2 : List PS := [.mk (some 8) (.assign (.const (.slice none 0 0))) none,
  .mk (some 9) (.assign (.const (.int .i64 6))) none]
def r11_3 : List PS := [.mk (some 16) (.move (.tmp 3)) none,
  .mk (some 17) (.binOp .lss 3 (.tmp 16) (.const (.int .i64 1)) 3) none,
  .mk (some 18) (.move (.tmp 17)) none,
  .mk (some 19) (.move (.tmp 3)) (some (18, false)),
  .mk (some 20) (.binOp .gtr 3 (.tmp 19) (.const (.int .i64 1048576)) 3) (some (18, false)),
  .mk (some 21) (.pick (.tmp 18) (.const (.bool true)) (.tmp 20)) none]
def r11_4 : List PS := [.mk (some 8) (.assign (.const (.slice none 0 0))) none,
  .mk (some 9) (.assign (.const (.int .i64 1))) none]
def r11_5 : List PS := [.mk (some 22) (.move (.tmp 0)) none,
  .mk (some 23) (.move (.tmp 1)) none,
  .mk (some 24) (.move (.tmp 2)) none,
  .mk (some 25) (.call ⟨(.value (.func 27)), #[(.tmp 22), (.tmp 23), (.tmp 24)], #[24, 30, 22]⟩) none,
  .mk (some 10) (.assign (.tmp 25)) none]
def r11_6 : List PS := [.mk (some 11) (.assign (.const (.slice none 0 0))) none]
def r11_7 : List PS := [.mk (some 12) (.assign (.const (.int .i64 0))) none]
def r11_8 : List PS := [.mk (some 26) (.move (.tmp 12)) none,
  .mk (some 27) (.move (.tmp 2)) none,
  .mk (some 28) (.call ⟨(.builtin .len), #[(.tmp 27)], #[22]⟩) none,
  .mk (some 29) (.binOp .lss 3 (.tmp 26) (.tmp 28) 3) none]
def r11_9 : List PS := [.mk (some 30) (.move (.tmp 10)) none,
  .mk (some 31) (.move (.tmp 12)) none,
  .mk (some 32) (.move (.tmp 3)) none,
  .mk (some 33) (.call ⟨(.value (.func 28)), #[(.tmp 30), (.tmp 31), (.tmp 32)], #[64, 3, 3]⟩) none,
  .mk (some 12) (.assign (.tmp 33)) none]
def r11_10 : List PS := [.mk (some 34) (.move (.tmp 12)) none,
  .mk (some 35) (.move (.tmp 2)) none,
  .mk (some 36) (.call ⟨(.builtin .len), #[(.tmp 35)], #[22]⟩) none,
  .mk (some 37) (.binOp .lss 3 (.tmp 34) (.tmp 36) 3) none]
def r11_11 : List PS := [.mk (some 38) (.move (.tmp 11)) none,
  .mk (some 39) (.move (.tmp 12)) none,
  .mk (some 40) (.buildSlice 22 1 #[(0, (.tmp 39))]) none,
  .mk (some 41) (.call ⟨(.builtin .append), #[(.tmp 38), (.tmp 40)], #[22, 22]⟩) none,
  .mk (some 11) (.assign (.tmp 41)) none]
def r11_12 : List PS := [.mk (some 42) (.move (.tmp 11)) none,
  .mk (some 8) (.assign (.tmp 42)) none,
  .mk (some 9) (.assign (.const (.int .i64 0))) none]
def c11 : PC := (.seq (.reg false r11_0) (.seq (.seq (.reg false r11_1) (.cond (.tmp 15) (.seq (.reg false r11_2) .ret) .skip)) (.seq (.seq (.reg false r11_3) (.cond (.tmp 21) (.seq (.reg false r11_4) .ret) .skip)) (.seq (.reg false r11_5) (.seq (.reg false r11_6) (.seq (.seq (.reg false r11_7) (.block 0 (.loop (.seq (.seq (.reg false r11_8) (.cond (.tmp 29) .skip (.exit 0))) (.block 1 (.seq (.reg false r11_9) (.seq (.reg false r11_10) (.cond (.tmp 37) (.reg false r11_11) .skip)))))))) (.seq (.reg false r11_12) .ret)))))))
theorem e11 {args : List PV} {h : Heap} {K : PV → Heap → Prop} (hl : args.length = 4) (s : pwp Try.prog [] c11 (fin Try.prog [.tmp 8, .tmp 9] h K) (slots0 (olds args)) h) : CanP Try.prog 11 args h K :=
  can_of2 (n := 43) mixed Try.func11 rfl (by kernel_rfl) (by rw [hl]; kernel_rfl) rfl (by kernel_rfl) s
/-! ### slices.Equal[[]int,int]: function 17 -/
def r17_0 : List PS := [.mk (some 4) (.assign (.const (.bool false))) none]
def r17_1 : List PS := [.mk (some 6) (.move (.tmp 0)) none,
  .mk (some 7) (.call ⟨(.builtin .len), #[(.tmp 6)], #[22]⟩) none,
  .mk (some 8) (.move (.tmp 1)) none,
  .mk (some 9) (.call ⟨(.builtin .len), #[(.tmp 8)], #[22]⟩) none,
  .mk (some 10) (.binOp .neq 3 (.tmp 7) (.tmp 9) 3) none]
def r17_2 : List PS := [.mk (some 4) (.assign (.const (.bool false))) none]
def r17_3 : List PS := [.mk (some 11) (.move (.tmp 0)) none,
  .mk (some 12) (.call ⟨(.builtin .len), #[(.tmp 11)], #[22]⟩) none,
  .mk (some 13) (.move (.const (.int .i64 0))) none]
def r17_4 : List PS := [.mk (some 14) (.binOp .lss 3 (.tmp 13) (.tmp 12) 3) none]
def r17_5 : List PS := [.mk (some 15) (.move (.tmp 13)) none,
  .mk (some 5) (.assign (.tmp 15)) none]
def r17_6 : List PS := [.mk (some 16) (.move (.tmp 0)) none,
  .mk (some 17) (.move (.tmp 5)) none,
  .mk (some 18) (.indexAddr 22 (.tmp 16) (.tmp 17)) none,
  .mk (some 19) (.load 3 (.tmp 18)) none,
  .mk (some 20) (.move (.tmp 1)) none,
  .mk (some 21) (.move (.tmp 5)) none,
  .mk (some 22) (.indexAddr 22 (.tmp 20) (.tmp 21)) none,
  .mk (some 23) (.load 3 (.tmp 22)) none,
  .mk (some 24) (.binOp .neq 3 (.tmp 19) (.tmp 23) 3) none]
def r17_7 : List PS := [.mk (some 4) (.assign (.const (.bool false))) none]
def r17_8 : List PS := [.mk (some 25) (.binOp .add 3 (.tmp 13) (.const (.int .i64 1)) 3) none,
  .mk (some 13) (.move (.tmp 25)) none]
def r17_9 : List PS := [.mk (some 4) (.assign (.const (.bool true))) none]
def c17 : PC := (.seq (.reg false r17_0) (.seq (.seq (.reg false r17_1) (.cond (.tmp 10) (.seq (.reg false r17_2) .ret) .skip)) (.seq (.seq (.reg false r17_3) (.block 0 (.loop (.seq (.reg false r17_4) (.seq (.cond (.tmp 14) .skip (.exit 0)) (.seq (.block 1 (.seq (.reg false r17_5) (.seq (.reg true r17_6) (.cond (.tmp 24) (.seq (.reg false r17_7) .ret) .skip)))) (.reg false r17_8))))))) (.seq (.reg false r17_9) .ret))))
theorem e17 {args : List PV} {h : Heap} {K : PV → Heap → Prop} (hl : args.length = 2) (s : pwp Try.prog [] c17 (fin Try.prog [.tmp 4] h K) (slots0 (olds args)) h) : CanP Try.prog 17 args h K :=
  can_of2 (n := 26) mixed Try.func17 rfl (by kernel_rfl) (by rw [hl]; kernel_rfl) rfl (by kernel_rfl) s
/-! ### naskh.naskhlaw43.awake: function 6 -/
def r6_0 : List PS := [.mk (some 0) (.assign (.const (.bool false))) none]
def r6_1 : List PS := [.mk (some 4) (.call ⟨(.value (.func 7)), #[], #[]⟩) none,
  .mk (some 1) (.assign (.tmp 4)) none]
def r6_2 : List PS := [.mk (some 6) (.move (.tmp 1)) none,
  .mk (some 7) (.move (.tmp 1)) none,
  .mk (some 8) (.call ⟨(.value (.func 9)), #[(.tmp 7)], #[24]⟩) none,
  .mk (some 9) (.buildSlice 22 5 #[(0, (.const (.int .i64 97))), (1, (.const (.int .i64 98))), (2, (.const (.int .i64 32))), (3, (.const (.int .i64 99))), (4, (.const (.int .i64 100)))]) none,
  .mk (some 10) (.call ⟨(.value (.func 11)), #[(.tmp 6), (.tmp 8), (.tmp 9), (.const (.int .i64 2))], #[24, 30, 22, 3]⟩) none,
  .mk (some 5) (.move (.tmp 10)) none,
  .mk (some 11) (.extract (.tmp 5) 0) none,
  .mk (some 12) (.extract (.tmp 5) 1) none,
  .mk (some 2) (.assign (.tmp 11)) none,
  .mk (some 3) (.assign (.tmp 12)) none]
def r6_3 : List PS := [.mk (some 13) (.move (.tmp 3)) none,
  .mk (some 14) (.binOp .eql 27 (.tmp 13) (.const (.int .i64 0)) 27) none,
  .mk (some 15) (.move (.tmp 14)) none,
  .mk (some 16) (.move (.tmp 2)) (some (15, true)),
  .mk (some 17) (.buildSlice 22 1 #[(0, (.const (.int .i64 3)))]) (some (15, true)),
  .mk (some 18) (.call ⟨(.value (.func 17)), #[(.tmp 16), (.tmp 17)], #[22, 22]⟩) (some (15, true)),
  .mk (some 19) (.pick (.tmp 15) (.tmp 18) (.const (.bool false))) none,
  .mk (some 0) (.assign (.tmp 19)) none]
def c6 : PC := (.seq (.reg false r6_0) (.seq (.reg false r6_1) (.seq (.reg false r6_2) (.seq (.reg false r6_3) .ret))))
theorem e6 {args : List PV} {h : Heap} {K : PV → Heap → Prop} (hl : args.length = 0) (s : pwp Try.prog [] c6 (fin Try.prog [.tmp 0] h K) (slots0 (olds args)) h) : CanP Try.prog 6 args h K :=
  can_of2 (n := 20) mixed Try.func6 rfl (by kernel_rfl) (by rw [hl]; kernel_rfl) rfl (by kernel_rfl) s
/-! ### naskh.breaks.Check: function 12 -/
def r12_0 : List PS := [.mk (some 4) (.assign (.const (.int .i64 0))) none]
def r12_1 : List PS := [.mk (some 5) (.assign (.const (.int .i64 0))) none]
def r12_2 : List PS := [.mk (some 8) (.move (.tmp 1)) none,
  .mk (some 9) (.call ⟨(.builtin .len), #[(.tmp 8)], #[22]⟩) none,
  .mk (some 10) (.move (.const (.int .i64 0))) none]
def r12_3 : List PS := [.mk (some 11) (.binOp .lss 3 (.tmp 10) (.tmp 9) 3) none]
def r12_4 : List PS := [.mk (some 12) (.indexAddr 22 (.tmp 8) (.tmp 10)) none,
  .mk (some 13) (.load 3 (.tmp 12)) none,
  .mk (some 7) (.assign (.tmp 13)) none]
def r12_5 : List PS := [.mk (some 14) (.move (.tmp 7)) none,
  .mk (some 15) (.move (.tmp 5)) none,
  .mk (some 16) (.binOp .leq 3 (.tmp 14) (.tmp 15) 3) none,
  .mk (some 17) (.move (.tmp 16)) none,
  .mk (some 18) (.move (.tmp 7)) (some (17, false)),
  .mk (some 19) (.move (.tmp 0)) (some (17, false)),
  .mk (some 20) (.binOp .geq 3 (.tmp 18) (.tmp 19) 3) (some (17, false)),
  .mk (some 21) (.pick (.tmp 17) (.const (.bool true)) (.tmp 20)) none]
def r12_6 : List PS := [.mk (some 4) (.assign (.const (.int .i64 4))) none]
def r12_7 : List PS := [.mk (some 22) (.move (.tmp 7)) none,
  .mk (some 5) (.assign (.tmp 22)) none]
def r12_8 : List PS := [.mk (some 23) (.binOp .add 3 (.tmp 10) (.const (.int .i64 1)) 3) none,
  .mk (some 10) (.move (.tmp 23)) none]
def r12_9 : List PS := [.mk (some 4) (.assign (.const (.int .i64 0))) none]
def c12 : PC := (.seq (.reg false r12_0) (.seq (.reg false r12_1) (.seq (.seq (.reg false r12_2) (.block 0 (.loop (.seq (.reg false r12_3) (.seq (.cond (.tmp 11) .skip (.exit 0)) (.seq (.block 1 (.seq (.reg false r12_4) (.seq (.seq (.reg false r12_5) (.cond (.tmp 21) (.seq (.reg false r12_6) .ret) .skip)) (.reg false r12_7)))) (.reg false r12_8))))))) (.seq (.reg false r12_9) .ret))))
theorem e12 {args : List PV} {h : Heap} {K : PV → Heap → Prop} (hl : args.length = 2) (s : pwp Try.prog [] c12 (fin Try.prog [.tmp 4] h K) (slots0 (olds args)) h) : CanP Try.prog 12 args h K :=
  can_of2 (n := 24) mixed Try.func12 rfl (by kernel_rfl) (by rw [hl]; kernel_rfl) rfl (by kernel_rfl) s
/-! ### naskh.span.Right: function 29 -/
def r29_0 : List PS := [.mk (some 1) (.box 33 (.tmp 0)) none,
  .mk (some 2) (.assign (.const (.bool false))) none]
def r29_1 : List PS := [.mk (some 3) (.fieldAddr 33 (.tmp 1) 0) none,
  .mk (some 4) (.load 3 (.tmp 3)) none,
  .mk (some 5) (.binOp .leq 3 (.const (.int .i64 0)) (.tmp 4) 3) none,
  .mk (some 6) (.move (.tmp 5)) none,
  .mk (some 7) (.fieldAddr 33 (.tmp 1) 0) (some (6, true)),
  .mk (some 8) (.load 3 (.tmp 7)) (some (6, true)),
  .mk (some 9) (.fieldAddr 33 (.tmp 1) 1) (some (6, true)),
  .mk (some 10) (.load 3 (.tmp 9)) (some (6, true)),
  .mk (some 11) (.binOp .lss 3 (.tmp 8) (.tmp 10) 3) (some (6, true)),
  .mk (some 12) (.pick (.tmp 6) (.tmp 11) (.const (.bool false))) none,
  .mk (some 2) (.assign (.tmp 12)) none]
def c29 : PC := (.seq (.reg false r29_0) (.seq (.reg false r29_1) .ret))
theorem e29 {args : List PV} {h : Heap} {K : PV → Heap → Prop} (hl : args.length = 1) (s : pwp Try.prog [] c29 (fin Try.prog [.tmp 2] h K) (slots0 (olds args)) h) : CanP Try.prog 29 args h K :=
  can_of2 (n := 13) mixed Try.func29 rfl (by kernel_rfl) (by rw [hl]; kernel_rfl) rfl (by kernel_rfl) s
/-! ### naskh.span.rises: function 56 -/
def r56_0 : List PS := [.mk (some 2) (.box 33 (.tmp 0)) none,
  .mk (some 4) (.assign (.const (.bool false))) none]
def r56_1 : List PS := [.mk (some 8) (.fieldAddr 33 (.tmp 2) 0) none,
  .mk (some 9) (.load 3 (.tmp 8)) none,
  .mk (some 5) (.assign (.tmp 9)) none]
def r56_2 : List PS := [.mk (some 10) (.move (.tmp 1)) none,
  .mk (some 11) (.call ⟨(.builtin .len), #[(.tmp 10)], #[22]⟩) none,
  .mk (some 12) (.move (.const (.int .i64 0))) none]
def r56_3 : List PS := [.mk (some 13) (.binOp .lss 3 (.tmp 12) (.tmp 11) 3) none]
def r56_4 : List PS := [.mk (some 14) (.indexAddr 22 (.tmp 10) (.tmp 12)) none,
  .mk (some 15) (.load 3 (.tmp 14)) none,
  .mk (some 7) (.assign (.tmp 15)) none]
def r56_5 : List PS := [.mk (some 16) (.move (.tmp 7)) none,
  .mk (some 17) (.move (.tmp 5)) none,
  .mk (some 18) (.binOp .leq 3 (.tmp 16) (.tmp 17) 3) none,
  .mk (some 19) (.move (.tmp 18)) none,
  .mk (some 20) (.move (.tmp 7)) (some (19, false)),
  .mk (some 21) (.fieldAddr 33 (.tmp 2) 1) (some (19, false)),
  .mk (some 22) (.load 3 (.tmp 21)) (some (19, false)),
  .mk (some 23) (.binOp .geq 3 (.tmp 20) (.tmp 22) 3) (some (19, false)),
  .mk (some 24) (.pick (.tmp 19) (.const (.bool true)) (.tmp 23)) none]
def r56_6 : List PS := [.mk (some 4) (.assign (.const (.bool false))) none]
def r56_7 : List PS := [.mk (some 25) (.move (.tmp 7)) none,
  .mk (some 5) (.assign (.tmp 25)) none]
def r56_8 : List PS := [.mk (some 26) (.binOp .add 3 (.tmp 12) (.const (.int .i64 1)) 3) none,
  .mk (some 12) (.move (.tmp 26)) none]
def r56_9 : List PS := [.mk (some 4) (.assign (.const (.bool true))) none]
def c56 : PC := (.seq (.reg false r56_0) (.seq (.reg false r56_1) (.seq (.seq (.reg false r56_2) (.block 0 (.loop (.seq (.reg false r56_3) (.seq (.cond (.tmp 13) .skip (.exit 0)) (.seq (.block 1 (.seq (.reg false r56_4) (.seq (.seq (.reg false r56_5) (.cond (.tmp 24) (.seq (.reg false r56_6) .ret) .skip)) (.reg false r56_7)))) (.reg false r56_8))))))) (.seq (.reg false r56_9) .ret))))
theorem e56 {args : List PV} {h : Heap} {K : PV → Heap → Prop} (hl : args.length = 2) (s : pwp Try.prog [] c56 (fin Try.prog [.tmp 4] h K) (slots0 (olds args)) h) : CanP Try.prog 56 args h K :=
  can_of2 (n := 27) mixed Try.func56 rfl (by kernel_rfl) (by rw [hl]; kernel_rfl) rfl (by kernel_rfl) s
/-! ### naskh.span.Cut: function 39 -/
def r39_0 : List PS := [.mk (some 2) (.box 33 (.tmp 0)) none,
  .mk (some 4) (.assign (.const (.slice none 0 0))) none,
  .mk (some 5) (.assign (.const (.int .i64 0))) none]
def r39_1 : List PS := [.mk (some 9) (.load 33 (.tmp 2)) none,
  .mk (some 10) (.call ⟨(.value (.func 29)), #[(.tmp 9)], #[33]⟩) none,
  .mk (some 11) (.unOp .not 4 (.tmp 10)) none]
def r39_2 : List PS := [.mk (some 4) (.assign (.const (.slice none 0 0))) none,
  .mk (some 5) (.assign (.const (.int .i64 1))) none]
def r39_3 : List PS := [.mk (some 12) (.load 33 (.tmp 2)) none,
  .mk (some 13) (.move (.tmp 1)) none,
  .mk (some 14) (.call ⟨(.value (.func 56)), #[(.tmp 12), (.tmp 13)], #[33, 22]⟩) none,
  .mk (some 15) (.unOp .not 4 (.tmp 14)) none]
def r39_4 : List PS := [.mk (some 4) (.assign (.const (.slice none 0 0))) none,
  .mk (some 5) (.assign (.const (.int .i64 10))) none]
def r39_5 : List PS := [.mk (some 16) (.move (.tmp 1)) none,
  .mk (some 17) (.call ⟨(.builtin .len), #[(.tmp 16)], #[22]⟩) none,
  .mk (some 18) (.binOp .add 3 (.tmp 17) (.const (.int .i64 1)) 3) none,
  .mk (some 19) (.makeSlice 26 (.const (.int .i64 0)) (.tmp 18)) none,
  .mk (some 6) (.assign (.tmp 19)) none]
def r39_6 : List PS := [.mk (some 20) (.move (.tmp 1)) none,
  .mk (some 21) (.call ⟨(.builtin .len), #[(.tmp 20)], #[22]⟩) none,
  .mk (some 22) (.move (.const (.int .i64 0))) none]
def r39_7 : List PS := [.mk (some 23) (.binOp .lss 3 (.tmp 22) (.tmp 21) 3) none]
def r39_8 : List PS := [.mk (some 24) (.indexAddr 22 (.tmp 20) (.tmp 22)) none,
  .mk (some 25) (.load 3 (.tmp 24)) none,
  .mk (some 8) (.assign (.tmp 25)) none]
def r39_9 : List PS := [.mk (some 26) (.move (.tmp 6)) none,
  .mk (some 27) (.fieldAddr 33 (.tmp 2) 0) none,
  .mk (some 28) (.load 3 (.tmp 27)) none,
  .mk (some 29) (.move (.tmp 8)) none,
  .mk (some 30) (.build 33 #[(0, (.tmp 28)), (1, (.tmp 29))]) none,
  .mk (some 31) (.buildSlice 26 1 #[(0, (.tmp 30))]) none,
  .mk (some 32) (.call ⟨(.builtin .append), #[(.tmp 26), (.tmp 31)], #[26, 26]⟩) none,
  .mk (some 6) (.assign (.tmp 32)) none]
def r39_10 : List PS := [.mk (some 33) (.move (.tmp 8)) none,
  .mk (some 34) (.fieldAddr 33 (.tmp 2) 0) none,
  .mk none (.store 3 (.tmp 34) (.tmp 33)) none]
def r39_11 : List PS := [.mk (some 35) (.binOp .add 3 (.tmp 22) (.const (.int .i64 1)) 3) none,
  .mk (some 22) (.move (.tmp 35)) none]
def r39_12 : List PS := [.mk (some 36) (.move (.tmp 6)) none,
  .mk (some 37) (.load 33 (.tmp 2)) none,
  .mk (some 38) (.buildSlice 26 1 #[(0, (.tmp 37))]) none,
  .mk (some 39) (.call ⟨(.builtin .append), #[(.tmp 36), (.tmp 38)], #[26, 26]⟩) none,
  .mk (some 4) (.assign (.tmp 39)) none,
  .mk (some 5) (.assign (.const (.int .i64 0))) none]
def c39 : PC := (.seq (.reg false r39_0) (.seq (.seq (.reg false r39_1) (.cond (.tmp 11) (.seq (.reg false r39_2) .ret) .skip)) (.seq (.seq (.reg false r39_3) (.cond (.tmp 15) (.seq (.reg false r39_4) .ret) .skip)) (.seq (.reg false r39_5) (.seq (.seq (.reg false r39_6) (.block 0 (.loop (.seq (.reg false r39_7) (.seq (.cond (.tmp 23) .skip (.exit 0)) (.seq (.block 1 (.seq (.reg false r39_8) (.seq (.reg false r39_9) (.reg false r39_10)))) (.reg false r39_11))))))) (.seq (.reg false r39_12) .ret))))))
theorem e39 {args : List PV} {h : Heap} {K : PV → Heap → Prop} (hl : args.length = 2) (s : pwp Try.prog [2] c39 (fin Try.prog [.tmp 4, .tmp 5] h K) (slots0 (olds args)) h) : CanP Try.prog 39 args h K :=
  can_of2 (n := 40) mixed Try.func39 rfl (by kernel_rfl) (by rw [hl]; kernel_rfl) rfl (by kernel_rfl) s
/-! ### naskh.breaks.Split: function 24 -/
def r24_0 : List PS := [.mk (some 4) (.assign (.const (.slice none 0 0))) none,
  .mk (some 5) (.assign (.const (.int .i64 0))) none]
def r24_1 : List PS := [.mk (some 7) (.move (.tmp 0)) none,
  .mk (some 8) (.move (.tmp 1)) none,
  .mk (some 9) (.call ⟨(.value (.func 12)), #[(.tmp 7), (.tmp 8)], #[3, 22]⟩) none,
  .mk (some 6) (.assign (.tmp 9)) none]
def r24_2 : List PS := [.mk (some 10) (.move (.tmp 6)) none,
  .mk (some 11) (.binOp .neq 27 (.tmp 10) (.const (.int .i64 0)) 27) none]
def r24_3 : List PS := [.mk (some 12) (.move (.tmp 6)) none,
  .mk (some 4) (.assign (.const (.slice none 0 0))) none,
  .mk (some 5) (.assign (.tmp 12)) none]
def r24_4 : List PS := [.mk (some 13) (.move (.tmp 0)) none,
  .mk (some 14) (.binOp .lss 3 (.tmp 13) (.const (.int .i64 1)) 3) none]
def r24_5 : List PS := [.mk (some 4) (.assign (.const (.slice none 0 0))) none,
  .mk (some 5) (.assign (.const (.int .i64 0))) none]
def r24_6 : List PS := [.mk (some 15) (.move (.tmp 0)) none,
  .mk (some 16) (.build 33 #[(1, (.tmp 15))]) none,
  .mk (some 17) (.move (.tmp 1)) none,
  .mk (some 18) (.call ⟨(.value (.func 39)), #[(.tmp 16), (.tmp 17)], #[33, 22]⟩) none,
  .mk (some 19) (.extract (.tmp 18) 0) none,
  .mk (some 20) (.extract (.tmp 18) 1) none,
  .mk (some 4) (.assign (.tmp 19)) none,
  .mk (some 5) (.assign (.tmp 20)) none]
def c24 : PC := (.seq (.reg false r24_0) (.seq (.seq (.reg false r24_1) (.seq (.reg false r24_2) (.cond (.tmp 11) (.seq (.reg false r24_3) .ret) .skip))) (.seq (.seq (.reg false r24_4) (.cond (.tmp 14) (.seq (.reg false r24_5) .ret) .skip)) (.seq (.reg false r24_6) .ret))))
theorem e24 {args : List PV} {h : Heap} {K : PV → Heap → Prop} (hl : args.length = 2) (s : pwp Try.prog [] c24 (fin Try.prog [.tmp 4, .tmp 5] h K) (slots0 (olds args)) h) : CanP Try.prog 24 args h K :=
  can_of2 (n := 21) mixed Try.func24 rfl (by kernel_rfl) (by rw [hl]; kernel_rfl) rfl (by kernel_rfl) s
/-! ### naskh.wrap.Lines: function 8 -/
def r8_0 : List PS := [.mk (some 8) (.assign (.const (.slice none 0 0))) none,
  .mk (some 9) (.assign (.const (.int .i64 0))) none]
def r8_1 : List PS := [.mk (some 13) (.move (.tmp 0)) none,
  .mk (some 14) (.move (.tmp 1)) none,
  .mk (some 15) (.move (.tmp 2)) none,
  .mk (some 16) (.move (.tmp 3)) none,
  .mk (some 17) (.call ⟨(.value (.func 11)), #[(.tmp 13), (.tmp 14), (.tmp 15), (.tmp 16)], #[24, 30, 22, 3]⟩) none,
  .mk (some 12) (.move (.tmp 17)) none,
  .mk (some 18) (.extract (.tmp 12) 0) none,
  .mk (some 19) (.extract (.tmp 12) 1) none,
  .mk (some 10) (.assign (.tmp 18)) none,
  .mk (some 11) (.assign (.tmp 19)) none]
def r8_2 : List PS := [.mk (some 20) (.move (.tmp 11)) none,
  .mk (some 21) (.binOp .neq 27 (.tmp 20) (.const (.int .i64 0)) 27) none]
def r8_3 : List PS := [.mk (some 22) (.move (.tmp 11)) none,
  .mk (some 8) (.assign (.const (.slice none 0 0))) none,
  .mk (some 9) (.assign (.tmp 22)) none]
def r8_4 : List PS := [.mk (some 23) (.move (.tmp 2)) none,
  .mk (some 24) (.call ⟨(.builtin .len), #[(.tmp 23)], #[22]⟩) none,
  .mk (some 25) (.move (.tmp 10)) none,
  .mk (some 26) (.call ⟨(.value (.func 24)), #[(.tmp 24), (.tmp 25)], #[3, 22]⟩) none,
  .mk (some 27) (.extract (.tmp 26) 0) none,
  .mk (some 28) (.extract (.tmp 26) 1) none,
  .mk (some 8) (.assign (.tmp 27)) none,
  .mk (some 9) (.assign (.tmp 28)) none]
def c8 : PC := (.seq (.reg false r8_0) (.seq (.reg false r8_1) (.seq (.seq (.reg false r8_2) (.cond (.tmp 21) (.seq (.reg false r8_3) .ret) .skip)) (.seq (.reg false r8_4) .ret))))
theorem e8 {args : List PV} {h : Heap} {K : PV → Heap → Prop} (hl : args.length = 4) (s : pwp Try.prog [] c8 (fin Try.prog [.tmp 8, .tmp 9] h K) (slots0 (olds args)) h) : CanP Try.prog 8 args h K :=
  can_of2 (n := 29) mixed Try.func8 rfl (by kernel_rfl) (by rw [hl]; kernel_rfl) rfl (by kernel_rfl) s
/-! ### naskh.naskhref06.Get: function 26 -/
def r26_0 : List PS := [.mk (some 6) (.assign (.const (.int .i64 0))) none]
def r26_1 : List PS := [.mk (some 7) (.assign (.const (.int .i64 0))) none]
def r26_2 : List PS := [.mk (some 8) (.move (.tmp 7)) none,
  .mk (some 9) (.move (.tmp 0)) none,
  .mk (some 10) (.call ⟨(.builtin .len), #[(.tmp 9)], #[52]⟩) none,
  .mk (some 11) (.binOp .lss 3 (.tmp 8) (.tmp 10) 3) none]
def r26_3 : List PS := [.mk (some 14) (.move (.tmp 2)) none,
  .mk (some 15) (.move (.tmp 0)) none,
  .mk (some 16) (.move (.tmp 7)) none,
  .mk (some 17) (.indexAddr 52 (.tmp 15) (.tmp 16)) none,
  .mk (some 18) (.fieldAddr 85 (.tmp 17) 0) none,
  .mk (some 19) (.load 3 (.tmp 18)) none,
  .mk (some 20) (.binOp .geq 3 (.tmp 14) (.tmp 19) 3) none,
  .mk (some 21) (.move (.tmp 20)) none,
  .mk (some 22) (.move (.tmp 2)) (some (21, true)),
  .mk (some 23) (.move (.tmp 0)) (some (21, true)),
  .mk (some 24) (.move (.tmp 7)) (some (21, true)),
  .mk (some 25) (.indexAddr 52 (.tmp 23) (.tmp 24)) (some (21, true)),
  .mk (some 26) (.fieldAddr 85 (.tmp 25) 1) (some (21, true)),
  .mk (some 27) (.load 3 (.tmp 26)) (some (21, true)),
  .mk (some 28) (.binOp .leq 3 (.tmp 22) (.tmp 27) 3) (some (21, true)),
  .mk (some 29) (.pick (.tmp 21) (.tmp 28) (.const (.bool false))) none]
def r26_4 : List PS := [.mk (some 30) (.move (.tmp 0)) none,
  .mk (some 31) (.move (.tmp 7)) none,
  .mk (some 32) (.indexAddr 52 (.tmp 30) (.tmp 31)) none,
  .mk (some 33) (.fieldAddr 85 (.tmp 32) 2) none,
  .mk (some 34) (.load 3 (.tmp 33)) none,
  .mk (some 6) (.assign (.tmp 34)) none]
def r26_5 : List PS := [.mk (some 12) (.move (.tmp 7)) none,
  .mk (some 13) (.binOp .add 3 (.tmp 12) (.const (.int .i64 1)) 3) none,
  .mk (some 7) (.assign (.tmp 13)) none]
def r26_6 : List PS := [.mk (some 35) (.move (.tmp 1)) none,
  .mk (some 6) (.assign (.tmp 35)) none]
def c26 : PC := (.seq (.reg false r26_0) (.seq (.seq (.reg false r26_1) (.block 0 (.loop (.seq (.seq (.reg false r26_2) (.cond (.tmp 11) .skip (.exit 0))) (.seq (.block 1 (.seq (.reg false r26_3) (.cond (.tmp 29) (.seq (.reg false r26_4) .ret) .skip))) (.reg false r26_5)))))) (.seq (.reg false r26_6) .ret)))
theorem e26 {args : List PV} {h : Heap} {K : PV → Heap → Prop} (hl : args.length = 3) (s : pwp Try.prog [] c26 (fin Try.prog [.tmp 6] h K) (slots0 (olds args)) h) : CanP Try.prog 26 args h K :=
  can_of2 (n := 36) mixed Try.func26 rfl (by kernel_rfl) (by rw [hl]; kernel_rfl) rfl (by kernel_rfl) s
/-! ### naskh.naskhref07.Class: function 10 -/
def r10_0 : List PS := [.mk (some 2) (.assign (.const (.int .i64 0))) none]
def r10_1 : List PS := [.mk (some 3) (.move (.tmp 0)) none,
  .mk (some 4) (.binOp .lss 3 (.tmp 3) (.const (.int .i64 0)) 3) none,
  .mk (some 5) (.move (.tmp 4)) none,
  .mk (some 6) (.move (.tmp 0)) (some (5, false)),
  .mk (some 7) (.binOp .gtr 3 (.tmp 6) (.const (.int .i64 1114111)) 3) (some (5, false)),
  .mk (some 8) (.pick (.tmp 5) (.const (.bool true)) (.tmp 7)) none]
def r10_2 : List PS := [.mk (some 2) (.assign (.const (.int .i64 13))) none]
def r10_3 : List PS := [.mk (some 9) (.call ⟨(.value (.func 22)), #[], #[]⟩) none,
  .mk (some 10) (.move (.tmp 0)) none,
  .mk (some 11) (.call ⟨(.value (.func 26)), #[(.tmp 9), (.const (.int .i64 0)), (.tmp 10)], #[52, 3, 3]⟩) none,
  .mk (some 2) (.assign (.tmp 11)) none]
def c10 : PC := (.seq (.reg false r10_0) (.seq (.seq (.reg false r10_1) (.cond (.tmp 8) (.seq (.reg false r10_2) .ret) .skip)) (.seq (.reg false r10_3) .ret)))
theorem e10 {args : List PV} {h : Heap} {K : PV → Heap → Prop} (hl : args.length = 1) (s : pwp Try.prog [] c10 (fin Try.prog [.tmp 2] h K) (slots0 (olds args)) h) : CanP Try.prog 10 args h K :=
  can_of2 (n := 12) mixed Try.func10 rfl (by kernel_rfl) (by rw [hl]; kernel_rfl) rfl (by kernel_rfl) s
/-! ### naskh.naskhlaw43.WrapWide: function 3 -/
def r3_0 : List PS := [.mk (some 2) (.assign (.const (.bool false))) none]
def r3_1 : List PS := [.mk (some 9) (.move (.tmp 0)) none,
  .mk (some 10) (.call ⟨(.builtin .len), #[(.tmp 9)], #[22]⟩) none,
  .mk (some 11) (.binOp .gtr 3 (.tmp 10) (.const (.int .i64 100)) 3) none]
def r3_2 : List PS := [.mk (some 12) (.call ⟨(.value (.func 6)), #[], #[]⟩) none,
  .mk (some 2) (.assign (.tmp 12)) none]
def r3_3 : List PS := [.mk (some 13) (.call ⟨(.value (.func 7)), #[], #[]⟩) none,
  .mk (some 3) (.assign (.tmp 13)) none]
def r3_4 : List PS := [.mk (some 15) (.move (.tmp 3)) none,
  .mk (some 16) (.move (.tmp 3)) none,
  .mk (some 17) (.call ⟨(.value (.func 9)), #[(.tmp 16)], #[24]⟩) none,
  .mk (some 18) (.move (.tmp 0)) none,
  .mk (some 19) (.call ⟨(.value (.func 8)), #[(.tmp 15), (.tmp 17), (.tmp 18), (.const (.int .i64 1048576))], #[24, 30, 22, 3]⟩) none,
  .mk (some 14) (.move (.tmp 19)) none,
  .mk (some 20) (.extract (.tmp 14) 0) none,
  .mk (some 21) (.extract (.tmp 14) 1) none,
  .mk (some 4) (.assign (.tmp 20)) none,
  .mk (some 5) (.assign (.tmp 21)) none]
def r3_5 : List PS := [.mk (some 22) (.move (.tmp 5)) none,
  .mk (some 23) (.binOp .neq 27 (.tmp 22) (.const (.int .i64 0)) 27) none]
def r3_6 : List PS := [.mk (some 2) (.assign (.const (.bool false))) none]
def r3_7 : List PS := [.mk (some 24) (.move (.tmp 4)) none,
  .mk (some 25) (.call ⟨(.builtin .len), #[(.tmp 24)], #[26]⟩) none,
  .mk (some 26) (.move (.const (.int .i64 0))) none]
def r3_8 : List PS := [.mk (some 27) (.binOp .lss 3 (.tmp 26) (.tmp 25) 3) none]
def r3_9 : List PS := [.mk (some 28) (.move (.tmp 26)) none,
  .mk (some 29) (.indexAddr 26 (.tmp 24) (.tmp 26)) none,
  .mk (some 30) (.load 33 (.tmp 29)) none,
  .mk (some 7) (.alloc 33) none,
  .mk (some 6) (.assign (.tmp 28)) none,
  .mk none (.store 33 (.tmp 7) (.tmp 30)) none]
def r3_10 : List PS := [.mk (some 31) (.fieldAddr 33 (.tmp 7) 0) none,
  .mk (some 32) (.load 3 (.tmp 31)) none,
  .mk (some 8) (.assign (.tmp 32)) none]
def r3_11 : List PS := [.mk (some 33) (.move (.tmp 8)) none,
  .mk (some 34) (.binOp .add 3 (.tmp 33) (.const (.int .i64 1)) 3) none,
  .mk (some 35) (.fieldAddr 33 (.tmp 7) 1) none,
  .mk (some 36) (.load 3 (.tmp 35)) none,
  .mk (some 37) (.binOp .lss 3 (.tmp 34) (.tmp 36) 3) none]
def r3_12 : List PS := [.mk (some 40) (.move (.tmp 0)) none,
  .mk (some 41) (.move (.tmp 8)) none,
  .mk (some 42) (.indexAddr 22 (.tmp 40) (.tmp 41)) none,
  .mk (some 43) (.load 3 (.tmp 42)) none,
  .mk (some 44) (.call ⟨(.value (.func 10)), #[(.tmp 43)], #[3]⟩) none,
  .mk (some 45) (.binOp .eql 3 (.tmp 44) (.const (.int .i64 10)) 3) none,
  .mk (some 46) (.move (.tmp 45)) none,
  .mk (some 47) (.move (.tmp 0)) (some (46, true)),
  .mk (some 48) (.move (.tmp 8)) (some (46, true)),
  .mk (some 49) (.indexAddr 22 (.tmp 47) (.tmp 48)) (some (46, true)),
  .mk (some 50) (.load 3 (.tmp 49)) (some (46, true)),
  .mk (some 51) (.binOp .neq 3 (.tmp 50) (.const (.int .i64 13)) 3) (some (46, true)),
  .mk (some 52) (.move (.tmp 51)) (some (46, true)),
  .mk (some 53) (.move (.tmp 0)) (some (52, false)),
  .mk (some 54) (.move (.tmp 8)) (some (52, false)),
  .mk (some 55) (.binOp .add 3 (.tmp 54) (.const (.int .i64 1)) 3) (some (52, false)),
  .mk (some 56) (.indexAddr 22 (.tmp 53) (.tmp 55)) (some (52, false)),
  .mk (some 57) (.load 3 (.tmp 56)) (some (52, false)),
  .mk (some 58) (.binOp .neq 3 (.tmp 57) (.const (.int .i64 10)) 3) (some (52, false)),
  .mk (some 59) (.pick (.tmp 52) (.const (.bool true)) (.tmp 58)) (some (46, true)),
  .mk (some 60) (.pick (.tmp 46) (.tmp 59) (.const (.bool false))) none]
def r3_13 : List PS := [.mk (some 2) (.assign (.const (.bool false))) none]
def r3_14 : List PS := [.mk (some 38) (.move (.tmp 8)) none,
  .mk (some 39) (.binOp .add 3 (.tmp 38) (.const (.int .i64 1)) 3) none,
  .mk (some 8) (.assign (.tmp 39)) none]
def r3_15 : List PS := [.mk (some 61) (.move (.tmp 6)) none,
  .mk (some 62) (.binOp .add 3 (.tmp 61) (.const (.int .i64 1)) 3) none,
  .mk (some 63) (.move (.tmp 4)) none,
  .mk (some 64) (.call ⟨(.builtin .len), #[(.tmp 63)], #[26]⟩) none,
  .mk (some 65) (.binOp .lss 3 (.tmp 62) (.tmp 64) 3) none,
  .mk (some 66) (.move (.tmp 65)) none,
  .mk (some 67) (.move (.tmp 0)) (some (66, true)),
  .mk (some 68) (.fieldAddr 33 (.tmp 7) 1) (some (66, true)),
  .mk (some 69) (.load 3 (.tmp 68)) (some (66, true)),
  .mk (some 70) (.binOp .sub 3 (.tmp 69) (.const (.int .i64 1)) 3) (some (66, true)),
  .mk (some 71) (.indexAddr 22 (.tmp 67) (.tmp 70)) (some (66, true)),
  .mk (some 72) (.load 3 (.tmp 71)) (some (66, true)),
  .mk (some 73) (.call ⟨(.value (.func 10)), #[(.tmp 72)], #[3]⟩) (some (66, true)),
  .mk (some 74) (.binOp .neq 3 (.tmp 73) (.const (.int .i64 10)) 3) (some (66, true)),
  .mk (some 75) (.pick (.tmp 66) (.tmp 74) (.const (.bool false))) none]
def r3_16 : List PS := [.mk (some 2) (.assign (.const (.bool false))) none]
def r3_17 : List PS := [.mk (some 76) (.binOp .add 3 (.tmp 26) (.const (.int .i64 1)) 3) none,
  .mk (some 26) (.move (.tmp 76)) none]
def r3_18 : List PS := [.mk (some 77) (.call ⟨(.value (.func 6)), #[], #[]⟩) none,
  .mk (some 2) (.assign (.tmp 77)) none]
def c3 : PC := (.seq (.reg false r3_0) (.seq (.seq (.reg false r3_1) (.cond (.tmp 11) (.seq (.reg false r3_2) .ret) .skip)) (.seq (.reg false r3_3) (.seq (.reg false r3_4) (.seq (.seq (.reg false r3_5) (.cond (.tmp 23) (.seq (.reg false r3_6) .ret) .skip)) (.seq (.seq (.reg false r3_7) (.block 0 (.loop (.seq (.reg false r3_8) (.seq (.cond (.tmp 27) .skip (.exit 0)) (.seq (.block 1 (.seq (.reg false r3_9) (.seq (.seq (.reg false r3_10) (.block 2 (.loop (.seq (.seq (.reg false r3_11) (.cond (.tmp 37) .skip (.exit 2))) (.seq (.block 3 (.seq (.reg false r3_12) (.cond (.tmp 60) (.seq (.reg false r3_13) .ret) .skip))) (.reg false r3_14)))))) (.seq (.reg false r3_15) (.cond (.tmp 75) (.seq (.reg false r3_16) .ret) .skip))))) (.reg false r3_17))))))) (.seq (.reg false r3_18) .ret)))))))
theorem e3 {args : List PV} {h : Heap} {K : PV → Heap → Prop} (hl : args.length = 1) (s : pwp Try.prog [7] c3 (fin Try.prog [.tmp 2] h K) (slots0 (olds args)) h) : CanP Try.prog 3 args h K :=
  can_of2 (n := 78) mixed Try.func3 rfl (by kernel_rfl) (by rw [hl]; kernel_rfl) rfl (by kernel_rfl) s
/-! ### naskh.span.Parts: function 13 -/
def r13_0 : List PS := [.mk (some 4) (.assign (.const (.bool false))) none]
def r13_1 : List PS := [.mk (some 5) (.assign (.const (.int .i64 0))) none]
def r13_2 : List PS := [.mk (some 8) (.move (.tmp 0)) none,
  .mk (some 9) (.call ⟨(.builtin .len), #[(.tmp 8)], #[26]⟩) none,
  .mk (some 10) (.move (.const (.int .i64 0))) none]
def r13_3 : List PS := [.mk (some 11) (.binOp .lss 3 (.tmp 10) (.tmp 9) 3) none]
def r13_4 : List PS := [.mk (some 12) (.indexAddr 26 (.tmp 8) (.tmp 10)) none,
  .mk (some 13) (.load 33 (.tmp 12)) none,
  .mk (some 7) (.alloc 33) none,
  .mk none (.store 33 (.tmp 7) (.tmp 13)) none,
  .frz 7]
def r13_5 : List PS := [.mk (some 14) (.fieldAddr 33 (.tmp 7) 0) none,
  .mk (some 15) (.load 3 (.tmp 14)) none,
  .mk (some 16) (.move (.tmp 5)) none,
  .mk (some 17) (.binOp .neq 3 (.tmp 15) (.tmp 16) 3) none,
  .mk (some 18) (.move (.tmp 17)) none,
  .mk (some 19) (.load 33 (.tmp 7)) (some (18, false)),
  .mk (some 20) (.call ⟨(.value (.func 29)), #[(.tmp 19)], #[33]⟩) (some (18, false)),
  .mk (some 21) (.unOp .not 4 (.tmp 20)) (some (18, false)),
  .mk (some 22) (.pick (.tmp 18) (.const (.bool true)) (.tmp 21)) none]
def r13_6 : List PS := [.mk (some 4) (.assign (.const (.bool false))) none]
def r13_7 : List PS := [.mk (some 23) (.fieldAddr 33 (.tmp 7) 1) none,
  .mk (some 24) (.load 3 (.tmp 23)) none,
  .mk (some 5) (.assign (.tmp 24)) none]
def r13_8 : List PS := [.mk (some 25) (.binOp .add 3 (.tmp 10) (.const (.int .i64 1)) 3) none,
  .mk (some 10) (.move (.tmp 25)) none]
def r13_9 : List PS := [.mk (some 26) (.move (.tmp 5)) none,
  .mk (some 27) (.move (.tmp 1)) none,
  .mk (some 28) (.binOp .eql 3 (.tmp 26) (.tmp 27) 3) none,
  .mk (some 4) (.assign (.tmp 28)) none]
def c13 : PC := (.seq (.reg false r13_0) (.seq (.reg false r13_1) (.seq (.seq (.reg false r13_2) (.block 0 (.loop (.seq (.reg false r13_3) (.seq (.cond (.tmp 11) .skip (.exit 0)) (.seq (.block 1 (.seq (.reg false r13_4) (.seq (.seq (.reg false r13_5) (.cond (.tmp 22) (.seq (.reg false r13_6) .ret) .skip)) (.reg false r13_7)))) (.reg false r13_8))))))) (.seq (.reg false r13_9) .ret))))
theorem e13 {args : List PV} {h : Heap} {K : PV → Heap → Prop} (hl : args.length = 2) (s : pwp Try.prog [7] c13 (fin Try.prog [.tmp 4] h K) (slots0 (olds args)) h) : CanP Try.prog 13 args h K :=
  can_of2 (n := 29) mixed Try.func13 rfl (by kernel_rfl) (by rw [hl]; kernel_rfl) rfl (by kernel_rfl) s
/-! ### naskh.naskhlaw43.WrapFits: function 4 -/
def r4_0 : List PS := [.mk (some 4) (.assign (.const (.bool false))) none]
def r4_1 : List PS := [.mk (some 15) (.move (.tmp 0)) none,
  .mk (some 16) (.call ⟨(.builtin .len), #[(.tmp 15)], #[22]⟩) none,
  .mk (some 17) (.binOp .gtr 3 (.tmp 16) (.const (.int .i64 60)) 3) none]
def r4_2 : List PS := [.mk (some 18) (.call ⟨(.value (.func 6)), #[], #[]⟩) none,
  .mk (some 4) (.assign (.tmp 18)) none]
def r4_3 : List PS := [.mk (some 19) (.call ⟨(.value (.func 7)), #[], #[]⟩) none,
  .mk (some 5) (.assign (.tmp 19)) none]
def r4_4 : List PS := [.mk (some 20) (.move (.tmp 5)) none,
  .mk (some 21) (.call ⟨(.value (.func 9)), #[(.tmp 20)], #[24]⟩) none,
  .mk (some 6) (.assign (.tmp 21)) none]
def r4_5 : List PS := [.mk (some 22) (.move (.tmp 1)) none,
  .mk (some 23) (.binOp .rem 5 (.tmp 22) (.const (.int .u8 40)) 5) none,
  .mk (some 24) (.convert 5 3 (.tmp 23)) none,
  .mk (some 25) (.binOp .add 3 (.const (.int .i64 1)) (.tmp 24) 3) none,
  .mk (some 7) (.assign (.tmp 25)) none]
def r4_6 : List PS := [.mk (some 27) (.move (.tmp 5)) none,
  .mk (some 28) (.move (.tmp 6)) none,
  .mk (some 29) (.move (.tmp 0)) none,
  .mk (some 30) (.move (.tmp 7)) none,
  .mk (some 31) (.call ⟨(.value (.func 11)), #[(.tmp 27), (.tmp 28), (.tmp 29), (.tmp 30)], #[24, 30, 22, 3]⟩) none,
  .mk (some 26) (.move (.tmp 31)) none,
  .mk (some 32) (.extract (.tmp 26) 0) none,
  .mk (some 33) (.extract (.tmp 26) 1) none,
  .mk (some 8) (.assign (.tmp 32)) none,
  .mk (some 9) (.assign (.tmp 33)) none]
def r4_7 : List PS := [.mk (some 35) (.move (.tmp 5)) none,
  .mk (some 36) (.move (.tmp 6)) none,
  .mk (some 37) (.move (.tmp 0)) none,
  .mk (some 38) (.move (.tmp 7)) none,
  .mk (some 39) (.call ⟨(.value (.func 8)), #[(.tmp 35), (.tmp 36), (.tmp 37), (.tmp 38)], #[24, 30, 22, 3]⟩) none,
  .mk (some 34) (.move (.tmp 39)) none,
  .mk (some 40) (.extract (.tmp 34) 0) none,
  .mk (some 41) (.extract (.tmp 34) 1) none,
  .mk (some 10) (.assign (.tmp 40)) none,
  .mk (some 11) (.assign (.tmp 41)) none]
def r4_8 : List PS := [.mk (some 42) (.move (.tmp 9)) none,
  .mk (some 43) (.binOp .neq 27 (.tmp 42) (.const (.int .i64 0)) 27) none,
  .mk (some 44) (.move (.tmp 43)) none,
  .mk (some 45) (.move (.tmp 11)) (some (44, false)),
  .mk (some 46) (.binOp .neq 27 (.tmp 45) (.const (.int .i64 0)) 27) (some (44, false)),
  .mk (some 47) (.pick (.tmp 44) (.const (.bool true)) (.tmp 46)) none,
  .mk (some 48) (.move (.tmp 47)) none,
  .mk (some 49) (.move (.tmp 0)) (some (48, false)),
  .mk (some 50) (.call ⟨(.builtin .len), #[(.tmp 49)], #[22]⟩) (some (48, false)),
  .mk (some 51) (.move (.tmp 8)) (some (48, false)),
  .mk (some 52) (.call ⟨(.value (.func 12)), #[(.tmp 50), (.tmp 51)], #[3, 22]⟩) (some (48, false)),
  .mk (some 53) (.binOp .neq 27 (.tmp 52) (.const (.int .i64 0)) 27) (some (48, false)),
  .mk (some 54) (.pick (.tmp 48) (.const (.bool true)) (.tmp 53)) none,
  .mk (some 55) (.move (.tmp 54)) none,
  .mk (some 56) (.move (.tmp 10)) (some (55, false)),
  .mk (some 57) (.move (.tmp 0)) (some (55, false)),
  .mk (some 58) (.call ⟨(.builtin .len), #[(.tmp 57)], #[22]⟩) (some (55, false)),
  .mk (some 59) (.call ⟨(.value (.func 13)), #[(.tmp 56), (.tmp 58)], #[26, 3]⟩) (some (55, false)),
  .mk (some 60) (.unOp .not 4 (.tmp 59)) (some (55, false)),
  .mk (some 61) (.pick (.tmp 55) (.const (.bool true)) (.tmp 60)) none]
def r4_9 : List PS := [.mk (some 4) (.assign (.const (.bool false))) none]
def r4_10 : List PS := [.mk (some 62) (.move (.tmp 10)) none,
  .mk (some 63) (.call ⟨(.builtin .len), #[(.tmp 62)], #[26]⟩) none,
  .mk (some 64) (.move (.const (.int .i64 0))) none]
def r4_11 : List PS := [.mk (some 65) (.binOp .lss 3 (.tmp 64) (.tmp 63) 3) none]
def r4_12 : List PS := [.mk (some 66) (.indexAddr 26 (.tmp 62) (.tmp 64)) none,
  .mk (some 67) (.load 33 (.tmp 66)) none,
  .mk (some 13) (.alloc 33) none,
  .mk none (.store 33 (.tmp 13) (.tmp 67)) none,
  .frz 13]
def r4_13 : List PS := [.mk (some 68) (.move (.tmp 0)) none,
  .mk (some 69) (.fieldAddr 33 (.tmp 13) 0) none,
  .mk (some 70) (.load 3 (.tmp 69)) none,
  .mk (some 71) (.fieldAddr 33 (.tmp 13) 1) none,
  .mk (some 72) (.load 3 (.tmp 71)) none,
  .mk (some 73) (.slice 22 (.tmp 68) (some (.tmp 70)) (some (.tmp 72)) none) none,
  .mk (some 14) (.assign (.tmp 73)) none]
def r4_14 : List PS := [.mk (some 74) (.move (.tmp 14)) none,
  .mk (some 75) (.call ⟨(.builtin .len), #[(.tmp 74)], #[22]⟩) none,
  .mk (some 76) (.binOp .gtr 3 (.tmp 75) (.const (.int .i64 0)) 3) none,
  .mk (some 77) (.move (.tmp 76)) none,
  .mk (some 78) (.move (.tmp 14)) (some (77, true)),
  .mk (some 79) (.move (.tmp 14)) (some (77, true)),
  .mk (some 80) (.call ⟨(.builtin .len), #[(.tmp 79)], #[22]⟩) (some (77, true)),
  .mk (some 81) (.binOp .sub 3 (.tmp 80) (.const (.int .i64 1)) 3) (some (77, true)),
  .mk (some 82) (.indexAddr 22 (.tmp 78) (.tmp 81)) (some (77, true)),
  .mk (some 83) (.load 3 (.tmp 82)) (some (77, true)),
  .mk (some 84) (.call ⟨(.value (.func 10)), #[(.tmp 83)], #[3]⟩) (some (77, true)),
  .mk (some 85) (.binOp .eql 3 (.tmp 84) (.const (.int .i64 12)) 3) (some (77, true)),
  .mk (some 86) (.move (.tmp 85)) (some (77, true)),
  .mk (some 87) (.move (.tmp 14)) (some (86, false)),
  .mk (some 88) (.move (.tmp 14)) (some (86, false)),
  .mk (some 89) (.call ⟨(.builtin .len), #[(.tmp 88)], #[22]⟩) (some (86, false)),
  .mk (some 90) (.binOp .sub 3 (.tmp 89) (.const (.int .i64 1)) 3) (some (86, false)),
  .mk (some 91) (.indexAddr 22 (.tmp 87) (.tmp 90)) (some (86, false)),
  .mk (some 92) (.load 3 (.tmp 91)) (some (86, false)),
  .mk (some 93) (.call ⟨(.value (.func 10)), #[(.tmp 92)], #[3]⟩) (some (86, false)),
  .mk (some 94) (.binOp .eql 3 (.tmp 93) (.const (.int .i64 10)) 3) (some (86, false)),
  .mk (some 95) (.pick (.tmp 86) (.const (.bool true)) (.tmp 94)) (some (77, true)),
  .mk (some 96) (.pick (.tmp 77) (.tmp 95) (.const (.bool false))) none]
def r4_15 : List PS := [.mk (some 97) (.move (.tmp 14)) none,
  .mk (some 98) (.move (.tmp 14)) none,
  .mk (some 99) (.call ⟨(.builtin .len), #[(.tmp 98)], #[22]⟩) none,
  .mk (some 100) (.binOp .sub 3 (.tmp 99) (.const (.int .i64 1)) 3) none,
  .mk (some 101) (.slice 22 (.tmp 97) none (some (.tmp 100)) none) none,
  .mk (some 14) (.assign (.tmp 101)) none]
def r4_16 : List PS := [.mk (some 102) (.move (.tmp 6)) none,
  .mk (some 103) (.move (.tmp 14)) none,
  .mk (some 104) (.call ⟨(.value (.func 14)), #[(.tmp 102), (.tmp 103)], #[30, 22]⟩) none,
  .mk (some 105) (.move (.tmp 7)) none,
  .mk (some 106) (.call ⟨(.builtin .max), #[(.tmp 105), (.const (.int .i64 2))], #[3, 3]⟩) none,
  .mk (some 107) (.binOp .gtr 3 (.tmp 104) (.tmp 106) 3) none]
def r4_17 : List PS := [.mk (some 4) (.assign (.const (.bool false))) none]
def r4_18 : List PS := [.mk (some 108) (.binOp .add 3 (.tmp 64) (.const (.int .i64 1)) 3) none,
  .mk (some 64) (.move (.tmp 108)) none]
def r4_19 : List PS := [.mk (some 109) (.call ⟨(.value (.func 6)), #[], #[]⟩) none,
  .mk (some 4) (.assign (.tmp 109)) none]
def c4 : PC := (.seq (.reg false r4_0) (.seq (.seq (.reg false r4_1) (.cond (.tmp 17) (.seq (.reg false r4_2) .ret) .skip)) (.seq (.reg false r4_3) (.seq (.reg false r4_4) (.seq (.reg false r4_5) (.seq (.reg false r4_6) (.seq (.reg false r4_7) (.seq (.seq (.reg false r4_8) (.cond (.tmp 61) (.seq (.reg false r4_9) .ret) .skip)) (.seq (.seq (.reg false r4_10) (.block 0 (.loop (.seq (.reg false r4_11) (.seq (.cond (.tmp 65) .skip (.exit 0)) (.seq (.block 1 (.seq (.reg false r4_12) (.seq (.reg false r4_13) (.seq (.block 2 (.loop (.seq (.seq (.reg false r4_14) (.cond (.tmp 96) .skip (.exit 2))) (.block 3 (.reg false r4_15))))) (.seq (.reg false r4_16) (.cond (.tmp 107) (.seq (.reg false r4_17) .ret) .skip)))))) (.reg false r4_18))))))) (.seq (.reg false r4_19) .ret))))))))))
theorem e4 {args : List PV} {h : Heap} {K : PV → Heap → Prop} (hl : args.length = 2) (s : pwp Try.prog [13] c4 (fin Try.prog [.tmp 4] h K) (slots0 (olds args)) h) : CanP Try.prog 4 args h K :=
  can_of2 (n := 110) mixed Try.func4 rfl (by kernel_rfl) (by rw [hl]; kernel_rfl) rfl (by kernel_rfl) s
/-! ### naskh.naskhref20.Split: function 31 -/
def r31_0 : List PS := [.mk (some 2) (.assign (.const (.slice none 0 0))) none]
def r31_1 : List PS := [.mk (some 3) (.assign (.const (.slice none 0 0))) none]
def r31_2 : List PS := [.mk (some 4) (.assign (.const (.int .i64 0))) none]
def r31_3 : List PS := [.mk (some 5) (.assign (.const (.int .i64 0))) none]
def r31_4 : List PS := [.mk (some 7) (.move (.tmp 5)) none,
  .mk (some 8) (.move (.tmp 0)) none,
  .mk (some 9) (.call ⟨(.builtin .len), #[(.tmp 8)], #[22]⟩) none,
  .mk (some 10) (.binOp .lss 3 (.tmp 7) (.tmp 9) 3) none]
def r31_5 : List PS := [.mk (some 13) (.move (.tmp 0)) none,
  .mk (some 14) (.move (.tmp 5)) none,
  .mk (some 15) (.indexAddr 22 (.tmp 13) (.tmp 14)) none,
  .mk (some 16) (.load 3 (.tmp 15)) none,
  .mk (some 17) (.binOp .eql 3 (.tmp 16) (.const (.int .i64 13)) 3) none,
  .mk (some 18) (.move (.tmp 17)) none,
  .mk (some 19) (.move (.tmp 5)) (some (18, true)),
  .mk (some 20) (.binOp .add 3 (.tmp 19) (.const (.int .i64 1)) 3) (some (18, true)),
  .mk (some 21) (.move (.tmp 0)) (some (18, true)),
  .mk (some 22) (.call ⟨(.builtin .len), #[(.tmp 21)], #[22]⟩) (some (18, true)),
  .mk (some 23) (.binOp .lss 3 (.tmp 20) (.tmp 22) 3) (some (18, true)),
  .mk (some 24) (.pick (.tmp 18) (.tmp 23) (.const (.bool false))) none,
  .mk (some 25) (.move (.tmp 24)) none,
  .mk (some 26) (.move (.tmp 0)) (some (25, true)),
  .mk (some 27) (.move (.tmp 5)) (some (25, true)),
  .mk (some 28) (.binOp .add 3 (.tmp 27) (.const (.int .i64 1)) 3) (some (25, true)),
  .mk (some 29) (.indexAddr 22 (.tmp 26) (.tmp 28)) (some (25, true)),
  .mk (some 30) (.load 3 (.tmp 29)) (some (25, true)),
  .mk (some 31) (.binOp .eql 3 (.tmp 30) (.const (.int .i64 10)) 3) (some (25, true)),
  .mk (some 32) (.pick (.tmp 25) (.tmp 31) (.const (.bool false))) none,
  .mk (some 6) (.assign (.tmp 32)) none]
def r31_6 : List PS := [.mk (some 33) (.move (.tmp 0)) none,
  .mk (some 34) (.move (.tmp 5)) none,
  .mk (some 35) (.indexAddr 22 (.tmp 33) (.tmp 34)) none,
  .mk (some 36) (.load 3 (.tmp 35)) none,
  .mk (some 37) (.call ⟨(.value (.func 10)), #[(.tmp 36)], #[3]⟩) none,
  .mk (some 38) (.binOp .eql 3 (.tmp 37) (.const (.int .i64 10)) 3) none,
  .mk (some 39) (.move (.tmp 38)) none,
  .mk (some 40) (.move (.tmp 6)) (some (39, true)),
  .mk (some 41) (.unOp .not 4 (.tmp 40)) (some (39, true)),
  .mk (some 42) (.pick (.tmp 39) (.tmp 41) (.const (.bool false))) none,
  .mk (some 43) (.move (.tmp 42)) none,
  .mk (some 44) (.move (.tmp 5)) (some (43, false)),
  .mk (some 45) (.binOp .add 3 (.tmp 44) (.const (.int .i64 1)) 3) (some (43, false)),
  .mk (some 46) (.move (.tmp 0)) (some (43, false)),
  .mk (some 47) (.call ⟨(.builtin .len), #[(.tmp 46)], #[22]⟩) (some (43, false)),
  .mk (some 48) (.binOp .eql 3 (.tmp 45) (.tmp 47) 3) (some (43, false)),
  .mk (some 49) (.pick (.tmp 43) (.const (.bool true)) (.tmp 48)) none]
def r31_7 : List PS := [.mk (some 50) (.move (.tmp 3)) none,
  .mk (some 51) (.move (.tmp 4)) none,
  .mk (some 52) (.move (.tmp 5)) none,
  .mk (some 53) (.binOp .add 3 (.tmp 52) (.const (.int .i64 1)) 3) none,
  .mk (some 54) (.build 33 #[(0, (.tmp 51)), (1, (.tmp 53))]) none,
  .mk (some 55) (.buildSlice 26 1 #[(0, (.tmp 54))]) none,
  .mk (some 56) (.call ⟨(.builtin .append), #[(.tmp 50), (.tmp 55)], #[26, 26]⟩) none,
  .mk (some 3) (.assign (.tmp 56)) none]
def r31_8 : List PS := [.mk (some 57) (.move (.tmp 5)) none,
  .mk (some 58) (.binOp .add 3 (.tmp 57) (.const (.int .i64 1)) 3) none,
  .mk (some 4) (.assign (.tmp 58)) none]
def r31_9 : List PS := [.mk (some 11) (.move (.tmp 5)) none,
  .mk (some 12) (.binOp .add 3 (.tmp 11) (.const (.int .i64 1)) 3) none,
  .mk (some 5) (.assign (.tmp 12)) none]
def r31_10 : List PS := [.mk (some 59) (.move (.tmp 3)) none,
  .mk (some 2) (.assign (.tmp 59)) none]
def c31 : PC := (.seq (.reg false r31_0) (.seq (.reg false r31_1) (.seq (.reg false r31_2) (.seq (.seq (.reg false r31_3) (.block 0 (.loop (.seq (.seq (.reg false r31_4) (.cond (.tmp 10) .skip (.exit 0))) (.seq (.block 1 (.seq (.reg false r31_5) (.seq (.reg false r31_6) (.cond (.tmp 49) (.seq (.reg false r31_7) (.reg false r31_8)) .skip)))) (.reg false r31_9)))))) (.seq (.reg false r31_10) .ret)))))
theorem e31 {args : List PV} {h : Heap} {K : PV → Heap → Prop} (hl : args.length = 1) (s : pwp Try.prog [] c31 (fin Try.prog [.tmp 2] h K) (slots0 (olds args)) h) : CanP Try.prog 31 args h K :=
  can_of2 (n := 60) mixed Try.func31 rfl (by kernel_rfl) (by rw [hl]; kernel_rfl) rfl (by kernel_rfl) s
/-! ### naskh.naskhref43.begins: function 48 -/
def r48_0 : List PS := [.mk (some 4) (.assign (.const (.bool false))) none]
def r48_1 : List PS := [.mk (some 5) (.assign (.const (.int .i64 0))) none]
def r48_2 : List PS := [.mk (some 6) (.move (.tmp 5)) none,
  .mk (some 7) (.move (.tmp 0)) none,
  .mk (some 8) (.call ⟨(.builtin .len), #[(.tmp 7)], #[26]⟩) none,
  .mk (some 9) (.binOp .lss 3 (.tmp 6) (.tmp 8) 3) none]
def r48_3 : List PS := [.mk (some 12) (.move (.tmp 0)) none,
  .mk (some 13) (.move (.tmp 5)) none,
  .mk (some 14) (.indexAddr 26 (.tmp 12) (.tmp 13)) none,
  .mk (some 15) (.fieldAddr 33 (.tmp 14) 0) none,
  .mk (some 16) (.load 3 (.tmp 15)) none,
  .mk (some 17) (.move (.tmp 1)) none,
  .mk (some 18) (.binOp .eql 3 (.tmp 16) (.tmp 17) 3) none]
def r48_4 : List PS := [.mk (some 4) (.assign (.const (.bool true))) none]
def r48_5 : List PS := [.mk (some 10) (.move (.tmp 5)) none,
  .mk (some 11) (.binOp .add 3 (.tmp 10) (.const (.int .i64 1)) 3) none,
  .mk (some 5) (.assign (.tmp 11)) none]
def r48_6 : List PS := [.mk (some 4) (.assign (.const (.bool false))) none]
def c48 : PC := (.seq (.reg false r48_0) (.seq (.seq (.reg false r48_1) (.block 0 (.loop (.seq (.seq (.reg false r48_2) (.cond (.tmp 9) .skip (.exit 0))) (.seq (.block 1 (.seq (.reg false r48_3) (.cond (.tmp 18) (.seq (.reg false r48_4) .ret) .skip))) (.reg false r48_5)))))) (.seq (.reg false r48_6) .ret)))
theorem e48 {args : List PV} {h : Heap} {K : PV → Heap → Prop} (hl : args.length = 2) (s : pwp Try.prog [] c48 (fin Try.prog [.tmp 4] h K) (slots0 (olds args)) h) : CanP Try.prog 48 args h K :=
  can_of2 (n := 19) mixed Try.func48 rfl (by kernel_rfl) (by rw [hl]; kernel_rfl) rfl (by kernel_rfl) s
/-! ### naskh.naskhref43.may: function 35 -/
def r35_0 : List PS := [.mk (some 6) (.assign (.const (.bool false))) none]
def r35_1 : List PS := [.mk (some 9) (.move (.tmp 2)) none,
  .mk (some 10) (.binOp .lss 3 (.tmp 9) (.const (.int .i64 1)) 3) none,
  .mk (some 11) (.move (.tmp 10)) none,
  .mk (some 12) (.move (.tmp 2)) (some (11, false)),
  .mk (some 13) (.move (.tmp 0)) (some (11, false)),
  .mk (some 14) (.call ⟨(.builtin .len), #[(.tmp 13)], #[22]⟩) (some (11, false)),
  .mk (some 15) (.binOp .geq 3 (.tmp 12) (.tmp 14) 3) (some (11, false)),
  .mk (some 16) (.pick (.tmp 11) (.const (.bool true)) (.tmp 15)) none]
def r35_2 : List PS := [.mk (some 6) (.assign (.const (.bool false))) none]
def r35_3 : List PS := [.mk (some 17) (.move (.tmp 0)) none,
  .mk (some 18) (.move (.tmp 2)) none,
  .mk (some 19) (.binOp .sub 3 (.tmp 18) (.const (.int .i64 1)) 3) none,
  .mk (some 20) (.indexAddr 22 (.tmp 17) (.tmp 19)) none,
  .mk (some 21) (.load 3 (.tmp 20)) none,
  .mk (some 22) (.call ⟨(.value (.func 10)), #[(.tmp 21)], #[3]⟩) none,
  .mk (some 23) (.move (.tmp 0)) none,
  .mk (some 24) (.move (.tmp 2)) none,
  .mk (some 25) (.indexAddr 22 (.tmp 23) (.tmp 24)) none,
  .mk (some 26) (.load 3 (.tmp 25)) none,
  .mk (some 27) (.call ⟨(.value (.func 10)), #[(.tmp 26)], #[3]⟩) none,
  .mk (some 7) (.assign (.tmp 22)) none,
  .mk (some 8) (.assign (.tmp 27)) none]
def r35_4 : List PS := [.mk (some 28) (.move (.tmp 7)) none,
  .mk (some 29) (.binOp .eql 3 (.tmp 28) (.const (.int .i64 12)) 3) none,
  .mk (some 30) (.move (.tmp 29)) none,
  .mk (some 31) (.move (.tmp 8)) (some (30, true)),
  .mk (some 32) (.binOp .neq 3 (.tmp 31) (.const (.int .i64 12)) 3) (some (30, true)),
  .mk (some 33) (.pick (.tmp 30) (.tmp 32) (.const (.bool false))) none,
  .mk (some 34) (.move (.tmp 33)) none,
  .mk (some 35) (.move (.tmp 8)) (some (34, true)),
  .mk (some 36) (.binOp .neq 3 (.tmp 35) (.const (.int .i64 8)) 3) (some (34, true)),
  .mk (some 37) (.pick (.tmp 34) (.tmp 36) (.const (.bool false))) none,
  .mk (some 38) (.move (.tmp 37)) none,
  .mk (some 39) (.move (.tmp 1)) (some (38, false)),
  .mk (some 40) (.move (.tmp 2)) (some (38, false)),
  .mk (some 41) (.call ⟨(.value (.func 48)), #[(.tmp 39), (.tmp 40)], #[26, 3]⟩) (some (38, false)),
  .mk (some 42) (.pick (.tmp 38) (.const (.bool true)) (.tmp 41)) none,
  .mk (some 6) (.assign (.tmp 42)) none]
def c35 : PC := (.seq (.reg false r35_0) (.seq (.seq (.reg false r35_1) (.cond (.tmp 16) (.seq (.reg false r35_2) .ret) .skip)) (.seq (.reg true r35_3) (.seq (.reg false r35_4) .ret))))
theorem e35 {args : List PV} {h : Heap} {K : PV → Heap → Prop} (hl : args.length = 3) (s : pwp Try.prog [] c35 (fin Try.prog [.tmp 6] h K) (slots0 (olds args)) h) : CanP Try.prog 35 args h K :=
  can_of2 (n := 43) mixed Try.func35 rfl (by kernel_rfl) (by rw [hl]; kernel_rfl) rfl (by kernel_rfl) s
/-! ### naskh.naskhref07.Mark: function 51 -/
def r51_0 : List PS := [.mk (some 2) (.assign (.const (.bool false))) none]
def r51_1 : List PS := [.mk (some 3) (.move (.tmp 0)) none,
  .mk (some 4) (.call ⟨(.value (.func 10)), #[(.tmp 3)], #[3]⟩) none,
  .mk (some 5) (.binOp .eql 3 (.tmp 4) (.const (.int .i64 8)) 3) none,
  .mk (some 2) (.assign (.tmp 5)) none]
def c51 : PC := (.seq (.reg false r51_0) (.seq (.reg false r51_1) .ret))
theorem e51 {args : List PV} {h : Heap} {K : PV → Heap → Prop} (hl : args.length = 1) (s : pwp Try.prog [] c51 (fin Try.prog [.tmp 2] h K) (slots0 (olds args)) h) : CanP Try.prog 51 args h K :=
  can_of2 (n := 6) mixed Try.func51 rfl (by kernel_rfl) (by rw [hl]; kernel_rfl) rfl (by kernel_rfl) s
/-! ### naskh.naskhref07.Control: function 69 -/
def r69_0 : List PS := [.mk (some 2) (.assign (.const (.bool false))) none]
def r69_1 : List PS := [.mk (some 4) (.move (.tmp 0)) none,
  .mk (some 5) (.call ⟨(.value (.func 10)), #[(.tmp 4)], #[3]⟩) none,
  .mk (some 3) (.assign (.tmp 5)) none]
def r69_2 : List PS := [.mk (some 6) (.move (.tmp 0)) none,
  .mk (some 7) (.binOp .eql 3 (.tmp 6) (.const (.int .i64 8206)) 3) none,
  .mk (some 8) (.move (.tmp 7)) none,
  .mk (some 9) (.move (.tmp 0)) (some (8, false)),
  .mk (some 10) (.binOp .eql 3 (.tmp 9) (.const (.int .i64 8207)) 3) (some (8, false)),
  .mk (some 11) (.pick (.tmp 8) (.const (.bool true)) (.tmp 10)) none,
  .mk (some 12) (.move (.tmp 11)) none,
  .mk (some 13) (.move (.tmp 0)) (some (12, false)),
  .mk (some 14) (.binOp .eql 3 (.tmp 13) (.const (.int .i64 1564)) 3) (some (12, false)),
  .mk (some 15) (.pick (.tmp 12) (.const (.bool true)) (.tmp 14)) none,
  .mk (some 16) (.move (.tmp 15)) none,
  .mk (some 17) (.move (.tmp 3)) (some (16, false)),
  .mk (some 18) (.binOp .eql 3 (.tmp 17) (.const (.int .i64 9)) 3) (some (16, false)),
  .mk (some 19) (.pick (.tmp 16) (.const (.bool true)) (.tmp 18)) none,
  .mk (some 20) (.move (.tmp 19)) none,
  .mk (some 21) (.move (.tmp 3)) (some (20, false)),
  .mk (some 22) (.binOp .geq 3 (.tmp 21) (.const (.int .i64 14)) 3) (some (20, false)),
  .mk (some 23) (.move (.tmp 22)) (some (20, false)),
  .mk (some 24) (.move (.tmp 3)) (some (23, true)),
  .mk (some 25) (.binOp .leq 3 (.tmp 24) (.const (.int .i64 22)) 3) (some (23, true)),
  .mk (some 26) (.pick (.tmp 23) (.tmp 25) (.const (.bool false))) (some (20, false)),
  .mk (some 27) (.pick (.tmp 20) (.const (.bool true)) (.tmp 26)) none,
  .mk (some 2) (.assign (.tmp 27)) none]
def c69 : PC := (.seq (.reg false r69_0) (.seq (.reg false r69_1) (.seq (.reg false r69_2) .ret)))
theorem e69 {args : List PV} {h : Heap} {K : PV → Heap → Prop} (hl : args.length = 1) (s : pwp Try.prog [] c69 (fin Try.prog [.tmp 2] h K) (slots0 (olds args)) h) : CanP Try.prog 69 args h K :=
  can_of2 (n := 28) mixed Try.func69 rfl (by kernel_rfl) (by rw [hl]; kernel_rfl) rfl (by kernel_rfl) s
/-! ### naskh.naskhref41.Width: function 65 -/
def r65_0 : List PS := [.mk (some 2) (.assign (.const (.int .i64 0))) none]
def r65_1 : List PS := [.mk (some 3) (.move (.tmp 0)) none,
  .mk (some 4) (.call ⟨(.value (.func 51)), #[(.tmp 3)], #[3]⟩) none,
  .mk (some 5) (.move (.tmp 4)) none,
  .mk (some 6) (.move (.tmp 0)) (some (5, false)),
  .mk (some 7) (.call ⟨(.value (.func 69)), #[(.tmp 6)], #[3]⟩) (some (5, false)),
  .mk (some 8) (.pick (.tmp 5) (.const (.bool true)) (.tmp 7)) none]
def r65_2 : List PS := [.mk (some 2) (.assign (.const (.int .i64 0))) none]
def r65_3 : List PS := [.mk (some 9) (.call ⟨(.value (.func 25)), #[], #[]⟩) none,
  .mk (some 10) (.move (.tmp 0)) none,
  .mk (some 11) (.call ⟨(.value (.func 26)), #[(.tmp 9), (.const (.int .i64 1)), (.tmp 10)], #[52, 3, 3]⟩) none,
  .mk (some 2) (.assign (.tmp 11)) none]
def c65 : PC := (.seq (.reg false r65_0) (.seq (.seq (.reg false r65_1) (.cond (.tmp 8) (.seq (.reg false r65_2) .ret) .skip)) (.seq (.reg false r65_3) .ret)))
theorem e65 {args : List PV} {h : Heap} {K : PV → Heap → Prop} (hl : args.length = 1) (s : pwp Try.prog [] c65 (fin Try.prog [.tmp 2] h K) (slots0 (olds args)) h) : CanP Try.prog 65 args h K :=
  can_of2 (n := 12) mixed Try.func65 rfl (by kernel_rfl) (by rw [hl]; kernel_rfl) rfl (by kernel_rfl) s
/-! ### naskh.naskhref41.Text: function 64 -/
def r64_0 : List PS := [.mk (some 2) (.assign (.const (.int .i64 0))) none]
def r64_1 : List PS := [.mk (some 3) (.assign (.const (.int .i64 0))) none]
def r64_2 : List PS := [.mk (some 4) (.assign (.const (.int .i64 0))) none]
def r64_3 : List PS := [.mk (some 5) (.move (.tmp 4)) none,
  .mk (some 6) (.move (.tmp 0)) none,
  .mk (some 7) (.call ⟨(.builtin .len), #[(.tmp 6)], #[22]⟩) none,
  .mk (some 8) (.binOp .lss 3 (.tmp 5) (.tmp 7) 3) none]
def r64_4 : List PS := [.mk (some 11) (.move (.tmp 3)) none,
  .mk (some 12) (.move (.tmp 0)) none,
  .mk (some 13) (.move (.tmp 4)) none,
  .mk (some 14) (.indexAddr 22 (.tmp 12) (.tmp 13)) none,
  .mk (some 15) (.load 3 (.tmp 14)) none,
  .mk (some 16) (.call ⟨(.value (.func 65)), #[(.tmp 15)], #[3]⟩) none,
  .mk (some 17) (.binOp .add 3 (.tmp 11) (.tmp 16) 3) none,
  .mk (some 3) (.assign (.tmp 17)) none]
def r64_5 : List PS := [.mk (some 9) (.move (.tmp 4)) none,
  .mk (some 10) (.binOp .add 3 (.tmp 9) (.const (.int .i64 1)) 3) none,
  .mk (some 4) (.assign (.tmp 10)) none]
def r64_6 : List PS := [.mk (some 18) (.move (.tmp 3)) none,
  .mk (some 2) (.assign (.tmp 18)) none]
def c64 : PC := (.seq (.reg false r64_0) (.seq (.reg false r64_1) (.seq (.seq (.reg false r64_2) (.block 0 (.loop (.seq (.seq (.reg false r64_3) (.cond (.tmp 8) .skip (.exit 0))) (.seq (.block 1 (.reg false r64_4)) (.reg false r64_5)))))) (.seq (.reg false r64_6) .ret))))
theorem e64 {args : List PV} {h : Heap} {K : PV → Heap → Prop} (hl : args.length = 1) (s : pwp Try.prog [] c64 (fin Try.prog [.tmp 2] h K) (slots0 (olds args)) h) : CanP Try.prog 64 args h K :=
  can_of2 (n := 19) mixed Try.func64 rfl (by kernel_rfl) (by rw [hl]; kernel_rfl) rfl (by kernel_rfl) s
/-! ### naskh.naskhref43.cells: function 49 -/
def r49_0 : List PS := [.mk (some 2) (.assign (.const (.int .i64 0))) none]
def r49_1 : List PS := [.mk (some 4) (.move (.tmp 0)) none,
  .mk (some 5) (.call ⟨(.builtin .len), #[(.tmp 4)], #[22]⟩) none,
  .mk (some 6) (.binOp .gtr 3 (.tmp 5) (.const (.int .i64 0)) 3) none]
def r49_2 : List PS := [.mk (some 7) (.move (.tmp 0)) none,
  .mk (some 8) (.move (.tmp 0)) none,
  .mk (some 9) (.call ⟨(.builtin .len), #[(.tmp 8)], #[22]⟩) none,
  .mk (some 10) (.binOp .sub 3 (.tmp 9) (.const (.int .i64 1)) 3) none,
  .mk (some 11) (.indexAddr 22 (.tmp 7) (.tmp 10)) none,
  .mk (some 12) (.load 3 (.tmp 11)) none,
  .mk (some 13) (.call ⟨(.value (.func 10)), #[(.tmp 12)], #[3]⟩) none,
  .mk (some 3) (.assign (.tmp 13)) none]
def r49_3 : List PS := [.mk (some 14) (.move (.tmp 3)) none,
  .mk (some 15) (.binOp .neq 3 (.tmp 14) (.const (.int .i64 12)) 3) none,
  .mk (some 16) (.move (.tmp 15)) none,
  .mk (some 17) (.move (.tmp 3)) (some (16, true)),
  .mk (some 18) (.binOp .neq 3 (.tmp 17) (.const (.int .i64 10)) 3) (some (16, true)),
  .mk (some 19) (.pick (.tmp 16) (.tmp 18) (.const (.bool false))) none]
def r49_4 : List PS := [.mk (some 20) (.move (.tmp 0)) none,
  .mk (some 21) (.move (.tmp 0)) none,
  .mk (some 22) (.call ⟨(.builtin .len), #[(.tmp 21)], #[22]⟩) none,
  .mk (some 23) (.binOp .sub 3 (.tmp 22) (.const (.int .i64 1)) 3) none,
  .mk (some 24) (.slice 22 (.tmp 20) none (some (.tmp 23)) none) none,
  .mk (some 0) (.assign (.tmp 24)) none]
def r49_5 : List PS := [.mk (some 25) (.move (.tmp 0)) none,
  .mk (some 26) (.call ⟨(.value (.func 64)), #[(.tmp 25)], #[22]⟩) none,
  .mk (some 2) (.assign (.tmp 26)) none]
def c49 : PC := (.seq (.reg false r49_0) (.seq (.block 0 (.loop (.seq (.seq (.reg false r49_1) (.cond (.tmp 6) .skip (.exit 0))) (.block 1 (.seq (.reg false r49_2) (.seq (.seq (.reg false r49_3) (.cond (.tmp 19) (.exit 0) .skip)) (.reg false r49_4))))))) (.seq (.reg false r49_5) .ret)))
theorem e49 {args : List PV} {h : Heap} {K : PV → Heap → Prop} (hl : args.length = 1) (s : pwp Try.prog [] c49 (fin Try.prog [.tmp 2] h K) (slots0 (olds args)) h) : CanP Try.prog 49 args h K :=
  can_of2 (n := 27) mixed Try.func49 rfl (by kernel_rfl) (by rw [hl]; kernel_rfl) rfl (by kernel_rfl) s
/-! ### naskh.naskhref41.Fit: function 50 -/
def r50_0 : List PS := [.mk (some 4) (.assign (.const (.int .i64 0))) none]
def r50_1 : List PS := [.mk (some 5) (.assign (.const (.int .i64 0))) none]
def r50_2 : List PS := [.mk (some 7) (.move (.tmp 1)) none,
  .mk (some 8) (.binOp .lss 3 (.tmp 7) (.const (.int .i64 0)) 3) none]
def r50_3 : List PS := [.mk (some 4) (.assign (.const (.int .i64 0))) none]
def r50_4 : List PS := [.mk (some 6) (.assign (.const (.int .i64 0))) none]
def r50_5 : List PS := [.mk (some 9) (.move (.tmp 6)) none,
  .mk (some 10) (.move (.tmp 0)) none,
  .mk (some 11) (.call ⟨(.builtin .len), #[(.tmp 10)], #[22]⟩) none,
  .mk (some 12) (.binOp .lss 3 (.tmp 9) (.tmp 11) 3) none]
def r50_6 : List PS := [.mk (some 15) (.move (.tmp 5)) none,
  .mk (some 16) (.move (.tmp 0)) none,
  .mk (some 17) (.move (.tmp 6)) none,
  .mk (some 18) (.indexAddr 22 (.tmp 16) (.tmp 17)) none,
  .mk (some 19) (.load 3 (.tmp 18)) none,
  .mk (some 20) (.call ⟨(.value (.func 65)), #[(.tmp 19)], #[3]⟩) none,
  .mk (some 21) (.binOp .add 3 (.tmp 15) (.tmp 20) 3) none,
  .mk (some 5) (.assign (.tmp 21)) none]
def r50_7 : List PS := [.mk (some 22) (.move (.tmp 5)) none,
  .mk (some 23) (.move (.tmp 1)) none,
  .mk (some 24) (.binOp .gtr 3 (.tmp 22) (.tmp 23) 3) none]
def r50_8 : List PS := [.mk (some 25) (.move (.tmp 6)) none,
  .mk (some 4) (.assign (.tmp 25)) none]
def r50_9 : List PS := [.mk (some 13) (.move (.tmp 6)) none,
  .mk (some 14) (.binOp .add 3 (.tmp 13) (.const (.int .i64 1)) 3) none,
  .mk (some 6) (.assign (.tmp 14)) none]
def r50_10 : List PS := [.mk (some 26) (.move (.tmp 0)) none,
  .mk (some 27) (.call ⟨(.builtin .len), #[(.tmp 26)], #[22]⟩) none,
  .mk (some 4) (.assign (.tmp 27)) none]
def c50 : PC := (.seq (.reg false r50_0) (.seq (.reg false r50_1) (.seq (.seq (.reg false r50_2) (.cond (.tmp 8) (.seq (.reg false r50_3) .ret) .skip)) (.seq (.seq (.reg false r50_4) (.block 0 (.loop (.seq (.seq (.reg false r50_5) (.cond (.tmp 12) .skip (.exit 0))) (.seq (.block 1 (.seq (.reg false r50_6) (.seq (.reg false r50_7) (.cond (.tmp 24) (.seq (.reg false r50_8) .ret) .skip)))) (.reg false r50_9)))))) (.seq (.reg false r50_10) .ret)))))
theorem e50 {args : List PV} {h : Heap} {K : PV → Heap → Prop} (hl : args.length = 2) (s : pwp Try.prog [] c50 (fin Try.prog [.tmp 4] h K) (slots0 (olds args)) h) : CanP Try.prog 50 args h K :=
  can_of2 (n := 28) mixed Try.func50 rfl (by kernel_rfl) (by rw [hl]; kernel_rfl) rfl (by kernel_rfl) s
/-! ### naskh.naskhref43.ends: function 32 -/
def r32_0 : List PS := [.mk (some 8) (.assign (.const (.int .i64 0))) none]
def r32_1 : List PS := [.mk (some 12) (.move (.tmp 2)) none,
  .mk (some 13) (.binOp .add 3 (.tmp 12) (.const (.int .i64 1)) 3) none,
  .mk (some 9) (.assign (.tmp 13)) none]
def r32_2 : List PS := [.mk (some 14) (.move (.tmp 9)) none,
  .mk (some 15) (.move (.tmp 0)) none,
  .mk (some 16) (.call ⟨(.builtin .len), #[(.tmp 15)], #[22]⟩) none,
  .mk (some 17) (.binOp .lss 3 (.tmp 14) (.tmp 16) 3) none,
  .mk (some 18) (.move (.tmp 17)) none,
  .mk (some 19) (.move (.tmp 1)) (some (18, true)),
  .mk (some 20) (.move (.tmp 9)) (some (18, true)),
  .mk (some 21) (.call ⟨(.value (.func 48)), #[(.tmp 19), (.tmp 20)], #[26, 3]⟩) (some (18, true)),
  .mk (some 22) (.unOp .not 4 (.tmp 21)) (some (18, true)),
  .mk (some 23) (.pick (.tmp 18) (.tmp 22) (.const (.bool false))) none]
def r32_3 : List PS := [.mk (some 24) (.move (.tmp 9)) none,
  .mk (some 25) (.binOp .add 3 (.tmp 24) (.const (.int .i64 1)) 3) none,
  .mk (some 9) (.assign (.tmp 25)) none]
def r32_4 : List PS := [.mk (some 26) (.move (.tmp 9)) none,
  .mk (some 10) (.assign (.tmp 26)) none]
def r32_5 : List PS := [.mk (some 27) (.move (.tmp 10)) none,
  .mk (some 28) (.move (.tmp 2)) none,
  .mk (some 29) (.binOp .gtr 3 (.tmp 27) (.tmp 28) 3) none]
def r32_6 : List PS := [.mk (some 32) (.move (.tmp 10)) none,
  .mk (some 33) (.move (.tmp 9)) none,
  .mk (some 34) (.binOp .eql 3 (.tmp 32) (.tmp 33) 3) none,
  .mk (some 35) (.move (.tmp 34)) none,
  .mk (some 36) (.move (.tmp 0)) (some (35, false)),
  .mk (some 37) (.move (.tmp 1)) (some (35, false)),
  .mk (some 38) (.move (.tmp 10)) (some (35, false)),
  .mk (some 39) (.call ⟨(.value (.func 35)), #[(.tmp 36), (.tmp 37), (.tmp 38)], #[22, 26, 3]⟩) (some (35, false)),
  .mk (some 40) (.pick (.tmp 35) (.const (.bool true)) (.tmp 39)) none,
  .mk (some 41) (.move (.tmp 40)) none,
  .mk (some 42) (.move (.tmp 0)) (some (41, true)),
  .mk (some 43) (.move (.tmp 2)) (some (41, true)),
  .mk (some 44) (.move (.tmp 10)) (some (41, true)),
  .mk (some 45) (.slice 22 (.tmp 42) (some (.tmp 43)) (some (.tmp 44)) none) (some (41, true)),
  .mk (some 46) (.call ⟨(.value (.func 49)), #[(.tmp 45)], #[22]⟩) (some (41, true)),
  .mk (some 47) (.move (.tmp 3)) (some (41, true)),
  .mk (some 48) (.binOp .leq 3 (.tmp 46) (.tmp 47) 3) (some (41, true)),
  .mk (some 49) (.pick (.tmp 41) (.tmp 48) (.const (.bool false))) none]
def r32_7 : List PS := [.mk (some 50) (.move (.tmp 10)) none,
  .mk (some 8) (.assign (.tmp 50)) none]
def r32_8 : List PS := [.mk (some 30) (.move (.tmp 10)) none,
  .mk (some 31) (.binOp .sub 3 (.tmp 30) (.const (.int .i64 1)) 3) none,
  .mk (some 10) (.assign (.tmp 31)) none]
def r32_9 : List PS := [.mk (some 51) (.move (.tmp 2)) none,
  .mk (some 52) (.move (.tmp 0)) none,
  .mk (some 53) (.move (.tmp 2)) none,
  .mk (some 54) (.move (.tmp 9)) none,
  .mk (some 55) (.slice 22 (.tmp 52) (some (.tmp 53)) (some (.tmp 54)) none) none,
  .mk (some 56) (.move (.tmp 3)) none,
  .mk (some 57) (.call ⟨(.value (.func 50)), #[(.tmp 55), (.tmp 56)], #[22, 3]⟩) none,
  .mk (some 58) (.call ⟨(.builtin .max), #[(.tmp 57), (.const (.int .i64 1))], #[3, 3]⟩) none,
  .mk (some 59) (.binOp .add 3 (.tmp 51) (.tmp 58) 3) none,
  .mk (some 11) (.assign (.tmp 59)) none]
def r32_10 : List PS := [.mk (some 60) (.move (.tmp 11)) none,
  .mk (some 61) (.move (.tmp 9)) none,
  .mk (some 62) (.binOp .lss 3 (.tmp 60) (.tmp 61) 3) none,
  .mk (some 63) (.move (.tmp 62)) none,
  .mk (some 64) (.move (.tmp 0)) (some (63, true)),
  .mk (some 65) (.move (.tmp 11)) (some (63, true)),
  .mk (some 66) (.indexAddr 22 (.tmp 64) (.tmp 65)) (some (63, true)),
  .mk (some 67) (.load 3 (.tmp 66)) (some (63, true)),
  .mk (some 68) (.call ⟨(.value (.func 51)), #[(.tmp 67)], #[3]⟩) (some (63, true)),
  .mk (some 69) (.pick (.tmp 63) (.tmp 68) (.const (.bool false))) none]
def r32_11 : List PS := [.mk (some 70) (.move (.tmp 11)) none,
  .mk (some 71) (.binOp .add 3 (.tmp 70) (.const (.int .i64 1)) 3) none,
  .mk (some 11) (.assign (.tmp 71)) none]
def r32_12 : List PS := [.mk (some 72) (.move (.tmp 11)) none,
  .mk (some 8) (.assign (.tmp 72)) none]
def c32 : PC := (.seq (.reg false r32_0) (.seq (.reg false r32_1) (.seq (.block 0 (.loop (.seq (.seq (.reg false r32_2) (.cond (.tmp 23) .skip (.exit 0))) (.block 1 (.reg false r32_3))))) (.seq (.seq (.reg false r32_4) (.block 2 (.loop (.seq (.seq (.reg false r32_5) (.cond (.tmp 29) .skip (.exit 2))) (.seq (.block 3 (.seq (.reg false r32_6) (.cond (.tmp 49) (.seq (.reg false r32_7) .ret) .skip))) (.reg false r32_8)))))) (.seq (.reg false r32_9) (.seq (.block 4 (.loop (.seq (.seq (.reg false r32_10) (.cond (.tmp 69) .skip (.exit 4))) (.block 5 (.reg false r32_11))))) (.seq (.reg false r32_12) .ret)))))))
theorem e32 {args : List PV} {h : Heap} {K : PV → Heap → Prop} (hl : args.length = 4) (s : pwp Try.prog [] c32 (fin Try.prog [.tmp 8] h K) (slots0 (olds args)) h) : CanP Try.prog 32 args h K :=
  can_of2 (n := 73) mixed Try.func32 rfl (by kernel_rfl) (by rw [hl]; kernel_rfl) rfl (by kernel_rfl) s
/-! ### naskh.naskhref43.Breaks: function 15 -/
def r15_0 : List PS := [.mk (some 4) (.assign (.const (.slice none 0 0))) none,
  .mk (some 5) (.assign (.const (.int .i64 0))) none]
def r15_1 : List PS := [.mk (some 9) (.move (.tmp 0)) none,
  .mk (some 10) (.call ⟨(.builtin .len), #[(.tmp 9)], #[22]⟩) none,
  .mk (some 11) (.binOp .gtr 3 (.tmp 10) (.const (.int .i64 16777216)) 3) none]
def r15_2 : List PS := [.mk (some 4) (.assign (.const (.slice none 0 0))) none,
  .mk (some 5) (.assign (.const (.int .i64 6))) none]
def r15_3 : List PS := [.mk (some 12) (.move (.tmp 1)) none,
  .mk (some 13) (.binOp .lss 3 (.tmp 12) (.const (.int .i64 1)) 3) none,
  .mk (some 14) (.move (.tmp 13)) none,
  .mk (some 15) (.move (.tmp 1)) (some (14, false)),
  .mk (some 16) (.binOp .gtr 3 (.tmp 15) (.const (.int .i64 1048576)) 3) (some (14, false)),
  .mk (some 17) (.pick (.tmp 14) (.const (.bool true)) (.tmp 16)) none]
def r15_4 : List PS := [.mk (some 4) (.assign (.const (.slice none 0 0))) none,
  .mk (some 5) (.assign (.const (.int .i64 1))) none]
def r15_5 : List PS := [.mk (some 6) (.assign (.const (.slice none 0 0))) none]
def r15_6 : List PS := [.mk (some 18) (.move (.tmp 0)) none,
  .mk (some 19) (.call ⟨(.value (.func 31)), #[(.tmp 18)], #[22]⟩) none,
  .mk (some 7) (.assign (.tmp 19)) none]
def r15_7 : List PS := [.mk (some 8) (.assign (.const (.int .i64 0))) none]
def r15_8 : List PS := [.mk (some 20) (.move (.tmp 8)) none,
  .mk (some 21) (.move (.tmp 0)) none,
  .mk (some 22) (.call ⟨(.builtin .len), #[(.tmp 21)], #[22]⟩) none,
  .mk (some 23) (.binOp .lss 3 (.tmp 20) (.tmp 22) 3) none]
def r15_9 : List PS := [.mk (some 24) (.move (.tmp 0)) none,
  .mk (some 25) (.move (.tmp 7)) none,
  .mk (some 26) (.move (.tmp 8)) none,
  .mk (some 27) (.move (.tmp 1)) none,
  .mk (some 28) (.call ⟨(.value (.func 32)), #[(.tmp 24), (.tmp 25), (.tmp 26), (.tmp 27)], #[22, 26, 3, 3]⟩) none,
  .mk (some 8) (.assign (.tmp 28)) none]
def r15_10 : List PS := [.mk (some 29) (.move (.tmp 8)) none,
  .mk (some 30) (.move (.tmp 0)) none,
  .mk (some 31) (.call ⟨(.builtin .len), #[(.tmp 30)], #[22]⟩) none,
  .mk (some 32) (.binOp .lss 3 (.tmp 29) (.tmp 31) 3) none]
def r15_11 : List PS := [.mk (some 33) (.move (.tmp 6)) none,
  .mk (some 34) (.move (.tmp 8)) none,
  .mk (some 35) (.buildSlice 22 1 #[(0, (.tmp 34))]) none,
  .mk (some 36) (.call ⟨(.builtin .append), #[(.tmp 33), (.tmp 35)], #[22, 22]⟩) none,
  .mk (some 6) (.assign (.tmp 36)) none]
def r15_12 : List PS := [.mk (some 37) (.move (.tmp 6)) none,
  .mk (some 4) (.assign (.tmp 37)) none,
  .mk (some 5) (.assign (.const (.int .i64 0))) none]
def c15 : PC := (.seq (.reg false r15_0) (.seq (.seq (.reg false r15_1) (.cond (.tmp 11) (.seq (.reg false r15_2) .ret) .skip)) (.seq (.seq (.reg false r15_3) (.cond (.tmp 17) (.seq (.reg false r15_4) .ret) .skip)) (.seq (.reg false r15_5) (.seq (.reg false r15_6) (.seq (.seq (.reg false r15_7) (.block 0 (.loop (.seq (.seq (.reg false r15_8) (.cond (.tmp 23) .skip (.exit 0))) (.block 1 (.seq (.reg false r15_9) (.seq (.reg false r15_10) (.cond (.tmp 32) (.reg false r15_11) .skip)))))))) (.seq (.reg false r15_12) .ret)))))))
theorem e15 {args : List PV} {h : Heap} {K : PV → Heap → Prop} (hl : args.length = 2) (s : pwp Try.prog [] c15 (fin Try.prog [.tmp 4, .tmp 5] h K) (slots0 (olds args)) h) : CanP Try.prog 15 args h K :=
  can_of2 (n := 38) mixed Try.func15 rfl (by kernel_rfl) (by rw [hl]; kernel_rfl) rfl (by kernel_rfl) s
/-! ### naskh.naskhref28.Check: function 52 -/
def r52_0 : List PS := [.mk (some 4) (.assign (.const (.int .i64 0))) none]
def r52_1 : List PS := [.mk (some 5) (.assign (.const (.int .i64 0))) none]
def r52_2 : List PS := [.mk (some 6) (.assign (.const (.int .i64 0))) none]
def r52_3 : List PS := [.mk (some 7) (.move (.tmp 6)) none,
  .mk (some 8) (.move (.tmp 1)) none,
  .mk (some 9) (.call ⟨(.builtin .len), #[(.tmp 8)], #[22]⟩) none,
  .mk (some 10) (.binOp .lss 3 (.tmp 7) (.tmp 9) 3) none]
def r52_4 : List PS := [.mk (some 13) (.move (.tmp 1)) none,
  .mk (some 14) (.move (.tmp 6)) none,
  .mk (some 15) (.indexAddr 22 (.tmp 13) (.tmp 14)) none,
  .mk (some 16) (.load 3 (.tmp 15)) none,
  .mk (some 17) (.move (.tmp 5)) none,
  .mk (some 18) (.binOp .leq 3 (.tmp 16) (.tmp 17) 3) none,
  .mk (some 19) (.move (.tmp 18)) none,
  .mk (some 20) (.move (.tmp 1)) (some (19, false)),
  .mk (some 21) (.move (.tmp 6)) (some (19, false)),
  .mk (some 22) (.indexAddr 22 (.tmp 20) (.tmp 21)) (some (19, false)),
  .mk (some 23) (.load 3 (.tmp 22)) (some (19, false)),
  .mk (some 24) (.move (.tmp 0)) (some (19, false)),
  .mk (some 25) (.binOp .geq 3 (.tmp 23) (.tmp 24) 3) (some (19, false)),
  .mk (some 26) (.pick (.tmp 19) (.const (.bool true)) (.tmp 25)) none]
def r52_5 : List PS := [.mk (some 4) (.assign (.const (.int .i64 4))) none]
def r52_6 : List PS := [.mk (some 27) (.move (.tmp 1)) none,
  .mk (some 28) (.move (.tmp 6)) none,
  .mk (some 29) (.indexAddr 22 (.tmp 27) (.tmp 28)) none,
  .mk (some 30) (.load 3 (.tmp 29)) none,
  .mk (some 5) (.assign (.tmp 30)) none]
def r52_7 : List PS := [.mk (some 11) (.move (.tmp 6)) none,
  .mk (some 12) (.binOp .add 3 (.tmp 11) (.const (.int .i64 1)) 3) none,
  .mk (some 6) (.assign (.tmp 12)) none]
def r52_8 : List PS := [.mk (some 4) (.assign (.const (.int .i64 0))) none]
def c52 : PC := (.seq (.reg false r52_0) (.seq (.reg false r52_1) (.seq (.seq (.reg false r52_2) (.block 0 (.loop (.seq (.seq (.reg false r52_3) (.cond (.tmp 10) .skip (.exit 0))) (.seq (.block 1 (.seq (.seq (.reg false r52_4) (.cond (.tmp 26) (.seq (.reg false r52_5) .ret) .skip)) (.reg false r52_6))) (.reg false r52_7)))))) (.seq (.reg false r52_8) .ret))))
theorem e52 {args : List PV} {h : Heap} {K : PV → Heap → Prop} (hl : args.length = 2) (s : pwp Try.prog [] c52 (fin Try.prog [.tmp 4] h K) (slots0 (olds args)) h) : CanP Try.prog 52 args h K :=
  can_of2 (n := 31) mixed Try.func52 rfl (by kernel_rfl) (by rw [hl]; kernel_rfl) rfl (by kernel_rfl) s
/-! ### naskh.naskhref03.Right: function 66 -/
def r66_0 : List PS := [.mk (some 1) (.box 33 (.tmp 0)) none,
  .mk (some 2) (.assign (.const (.bool false))) none]
def r66_1 : List PS := [.mk (some 3) (.fieldAddr 33 (.tmp 1) 0) none,
  .mk (some 4) (.load 3 (.tmp 3)) none,
  .mk (some 5) (.binOp .geq 3 (.tmp 4) (.const (.int .i64 0)) 3) none,
  .mk (some 6) (.move (.tmp 5)) none,
  .mk (some 7) (.fieldAddr 33 (.tmp 1) 0) (some (6, true)),
  .mk (some 8) (.load 3 (.tmp 7)) (some (6, true)),
  .mk (some 9) (.fieldAddr 33 (.tmp 1) 1) (some (6, true)),
  .mk (some 10) (.load 3 (.tmp 9)) (some (6, true)),
  .mk (some 11) (.binOp .lss 3 (.tmp 8) (.tmp 10) 3) (some (6, true)),
  .mk (some 12) (.pick (.tmp 6) (.tmp 11) (.const (.bool false))) none,
  .mk (some 2) (.assign (.tmp 12)) none]
def c66 : PC := (.seq (.reg false r66_0) (.seq (.reg false r66_1) .ret))
theorem e66 {args : List PV} {h : Heap} {K : PV → Heap → Prop} (hl : args.length = 1) (s : pwp Try.prog [] c66 (fin Try.prog [.tmp 2] h K) (slots0 (olds args)) h) : CanP Try.prog 66 args h K :=
  can_of2 (n := 13) mixed Try.func66 rfl (by kernel_rfl) (by rw [hl]; kernel_rfl) rfl (by kernel_rfl) s
/-! ### naskh.naskhref03.Cut: function 53 -/
def r53_0 : List PS := [.mk (some 2) (.box 33 (.tmp 0)) none,
  .mk (some 4) (.assign (.const (.slice none 0 0))) none,
  .mk (some 5) (.assign (.const (.int .i64 0))) none]
def r53_1 : List PS := [.mk (some 9) (.load 33 (.tmp 2)) none,
  .mk (some 10) (.call ⟨(.value (.func 66)), #[(.tmp 9)], #[33]⟩) none,
  .mk (some 11) (.unOp .not 4 (.tmp 10)) none]
def r53_2 : List PS := [.mk (some 4) (.assign (.const (.slice none 0 0))) none,
  .mk (some 5) (.assign (.const (.int .i64 1))) none]
def r53_3 : List PS := [.mk (some 6) (.assign (.const (.slice none 0 0))) none]
def r53_4 : List PS := [.mk (some 12) (.fieldAddr 33 (.tmp 2) 0) none,
  .mk (some 13) (.load 3 (.tmp 12)) none,
  .mk (some 7) (.assign (.tmp 13)) none]
def r53_5 : List PS := [.mk (some 8) (.assign (.const (.int .i64 0))) none]
def r53_6 : List PS := [.mk (some 14) (.move (.tmp 8)) none,
  .mk (some 15) (.move (.tmp 1)) none,
  .mk (some 16) (.call ⟨(.builtin .len), #[(.tmp 15)], #[22]⟩) none,
  .mk (some 17) (.binOp .lss 3 (.tmp 14) (.tmp 16) 3) none]
def r53_7 : List PS := [.mk (some 20) (.move (.tmp 1)) none,
  .mk (some 21) (.move (.tmp 8)) none,
  .mk (some 22) (.indexAddr 22 (.tmp 20) (.tmp 21)) none,
  .mk (some 23) (.load 3 (.tmp 22)) none,
  .mk (some 24) (.move (.tmp 7)) none,
  .mk (some 25) (.binOp .leq 3 (.tmp 23) (.tmp 24) 3) none,
  .mk (some 26) (.move (.tmp 25)) none,
  .mk (some 27) (.move (.tmp 1)) (some (26, false)),
  .mk (some 28) (.move (.tmp 8)) (some (26, false)),
  .mk (some 29) (.indexAddr 22 (.tmp 27) (.tmp 28)) (some (26, false)),
  .mk (some 30) (.load 3 (.tmp 29)) (some (26, false)),
  .mk (some 31) (.fieldAddr 33 (.tmp 2) 1) (some (26, false)),
  .mk (some 32) (.load 3 (.tmp 31)) (some (26, false)),
  .mk (some 33) (.binOp .geq 3 (.tmp 30) (.tmp 32) 3) (some (26, false)),
  .mk (some 34) (.pick (.tmp 26) (.const (.bool true)) (.tmp 33)) none]
def r53_8 : List PS := [.mk (some 4) (.assign (.const (.slice none 0 0))) none,
  .mk (some 5) (.assign (.const (.int .i64 10))) none]
def r53_9 : List PS := [.mk (some 35) (.move (.tmp 6)) none,
  .mk (some 36) (.move (.tmp 7)) none,
  .mk (some 37) (.move (.tmp 1)) none,
  .mk (some 38) (.move (.tmp 8)) none,
  .mk (some 39) (.indexAddr 22 (.tmp 37) (.tmp 38)) none,
  .mk (some 40) (.load 3 (.tmp 39)) none,
  .mk (some 41) (.build 33 #[(0, (.tmp 36)), (1, (.tmp 40))]) none,
  .mk (some 42) (.buildSlice 26 1 #[(0, (.tmp 41))]) none,
  .mk (some 43) (.call ⟨(.builtin .append), #[(.tmp 35), (.tmp 42)], #[26, 26]⟩) none,
  .mk (some 6) (.assign (.tmp 43)) none]
def r53_10 : List PS := [.mk (some 44) (.move (.tmp 1)) none,
  .mk (some 45) (.move (.tmp 8)) none,
  .mk (some 46) (.indexAddr 22 (.tmp 44) (.tmp 45)) none,
  .mk (some 47) (.load 3 (.tmp 46)) none,
  .mk (some 7) (.assign (.tmp 47)) none]
def r53_11 : List PS := [.mk (some 18) (.move (.tmp 8)) none,
  .mk (some 19) (.binOp .add 3 (.tmp 18) (.const (.int .i64 1)) 3) none,
  .mk (some 8) (.assign (.tmp 19)) none]
def r53_12 : List PS := [.mk (some 48) (.move (.tmp 6)) none,
  .mk (some 49) (.move (.tmp 7)) none,
  .mk (some 50) (.fieldAddr 33 (.tmp 2) 1) none,
  .mk (some 51) (.load 3 (.tmp 50)) none,
  .mk (some 52) (.build 33 #[(0, (.tmp 49)), (1, (.tmp 51))]) none,
  .mk (some 53) (.buildSlice 26 1 #[(0, (.tmp 52))]) none,
  .mk (some 54) (.call ⟨(.builtin .append), #[(.tmp 48), (.tmp 53)], #[26, 26]⟩) none,
  .mk (some 4) (.assign (.tmp 54)) none,
  .mk (some 5) (.assign (.const (.int .i64 0))) none]
def c53 : PC := (.seq (.reg false r53_0) (.seq (.seq (.reg false r53_1) (.cond (.tmp 11) (.seq (.reg false r53_2) .ret) .skip)) (.seq (.reg false r53_3) (.seq (.reg false r53_4) (.seq (.seq (.reg false r53_5) (.block 0 (.loop (.seq (.seq (.reg false r53_6) (.cond (.tmp 17) .skip (.exit 0))) (.seq (.block 1 (.seq (.seq (.reg true r53_7) (.cond (.tmp 34) (.seq (.reg false r53_8) .ret) .skip)) (.seq (.reg false r53_9) (.reg false r53_10)))) (.reg false r53_11)))))) (.seq (.reg false r53_12) .ret))))))
theorem e53 {args : List PV} {h : Heap} {K : PV → Heap → Prop} (hl : args.length = 2) (s : pwp Try.prog [] c53 (fin Try.prog [.tmp 4, .tmp 5] h K) (slots0 (olds args)) h) : CanP Try.prog 53 args h K :=
  can_of2 (n := 55) mixed Try.func53 rfl (by kernel_rfl) (by rw [hl]; kernel_rfl) rfl (by kernel_rfl) s
/-! ### naskh.naskhref28.Split: function 33 -/
def r33_0 : List PS := [.mk (some 4) (.assign (.const (.slice none 0 0))) none,
  .mk (some 5) (.assign (.const (.int .i64 0))) none]
def r33_1 : List PS := [.mk (some 7) (.move (.tmp 0)) none,
  .mk (some 8) (.move (.tmp 1)) none,
  .mk (some 9) (.call ⟨(.value (.func 52)), #[(.tmp 7), (.tmp 8)], #[3, 22]⟩) none,
  .mk (some 6) (.assign (.tmp 9)) none]
def r33_2 : List PS := [.mk (some 10) (.move (.tmp 6)) none,
  .mk (some 11) (.binOp .neq 27 (.tmp 10) (.const (.int .i64 0)) 27) none,
  .mk (some 12) (.move (.tmp 11)) none,
  .mk (some 13) (.move (.tmp 0)) (some (12, false)),
  .mk (some 14) (.binOp .lss 3 (.tmp 13) (.const (.int .i64 1)) 3) (some (12, false)),
  .mk (some 15) (.pick (.tmp 12) (.const (.bool true)) (.tmp 14)) none]
def r33_3 : List PS := [.mk (some 16) (.move (.tmp 6)) none,
  .mk (some 4) (.assign (.const (.slice none 0 0))) none,
  .mk (some 5) (.assign (.tmp 16)) none]
def r33_4 : List PS := [.mk (some 17) (.move (.tmp 0)) none,
  .mk (some 18) (.build 33 #[(1, (.tmp 17))]) none,
  .mk (some 19) (.move (.tmp 1)) none,
  .mk (some 20) (.call ⟨(.value (.func 53)), #[(.tmp 18), (.tmp 19)], #[33, 22]⟩) none,
  .mk (some 21) (.extract (.tmp 20) 0) none,
  .mk (some 22) (.extract (.tmp 20) 1) none,
  .mk (some 4) (.assign (.tmp 21)) none,
  .mk (some 5) (.assign (.tmp 22)) none]
def c33 : PC := (.seq (.reg false r33_0) (.seq (.seq (.reg false r33_1) (.seq (.reg false r33_2) (.cond (.tmp 15) (.seq (.reg false r33_3) .ret) .skip))) (.seq (.reg false r33_4) .ret)))
theorem e33 {args : List PV} {h : Heap} {K : PV → Heap → Prop} (hl : args.length = 2) (s : pwp Try.prog [] c33 (fin Try.prog [.tmp 4, .tmp 5] h K) (slots0 (olds args)) h) : CanP Try.prog 33 args h K :=
  can_of2 (n := 23) mixed Try.func33 rfl (by kernel_rfl) (by rw [hl]; kernel_rfl) rfl (by kernel_rfl) s
/-! ### naskh.naskhref43.Lines: function 16 -/
def r16_0 : List PS := [.mk (some 4) (.assign (.const (.slice none 0 0))) none,
  .mk (some 5) (.assign (.const (.int .i64 0))) none]
def r16_1 : List PS := [.mk (some 9) (.move (.tmp 0)) none,
  .mk (some 10) (.move (.tmp 1)) none,
  .mk (some 11) (.call ⟨(.value (.func 15)), #[(.tmp 9), (.tmp 10)], #[22, 3]⟩) none,
  .mk (some 8) (.move (.tmp 11)) none,
  .mk (some 12) (.extract (.tmp 8) 0) none,
  .mk (some 13) (.extract (.tmp 8) 1) none,
  .mk (some 6) (.assign (.tmp 12)) none,
  .mk (some 7) (.assign (.tmp 13)) none]
def r16_2 : List PS := [.mk (some 14) (.move (.tmp 7)) none,
  .mk (some 15) (.binOp .neq 27 (.tmp 14) (.const (.int .i64 0)) 27) none]
def r16_3 : List PS := [.mk (some 16) (.move (.tmp 7)) none,
  .mk (some 4) (.assign (.const (.slice none 0 0))) none,
  .mk (some 5) (.assign (.tmp 16)) none]
def r16_4 : List PS := [.mk (some 17) (.move (.tmp 0)) none,
  .mk (some 18) (.call ⟨(.builtin .len), #[(.tmp 17)], #[22]⟩) none,
  .mk (some 19) (.move (.tmp 6)) none,
  .mk (some 20) (.call ⟨(.value (.func 33)), #[(.tmp 18), (.tmp 19)], #[3, 22]⟩) none,
  .mk (some 21) (.extract (.tmp 20) 0) none,
  .mk (some 22) (.extract (.tmp 20) 1) none,
  .mk (some 4) (.assign (.tmp 21)) none,
  .mk (some 5) (.assign (.tmp 22)) none]
def c16 : PC := (.seq (.reg false r16_0) (.seq (.reg false r16_1) (.seq (.seq (.reg false r16_2) (.cond (.tmp 15) (.seq (.reg false r16_3) .ret) .skip)) (.seq (.reg false r16_4) .ret))))
theorem e16 {args : List PV} {h : Heap} {K : PV → Heap → Prop} (hl : args.length = 2) (s : pwp Try.prog [] c16 (fin Try.prog [.tmp 4, .tmp 5] h K) (slots0 (olds args)) h) : CanP Try.prog 16 args h K :=
  can_of2 (n := 23) mixed Try.func16 rfl (by kernel_rfl) (by rw [hl]; kernel_rfl) rfl (by kernel_rfl) s
/-! ### slices.Equal[[]naskh.api.Span,naskh.api.Span]: function 18 -/
def r18_0 : List PS := [.mk (some 4) (.assign (.const (.bool false))) none]
def r18_1 : List PS := [.mk (some 6) (.move (.tmp 0)) none,
  .mk (some 7) (.call ⟨(.builtin .len), #[(.tmp 6)], #[26]⟩) none,
  .mk (some 8) (.move (.tmp 1)) none,
  .mk (some 9) (.call ⟨(.builtin .len), #[(.tmp 8)], #[26]⟩) none,
  .mk (some 10) (.binOp .neq 3 (.tmp 7) (.tmp 9) 3) none]
def r18_2 : List PS := [.mk (some 4) (.assign (.const (.bool false))) none]
def r18_3 : List PS := [.mk (some 11) (.move (.tmp 0)) none,
  .mk (some 12) (.call ⟨(.builtin .len), #[(.tmp 11)], #[26]⟩) none,
  .mk (some 13) (.move (.const (.int .i64 0))) none]
def r18_4 : List PS := [.mk (some 14) (.binOp .lss 3 (.tmp 13) (.tmp 12) 3) none]
def r18_5 : List PS := [.mk (some 15) (.move (.tmp 13)) none,
  .mk (some 5) (.assign (.tmp 15)) none]
def r18_6 : List PS := [.mk (some 16) (.move (.tmp 0)) none,
  .mk (some 17) (.move (.tmp 5)) none,
  .mk (some 18) (.indexAddr 26 (.tmp 16) (.tmp 17)) none,
  .mk (some 19) (.load 33 (.tmp 18)) none,
  .mk (some 20) (.move (.tmp 1)) none,
  .mk (some 21) (.move (.tmp 5)) none,
  .mk (some 22) (.indexAddr 26 (.tmp 20) (.tmp 21)) none,
  .mk (some 23) (.load 33 (.tmp 22)) none,
  .mk (some 24) (.binOp .neq 33 (.tmp 19) (.tmp 23) 33) none]
def r18_7 : List PS := [.mk (some 4) (.assign (.const (.bool false))) none]
def r18_8 : List PS := [.mk (some 25) (.binOp .add 3 (.tmp 13) (.const (.int .i64 1)) 3) none,
  .mk (some 13) (.move (.tmp 25)) none]
def r18_9 : List PS := [.mk (some 4) (.assign (.const (.bool true))) none]
def c18 : PC := (.seq (.reg false r18_0) (.seq (.seq (.reg false r18_1) (.cond (.tmp 10) (.seq (.reg false r18_2) .ret) .skip)) (.seq (.seq (.reg false r18_3) (.block 0 (.loop (.seq (.reg false r18_4) (.seq (.cond (.tmp 14) .skip (.exit 0)) (.seq (.block 1 (.seq (.reg false r18_5) (.seq (.reg true r18_6) (.cond (.tmp 24) (.seq (.reg false r18_7) .ret) .skip)))) (.reg false r18_8))))))) (.seq (.reg false r18_9) .ret))))
theorem e18 {args : List PV} {h : Heap} {K : PV → Heap → Prop} (hl : args.length = 2) (s : pwp Try.prog [] c18 (fin Try.prog [.tmp 4] h K) (slots0 (olds args)) h) : CanP Try.prog 18 args h K :=
  can_of2 (n := 26) mixed Try.func18 rfl (by kernel_rfl) (by rw [hl]; kernel_rfl) rfl (by kernel_rfl) s
/-! ### (*naskh.wrap.text).places: function 34 -/
def r34_0 : List PS := [.mk (some 2) (.assign (.const (.slice none 0 0))) none]
def r34_1 : List PS := [.mk (some 3) (.assign (.const (.slice none 0 0))) none]
def r34_2 : List PS := [.mk (some 4) (.assign (.const (.int .i64 1))) none]
def r34_3 : List PS := [.mk (some 5) (.move (.tmp 4)) none,
  .mk (some 6) (.move (.tmp 0)) none,
  .mk (some 7) (.nilCheck (.tmp 6)) none,
  .mk (some 8) (.fieldAddr 89 (.tmp 7) 0) none,
  .mk (some 9) (.load 22 (.tmp 8)) none,
  .mk (some 10) (.call ⟨(.builtin .len), #[(.tmp 9)], #[22]⟩) none,
  .mk (some 11) (.binOp .lss 3 (.tmp 5) (.tmp 10) 3) none]
def r34_4 : List PS := [.mk (some 14) (.move (.tmp 0)) none,
  .mk (some 15) (.move (.tmp 4)) none,
  .mk (some 16) (.call ⟨(.value (.func 54)), #[(.tmp 14), (.tmp 15)], #[64, 3]⟩) none]
def r34_5 : List PS := [.mk (some 17) (.move (.tmp 3)) none,
  .mk (some 18) (.move (.tmp 4)) none,
  .mk (some 19) (.buildSlice 22 1 #[(0, (.tmp 18))]) none,
  .mk (some 20) (.call ⟨(.builtin .append), #[(.tmp 17), (.tmp 19)], #[22, 22]⟩) none,
  .mk (some 3) (.assign (.tmp 20)) none]
def r34_6 : List PS := [.mk (some 12) (.move (.tmp 4)) none,
  .mk (some 13) (.binOp .add 3 (.tmp 12) (.const (.int .i64 1)) 3) none,
  .mk (some 4) (.assign (.tmp 13)) none]
def r34_7 : List PS := [.mk (some 21) (.move (.tmp 3)) none,
  .mk (some 2) (.assign (.tmp 21)) none]
def c34 : PC := (.seq (.reg false r34_0) (.seq (.reg false r34_1) (.seq (.seq (.reg false r34_2) (.block 0 (.loop (.seq (.seq (.reg false r34_3) (.cond (.tmp 11) .skip (.exit 0))) (.seq (.block 1 (.seq (.reg false r34_4) (.cond (.tmp 16) (.reg false r34_5) .skip))) (.reg false r34_6)))))) (.seq (.reg false r34_7) .ret))))
theorem e34 {args : List PV} {h : Heap} {K : PV → Heap → Prop} (hl : args.length = 1) (s : pwp Try.prog [] c34 (fin Try.prog [.tmp 2] h K) (slots0 (olds args)) h) : CanP Try.prog 34 args h K :=
  can_of2 (n := 22) mixed Try.func34 rfl (by kernel_rfl) (by rw [hl]; kernel_rfl) rfl (by kernel_rfl) s
/-! ### naskh.wrap.May: function 19 -/
def r19_0 : List PS := [.mk (some 4) (.assign (.const (.slice none 0 0))) none]
def r19_1 : List PS := [.mk (some 5) (.move (.tmp 0)) none,
  .mk (some 6) (.move (.tmp 1)) none,
  .mk (some 7) (.call ⟨(.value (.func 27)), #[(.tmp 5), (.const (.pointer none)), (.tmp 6)], #[24, 30, 22]⟩) none,
  .mk (some 8) (.call ⟨(.value (.func 34)), #[(.tmp 7)], #[64]⟩) none,
  .mk (some 4) (.assign (.tmp 8)) none]
def c19 : PC := (.seq (.reg false r19_0) (.seq (.reg false r19_1) .ret))
theorem e19 {args : List PV} {h : Heap} {K : PV → Heap → Prop} (hl : args.length = 2) (s : pwp Try.prog [] c19 (fin Try.prog [.tmp 4] h K) (slots0 (olds args)) h) : CanP Try.prog 19 args h K :=
  can_of2 (n := 9) mixed Try.func19 rfl (by kernel_rfl) (by rw [hl]; kernel_rfl) rfl (by kernel_rfl) s
/-! ### naskh.naskhref43.May: function 20 -/
def r20_0 : List PS := [.mk (some 2) (.assign (.const (.slice none 0 0))) none]
def r20_1 : List PS := [.mk (some 3) (.assign (.const (.slice none 0 0))) none]
def r20_2 : List PS := [.mk (some 6) (.move (.tmp 0)) none,
  .mk (some 7) (.call ⟨(.value (.func 31)), #[(.tmp 6)], #[22]⟩) none,
  .mk (some 4) (.assign (.tmp 7)) none]
def r20_3 : List PS := [.mk (some 5) (.assign (.const (.int .i64 1))) none]
def r20_4 : List PS := [.mk (some 8) (.move (.tmp 5)) none,
  .mk (some 9) (.move (.tmp 0)) none,
  .mk (some 10) (.call ⟨(.builtin .len), #[(.tmp 9)], #[22]⟩) none,
  .mk (some 11) (.binOp .lss 3 (.tmp 8) (.tmp 10) 3) none]
def r20_5 : List PS := [.mk (some 14) (.move (.tmp 0)) none,
  .mk (some 15) (.move (.tmp 4)) none,
  .mk (some 16) (.move (.tmp 5)) none,
  .mk (some 17) (.call ⟨(.value (.func 35)), #[(.tmp 14), (.tmp 15), (.tmp 16)], #[22, 26, 3]⟩) none]
def r20_6 : List PS := [.mk (some 18) (.move (.tmp 3)) none,
  .mk (some 19) (.move (.tmp 5)) none,
  .mk (some 20) (.buildSlice 22 1 #[(0, (.tmp 19))]) none,
  .mk (some 21) (.call ⟨(.builtin .append), #[(.tmp 18), (.tmp 20)], #[22, 22]⟩) none,
  .mk (some 3) (.assign (.tmp 21)) none]
def r20_7 : List PS := [.mk (some 12) (.move (.tmp 5)) none,
  .mk (some 13) (.binOp .add 3 (.tmp 12) (.const (.int .i64 1)) 3) none,
  .mk (some 5) (.assign (.tmp 13)) none]
def r20_8 : List PS := [.mk (some 22) (.move (.tmp 3)) none,
  .mk (some 2) (.assign (.tmp 22)) none]
def c20 : PC := (.seq (.reg false r20_0) (.seq (.reg false r20_1) (.seq (.reg false r20_2) (.seq (.seq (.reg false r20_3) (.block 0 (.loop (.seq (.seq (.reg false r20_4) (.cond (.tmp 11) .skip (.exit 0))) (.seq (.block 1 (.seq (.reg false r20_5) (.cond (.tmp 17) (.reg false r20_6) .skip))) (.reg false r20_7)))))) (.seq (.reg false r20_8) .ret)))))
theorem e20 {args : List PV} {h : Heap} {K : PV → Heap → Prop} (hl : args.length = 1) (s : pwp Try.prog [] c20 (fin Try.prog [.tmp 2] h K) (slots0 (olds args)) h) : CanP Try.prog 20 args h K :=
  can_of2 (n := 23) mixed Try.func20 rfl (by kernel_rfl) (by rw [hl]; kernel_rfl) rfl (by kernel_rfl) s
/-! ### naskh.naskhlaw43.WrapBreaks: function 5 -/
def r5_0 : List PS := [.mk (some 4) (.assign (.const (.bool false))) none]
def r5_1 : List PS := [.mk (some 15) (.move (.tmp 0)) none,
  .mk (some 16) (.call ⟨(.builtin .len), #[(.tmp 15)], #[22]⟩) none,
  .mk (some 17) (.binOp .gtr 3 (.tmp 16) (.const (.int .i64 50)) 3) none]
def r5_2 : List PS := [.mk (some 18) (.call ⟨(.value (.func 6)), #[], #[]⟩) none,
  .mk (some 4) (.assign (.tmp 18)) none]
def r5_3 : List PS := [.mk (some 19) (.call ⟨(.value (.func 7)), #[], #[]⟩) none,
  .mk (some 5) (.assign (.tmp 19)) none]
def r5_4 : List PS := [.mk (some 20) (.move (.tmp 5)) none,
  .mk (some 21) (.call ⟨(.value (.func 9)), #[(.tmp 20)], #[24]⟩) none,
  .mk (some 6) (.assign (.tmp 21)) none]
def r5_5 : List PS := [.mk (some 23) (.move (.tmp 5)) none,
  .mk (some 24) (.move (.tmp 6)) none,
  .mk (some 25) (.move (.tmp 0)) none,
  .mk (some 26) (.move (.tmp 1)) none,
  .mk (some 27) (.call ⟨(.value (.func 11)), #[(.tmp 23), (.tmp 24), (.tmp 25), (.tmp 26)], #[24, 30, 22, 3]⟩) none,
  .mk (some 22) (.move (.tmp 27)) none,
  .mk (some 28) (.extract (.tmp 22) 0) none,
  .mk (some 29) (.extract (.tmp 22) 1) none,
  .mk (some 7) (.assign (.tmp 28)) none,
  .mk (some 8) (.assign (.tmp 29)) none]
def r5_6 : List PS := [.mk (some 31) (.move (.tmp 0)) none,
  .mk (some 32) (.move (.tmp 1)) none,
  .mk (some 33) (.call ⟨(.value (.func 15)), #[(.tmp 31), (.tmp 32)], #[22, 3]⟩) none,
  .mk (some 30) (.move (.tmp 33)) none,
  .mk (some 34) (.extract (.tmp 30) 0) none,
  .mk (some 35) (.extract (.tmp 30) 1) none,
  .mk (some 9) (.assign (.tmp 34)) none,
  .mk (some 10) (.assign (.tmp 35)) none]
def r5_7 : List PS := [.mk (some 37) (.move (.tmp 5)) none,
  .mk (some 38) (.move (.tmp 6)) none,
  .mk (some 39) (.move (.tmp 0)) none,
  .mk (some 40) (.move (.tmp 1)) none,
  .mk (some 41) (.call ⟨(.value (.func 8)), #[(.tmp 37), (.tmp 38), (.tmp 39), (.tmp 40)], #[24, 30, 22, 3]⟩) none,
  .mk (some 36) (.move (.tmp 41)) none,
  .mk (some 42) (.extract (.tmp 36) 0) none,
  .mk (some 43) (.extract (.tmp 36) 1) none,
  .mk (some 11) (.assign (.tmp 42)) none,
  .mk (some 12) (.assign (.tmp 43)) none]
def r5_8 : List PS := [.mk (some 45) (.move (.tmp 0)) none,
  .mk (some 46) (.move (.tmp 1)) none,
  .mk (some 47) (.call ⟨(.value (.func 16)), #[(.tmp 45), (.tmp 46)], #[22, 3]⟩) none,
  .mk (some 44) (.move (.tmp 47)) none,
  .mk (some 48) (.extract (.tmp 44) 0) none,
  .mk (some 49) (.extract (.tmp 44) 1) none,
  .mk (some 13) (.assign (.tmp 48)) none,
  .mk (some 14) (.assign (.tmp 49)) none]
def r5_9 : List PS := [.mk (some 50) (.move (.tmp 8)) none,
  .mk (some 51) (.move (.tmp 10)) none,
  .mk (some 52) (.binOp .eql 27 (.tmp 50) (.tmp 51) 27) none,
  .mk (some 53) (.move (.tmp 52)) none,
  .mk (some 54) (.move (.tmp 7)) (some (53, true)),
  .mk (some 55) (.move (.tmp 9)) (some (53, true)),
  .mk (some 56) (.call ⟨(.value (.func 17)), #[(.tmp 54), (.tmp 55)], #[22, 22]⟩) (some (53, true)),
  .mk (some 57) (.pick (.tmp 53) (.tmp 56) (.const (.bool false))) none,
  .mk (some 58) (.move (.tmp 57)) none,
  .mk (some 59) (.move (.tmp 12)) (some (58, true)),
  .mk (some 60) (.move (.tmp 14)) (some (58, true)),
  .mk (some 61) (.binOp .eql 27 (.tmp 59) (.tmp 60) 27) (some (58, true)),
  .mk (some 62) (.pick (.tmp 58) (.tmp 61) (.const (.bool false))) none,
  .mk (some 63) (.move (.tmp 62)) none,
  .mk (some 64) (.move (.tmp 11)) (some (63, true)),
  .mk (some 65) (.move (.tmp 13)) (some (63, true)),
  .mk (some 66) (.call ⟨(.value (.func 18)), #[(.tmp 64), (.tmp 65)], #[26, 26]⟩) (some (63, true)),
  .mk (some 67) (.pick (.tmp 63) (.tmp 66) (.const (.bool false))) none,
  .mk (some 68) (.move (.tmp 67)) none,
  .mk (some 69) (.move (.tmp 5)) (some (68, true)),
  .mk (some 70) (.move (.tmp 0)) (some (68, true)),
  .mk (some 71) (.call ⟨(.value (.func 19)), #[(.tmp 69), (.tmp 70)], #[24, 22]⟩) (some (68, true)),
  .mk (some 72) (.move (.tmp 0)) (some (68, true)),
  .mk (some 73) (.call ⟨(.value (.func 20)), #[(.tmp 72)], #[22]⟩) (some (68, true)),
  .mk (some 74) (.call ⟨(.value (.func 17)), #[(.tmp 71), (.tmp 73)], #[22, 22]⟩) (some (68, true)),
  .mk (some 75) (.pick (.tmp 68) (.tmp 74) (.const (.bool false))) none,
  .mk (some 76) (.move (.tmp 75)) none,
  .mk (some 77) (.call ⟨(.value (.func 6)), #[], #[]⟩) (some (76, true)),
  .mk (some 78) (.pick (.tmp 76) (.tmp 77) (.const (.bool false))) none,
  .mk (some 4) (.assign (.tmp 78)) none]
def c5 : PC := (.seq (.reg false r5_0) (.seq (.seq (.reg false r5_1) (.cond (.tmp 17) (.seq (.reg false r5_2) .ret) .skip)) (.seq (.reg false r5_3) (.seq (.reg false r5_4) (.seq (.reg false r5_5) (.seq (.reg false r5_6) (.seq (.reg false r5_7) (.seq (.reg false r5_8) (.seq (.reg false r5_9) .ret)))))))))
theorem e5 {args : List PV} {h : Heap} {K : PV → Heap → Prop} (hl : args.length = 2) (s : pwp Try.prog [] c5 (fin Try.prog [.tmp 4] h K) (slots0 (olds args)) h) : CanP Try.prog 5 args h K :=
  can_of2 (n := 79) mixed Try.func5 rfl (by kernel_rfl) (by rw [hl]; kernel_rfl) rfl (by kernel_rfl) s
end Go.Proofs.Ytgmhdkheglnbhaa
