/-
  The functions that the statements of this seat reach, told in short, and facts on their types. Printed by this project's own program.
  Conditions: none.
-/
import Derived.Test.YtnlpmgofeboieaaPmO
import Derived.Test.YtnlpmgofeboieaaProg
import Derived.KernelRfl
namespace Go.Proofs.Ytnlpmgofeboieaa
open Go.Pm
set_option maxRecDepth 100000
set_option linter.unusedVariables false
theorem mixed : Try.prog.follows .mixedOrders = true := by kernel_rfl
theorem tag3 : tag Try.prog 3 = some false := by kernel_rfl
theorem tsz3 : tsz Try.prog 3 = some 1 := by kernel_rfl
theorem und3 : und Try.prog 3 = true := by kernel_rfl
theorem ik3 : ik Try.prog 3 = some .i64 := by kernel_rfl
theorem kd3 : kd Try.prog 3 = none := by kernel_rfl
theorem esz3 : esz Try.prog 3 = none := by kernel_rfl
theorem zc3 : zc Try.prog 3 = some [.int .i64 0] := by kernel_rfl
theorem ars3 : ars Try.prog 3 = none := by kernel_rfl
theorem tag4 : tag Try.prog 4 = some false := by kernel_rfl
theorem tsz4 : tsz Try.prog 4 = some 1 := by kernel_rfl
theorem und4 : und Try.prog 4 = true := by kernel_rfl
theorem ik4 : ik Try.prog 4 = none := by kernel_rfl
theorem kd4 : kd Try.prog 4 = some 3 := by kernel_rfl
theorem esz4 : esz Try.prog 4 = none := by kernel_rfl
theorem zc4 : zc Try.prog 4 = some [.bool false] := by kernel_rfl
theorem ars4 : ars Try.prog 4 = none := by kernel_rfl
theorem tag22 : tag Try.prog 22 = some false := by kernel_rfl
theorem tsz22 : tsz Try.prog 22 = some 1 := by kernel_rfl
theorem und22 : und Try.prog 22 = true := by kernel_rfl
theorem ik22 : ik Try.prog 22 = none := by kernel_rfl
theorem kd22 : kd Try.prog 22 = some 1 := by kernel_rfl
theorem esz22 : esz Try.prog 22 = some 1 := by kernel_rfl
theorem elt22 : elt Try.prog 22 = some 3 := by kernel_rfl
theorem zc22 : zc Try.prog 22 = some [.nils] := by kernel_rfl
theorem ars22 : ars Try.prog 22 = none := by kernel_rfl
theorem eli22 : eli Try.prog 22 = some (1, 8, [.int .i64 0]) := by kernel_rfl
theorem tag23 : tag Try.prog 23 = some false := by kernel_rfl
theorem tsz23 : tsz Try.prog 23 = some 1 := by kernel_rfl
theorem und23 : und Try.prog 23 = true := by kernel_rfl
theorem ik23 : ik Try.prog 23 = none := by kernel_rfl
theorem kd23 : kd Try.prog 23 = some 1 := by kernel_rfl
theorem esz23 : esz Try.prog 23 = some 2 := by kernel_rfl
theorem elt23 : elt Try.prog 23 = some 26 := by kernel_rfl
theorem zc23 : zc Try.prog 23 = some [.nils] := by kernel_rfl
theorem ars23 : ars Try.prog 23 = none := by kernel_rfl
theorem eli23 : eli Try.prog 23 = some (2, 16, [.int .i64 0, .int .i64 0]) := by kernel_rfl
theorem tag26 : tag Try.prog 26 = some true := by kernel_rfl
theorem tsz26 : tsz Try.prog 26 = some 2 := by kernel_rfl
theorem und26 : und Try.prog 26 = true := by kernel_rfl
theorem ik26 : ik Try.prog 26 = none := by kernel_rfl
theorem kd26 : kd Try.prog 26 = some 14 := by kernel_rfl
theorem esz26 : esz Try.prog 26 = none := by kernel_rfl
theorem zc26 : zc Try.prog 26 = some [.int .i64 0, .int .i64 0] := by kernel_rfl
theorem ars26 : ars Try.prog 26 = none := by kernel_rfl
theorem fld26_0 : fld Try.prog 26 0 = some (0, false, 1) := by kernel_rfl
theorem fld26_1 : fld Try.prog 26 1 = some (1, false, 1) := by kernel_rfl
theorem plc26 : plc Try.prog 26 = some fun i => [(0, 1), (1, 1)][i]? := by kernel_rfl
theorem tag35 : tag Try.prog 35 = some false := by kernel_rfl
theorem tsz35 : tsz Try.prog 35 = some 1 := by kernel_rfl
theorem und35 : und Try.prog 35 = true := by kernel_rfl
theorem ik35 : ik Try.prog 35 = none := by kernel_rfl
theorem kd35 : kd Try.prog 35 = some 2 := by kernel_rfl
theorem esz35 : esz Try.prog 35 = none := by kernel_rfl
theorem zc35 : zc Try.prog 35 = some [.nilp] := by kernel_rfl
theorem ars35 : ars Try.prog 35 = none := by kernel_rfl
theorem tag37 : tag Try.prog 37 = some false := by kernel_rfl
theorem tsz37 : tsz Try.prog 37 = some 1 := by kernel_rfl
theorem und37 : und Try.prog 37 = true := by kernel_rfl
theorem ik37 : ik Try.prog 37 = none := by kernel_rfl
theorem kd37 : kd Try.prog 37 = some 1 := by kernel_rfl
theorem esz37 : esz Try.prog 37 = some 1 := by kernel_rfl
theorem elt37 : elt Try.prog 37 = some 4 := by kernel_rfl
theorem zc37 : zc Try.prog 37 = some [.nils] := by kernel_rfl
theorem ars37 : ars Try.prog 37 = none := by kernel_rfl
theorem eli37 : eli Try.prog 37 = some (1, 1, [.bool false]) := by kernel_rfl
theorem tag44 : tag Try.prog 44 = some false := by kernel_rfl
theorem tsz44 : tsz Try.prog 44 = some 1 := by kernel_rfl
theorem und44 : und Try.prog 44 = true := by kernel_rfl
theorem ik44 : ik Try.prog 44 = none := by kernel_rfl
theorem kd44 : kd Try.prog 44 = none := by kernel_rfl
theorem esz44 : esz Try.prog 44 = none := by kernel_rfl
theorem zc44 : zc Try.prog 44 = some [.nilf] := by kernel_rfl
theorem ars44 : ars Try.prog 44 = none := by kernel_rfl
theorem tag45 : tag Try.prog 45 = some false := by kernel_rfl
theorem tsz45 : tsz Try.prog 45 = some 1 := by kernel_rfl
theorem und45 : und Try.prog 45 = true := by kernel_rfl
theorem ik45 : ik Try.prog 45 = none := by kernel_rfl
theorem kd45 : kd Try.prog 45 = some 2 := by kernel_rfl
theorem esz45 : esz Try.prog 45 = none := by kernel_rfl
theorem zc45 : zc Try.prog 45 = some [.nilp] := by kernel_rfl
theorem ars45 : ars Try.prog 45 = none := by kernel_rfl
theorem tag46 : tag Try.prog 46 = some false := by kernel_rfl
theorem tsz46 : tsz Try.prog 46 = some 1 := by kernel_rfl
theorem und46 : und Try.prog 46 = true := by kernel_rfl
theorem ik46 : ik Try.prog 46 = some .i64 := by kernel_rfl
theorem kd46 : kd Try.prog 46 = none := by kernel_rfl
theorem esz46 : esz Try.prog 46 = none := by kernel_rfl
theorem zc46 : zc Try.prog 46 = some [.int .i64 0] := by kernel_rfl
theorem ars46 : ars Try.prog 46 = none := by kernel_rfl
theorem tag49 : tag Try.prog 49 = some false := by kernel_rfl
theorem tsz49 : tsz Try.prog 49 = some 1 := by kernel_rfl
theorem und49 : und Try.prog 49 = true := by kernel_rfl
theorem ik49 : ik Try.prog 49 = none := by kernel_rfl
theorem kd49 : kd Try.prog 49 = some 1 := by kernel_rfl
theorem esz49 : esz Try.prog 49 = some 3 := by kernel_rfl
theorem elt49 : elt Try.prog 49 = some 76 := by kernel_rfl
theorem zc49 : zc Try.prog 49 = some [.nils] := by kernel_rfl
theorem ars49 : ars Try.prog 49 = none := by kernel_rfl
theorem eli49 : eli Try.prog 49 = some (3, 24, [.int .i64 0, .int .i64 0, .int .i64 0]) := by kernel_rfl
theorem tag52 : tag Try.prog 52 = some true := by kernel_rfl
theorem tsz52 : tsz Try.prog 52 = some 2 := by kernel_rfl
theorem und52 : und Try.prog 52 = true := by kernel_rfl
theorem ik52 : ik Try.prog 52 = none := by kernel_rfl
theorem kd52 : kd Try.prog 52 = none := by kernel_rfl
theorem esz52 : esz Try.prog 52 = none := by kernel_rfl
theorem zc52 : zc Try.prog 52 = some [.nilp, .nilp] := by kernel_rfl
theorem ars52 : ars Try.prog 52 = none := by kernel_rfl
theorem fld52_0 : fld Try.prog 52 0 = some (0, false, 1) := by kernel_rfl
theorem fld52_1 : fld Try.prog 52 1 = some (1, false, 1) := by kernel_rfl
theorem plc52 : plc Try.prog 52 = some fun i => [(0, 1), (1, 1)][i]? := by kernel_rfl
theorem tag54 : tag Try.prog 54 = some true := by kernel_rfl
theorem tsz54 : tsz Try.prog 54 = some 2 := by kernel_rfl
theorem und54 : und Try.prog 54 = true := by kernel_rfl
theorem ik54 : ik Try.prog 54 = none := by kernel_rfl
theorem kd54 : kd Try.prog 54 = none := by kernel_rfl
theorem esz54 : esz Try.prog 54 = none := by kernel_rfl
theorem zc54 : zc Try.prog 54 = some [.nilp, .nilp] := by kernel_rfl
theorem ars54 : ars Try.prog 54 = none := by kernel_rfl
theorem fld54_0 : fld Try.prog 54 0 = some (0, true, 2) := by kernel_rfl
theorem plc54 : plc Try.prog 54 = some fun i => [(0, 2)][i]? := by kernel_rfl
theorem tag58 : tag Try.prog 58 = some true := by kernel_rfl
theorem tsz58 : tsz Try.prog 58 = some 3 := by kernel_rfl
theorem und58 : und Try.prog 58 = true := by kernel_rfl
theorem ik58 : ik Try.prog 58 = none := by kernel_rfl
theorem kd58 : kd Try.prog 58 = some 16 := by kernel_rfl
theorem esz58 : esz Try.prog 58 = none := by kernel_rfl
theorem zc58 : zc Try.prog 58 = some [.int .i64 0, .int .i64 0, .int .i64 0] := by kernel_rfl
theorem ars58 : ars Try.prog 58 = none := by kernel_rfl
theorem fld58_0 : fld Try.prog 58 0 = some (0, false, 1) := by kernel_rfl
theorem fld58_1 : fld Try.prog 58 1 = some (1, false, 1) := by kernel_rfl
theorem fld58_2 : fld Try.prog 58 2 = some (2, false, 1) := by kernel_rfl
theorem plc58 : plc Try.prog 58 = some fun i => [(0, 1), (1, 1), (2, 1)][i]? := by kernel_rfl
theorem tag61 : tag Try.prog 61 = some false := by kernel_rfl
theorem tsz61 : tsz Try.prog 61 = some 1 := by kernel_rfl
theorem und61 : und Try.prog 61 = true := by kernel_rfl
theorem ik61 : ik Try.prog 61 = none := by kernel_rfl
theorem kd61 : kd Try.prog 61 = some 1 := by kernel_rfl
theorem esz61 : esz Try.prog 61 = some 3 := by kernel_rfl
theorem elt61 : elt Try.prog 61 = some 58 := by kernel_rfl
theorem zc61 : zc Try.prog 61 = some [.nils] := by kernel_rfl
theorem ars61 : ars Try.prog 61 = none := by kernel_rfl
theorem eli61 : eli Try.prog 61 = some (3, 24, [.int .i64 0, .int .i64 0, .int .i64 0]) := by kernel_rfl
theorem tag65 : tag Try.prog 65 = some false := by kernel_rfl
theorem tsz65 : tsz Try.prog 65 = some 1 := by kernel_rfl
theorem und65 : und Try.prog 65 = true := by kernel_rfl
theorem ik65 : ik Try.prog 65 = none := by kernel_rfl
theorem kd65 : kd Try.prog 65 = some 1 := by kernel_rfl
theorem esz65 : esz Try.prog 65 = some 128 := by kernel_rfl
theorem elt65 : elt Try.prog 65 = some 71 := by kernel_rfl
theorem zc65 : zc Try.prog 65 = some [.nils] := by kernel_rfl
theorem ars65 : ars Try.prog 65 = none := by kernel_rfl
theorem eli65 : eli Try.prog 65 = some (128, 1024, List.replicate 128 (.int .i64 0)) := by kernel_rfl
theorem tag67 : tag Try.prog 67 = some true := by kernel_rfl
theorem tsz67 : tsz Try.prog 67 = some 2 := by kernel_rfl
theorem und67 : und Try.prog 67 = true := by kernel_rfl
theorem ik67 : ik Try.prog 67 = none := by kernel_rfl
theorem kd67 : kd Try.prog 67 = none := by kernel_rfl
theorem esz67 : esz Try.prog 67 = none := by kernel_rfl
theorem zc67 : zc Try.prog 67 = some [.nils, .nils] := by kernel_rfl
theorem ars67 : ars Try.prog 67 = none := by kernel_rfl
theorem fld67_0 : fld Try.prog 67 0 = some (0, false, 1) := by kernel_rfl
theorem fld67_1 : fld Try.prog 67 1 = some (1, false, 1) := by kernel_rfl
theorem plc67 : plc Try.prog 67 = some fun i => [(0, 1), (1, 1)][i]? := by kernel_rfl
theorem tag69 : tag Try.prog 69 = some true := by kernel_rfl
theorem tsz69 : tsz Try.prog 69 = some 4 := by kernel_rfl
theorem und69 : und Try.prog 69 = true := by kernel_rfl
theorem ik69 : ik Try.prog 69 = none := by kernel_rfl
theorem kd69 : kd Try.prog 69 = none := by kernel_rfl
theorem esz69 : esz Try.prog 69 = none := by kernel_rfl
theorem zc69 : zc Try.prog 69 = some [.nils, .nils, .int .i64 0, .bool false] := by kernel_rfl
theorem ars69 : ars Try.prog 69 = none := by kernel_rfl
theorem fld69_0 : fld Try.prog 69 0 = some (0, true, 2) := by kernel_rfl
theorem fld69_1 : fld Try.prog 69 1 = some (2, false, 1) := by kernel_rfl
theorem fld69_2 : fld Try.prog 69 2 = some (3, false, 1) := by kernel_rfl
theorem plc69 : plc Try.prog 69 = some fun i => [(0, 2), (2, 1), (3, 1)][i]? := by kernel_rfl
theorem tag71 : tag Try.prog 71 = some true := by kernel_rfl
theorem tsz71 : tsz Try.prog 71 = some 128 := by kernel_rfl
theorem und71 : und Try.prog 71 = true := by kernel_rfl
theorem ik71 : ik Try.prog 71 = none := by kernel_rfl
theorem kd71 : kd Try.prog 71 = some 266 := by kernel_rfl
theorem esz71 : esz Try.prog 71 = none := by kernel_rfl
theorem zc71 : zc Try.prog 71 = some (List.replicate 128 (.int .i64 0)) := by kernel_rfl
theorem ars71 : ars Try.prog 71 = some (128, 1, false) := by kernel_rfl
theorem plc71 : plc Try.prog 71 = some fun i => some (i * 1, 1) := by kernel_rfl
theorem tag76 : tag Try.prog 76 = some true := by kernel_rfl
theorem tsz76 : tsz Try.prog 76 = some 3 := by kernel_rfl
theorem und76 : und Try.prog 76 = true := by kernel_rfl
theorem ik76 : ik Try.prog 76 = none := by kernel_rfl
theorem kd76 : kd Try.prog 76 = some 16 := by kernel_rfl
theorem esz76 : esz Try.prog 76 = none := by kernel_rfl
theorem zc76 : zc Try.prog 76 = some [.int .i64 0, .int .i64 0, .int .i64 0] := by kernel_rfl
theorem ars76 : ars Try.prog 76 = none := by kernel_rfl
theorem fld76_0 : fld Try.prog 76 0 = some (0, false, 1) := by kernel_rfl
theorem fld76_1 : fld Try.prog 76 1 = some (1, false, 1) := by kernel_rfl
theorem fld76_2 : fld Try.prog 76 2 = some (2, false, 1) := by kernel_rfl
theorem plc76 : plc Try.prog 76 = some fun i => [(0, 1), (1, 1), (2, 1)][i]? := by kernel_rfl
theorem tag78 : tag Try.prog 78 = some false := by kernel_rfl
theorem tsz78 : tsz Try.prog 78 = some 1 := by kernel_rfl
theorem und78 : und Try.prog 78 = true := by kernel_rfl
theorem ik78 : ik Try.prog 78 = none := by kernel_rfl
theorem kd78 : kd Try.prog 78 = some 2 := by kernel_rfl
theorem esz78 : esz Try.prog 78 = none := by kernel_rfl
theorem zc78 : zc Try.prog 78 = some [.nilp] := by kernel_rfl
theorem ars78 : ars Try.prog 78 = none := by kernel_rfl
theorem ft : (tag Try.prog 3 = some false) ∧
    (tsz Try.prog 3 = some 1) ∧
    (und Try.prog 3 = true) ∧
    (ik Try.prog 3 = some .i64) ∧
    (kd Try.prog 3 = none) ∧
    (esz Try.prog 3 = none) ∧
    (zc Try.prog 3 = some [.int .i64 0]) ∧
    (ars Try.prog 3 = none) ∧
    (tag Try.prog 4 = some false) ∧
    (tsz Try.prog 4 = some 1) ∧
    (und Try.prog 4 = true) ∧
    (ik Try.prog 4 = none) ∧
    (kd Try.prog 4 = some 3) ∧
    (esz Try.prog 4 = none) ∧
    (zc Try.prog 4 = some [.bool false]) ∧
    (ars Try.prog 4 = none) ∧
    (tag Try.prog 22 = some false) ∧
    (tsz Try.prog 22 = some 1) ∧
    (und Try.prog 22 = true) ∧
    (ik Try.prog 22 = none) ∧
    (kd Try.prog 22 = some 1) ∧
    (esz Try.prog 22 = some 1) ∧
    (elt Try.prog 22 = some 3) ∧
    (zc Try.prog 22 = some [.nils]) ∧
    (ars Try.prog 22 = none) ∧
    (eli Try.prog 22 = some (1, 8, [.int .i64 0])) ∧
    (tag Try.prog 23 = some false) ∧
    (tsz Try.prog 23 = some 1) ∧
    (und Try.prog 23 = true) ∧
    (ik Try.prog 23 = none) ∧
    (kd Try.prog 23 = some 1) ∧
    (esz Try.prog 23 = some 2) ∧
    (elt Try.prog 23 = some 26) ∧
    (zc Try.prog 23 = some [.nils]) ∧
    (ars Try.prog 23 = none) ∧
    (eli Try.prog 23 = some (2, 16, [.int .i64 0, .int .i64 0])) ∧
    (tag Try.prog 26 = some true) ∧
    (tsz Try.prog 26 = some 2) ∧
    (und Try.prog 26 = true) ∧
    (ik Try.prog 26 = none) ∧
    (kd Try.prog 26 = some 14) ∧
    (esz Try.prog 26 = none) ∧
    (zc Try.prog 26 = some [.int .i64 0, .int .i64 0]) ∧
    (ars Try.prog 26 = none) ∧
    (fld Try.prog 26 0 = some (0, false, 1)) ∧
    (fld Try.prog 26 1 = some (1, false, 1)) ∧
    (plc Try.prog 26 = some fun i => [(0, 1), (1, 1)][i]?) ∧
    (tag Try.prog 35 = some false) ∧
    (tsz Try.prog 35 = some 1) ∧
    (und Try.prog 35 = true) ∧
    (ik Try.prog 35 = none) ∧
    (kd Try.prog 35 = some 2) ∧
    (esz Try.prog 35 = none) ∧
    (zc Try.prog 35 = some [.nilp]) ∧
    (ars Try.prog 35 = none) ∧
    (tag Try.prog 37 = some false) ∧
    (tsz Try.prog 37 = some 1) ∧
    (und Try.prog 37 = true) ∧
    (ik Try.prog 37 = none) ∧
    (kd Try.prog 37 = some 1) ∧
    (esz Try.prog 37 = some 1) ∧
    (elt Try.prog 37 = some 4) ∧
    (zc Try.prog 37 = some [.nils]) ∧
    (ars Try.prog 37 = none) ∧
    (eli Try.prog 37 = some (1, 1, [.bool false])) ∧
    (tag Try.prog 44 = some false) ∧
    (tsz Try.prog 44 = some 1) ∧
    (und Try.prog 44 = true) ∧
    (ik Try.prog 44 = none) ∧
    (kd Try.prog 44 = none) ∧
    (esz Try.prog 44 = none) ∧
    (zc Try.prog 44 = some [.nilf]) ∧
    (ars Try.prog 44 = none) ∧
    (tag Try.prog 45 = some false) ∧
    (tsz Try.prog 45 = some 1) ∧
    (und Try.prog 45 = true) ∧
    (ik Try.prog 45 = none) ∧
    (kd Try.prog 45 = some 2) ∧
    (esz Try.prog 45 = none) ∧
    (zc Try.prog 45 = some [.nilp]) ∧
    (ars Try.prog 45 = none) ∧
    (tag Try.prog 46 = some false) ∧
    (tsz Try.prog 46 = some 1) ∧
    (und Try.prog 46 = true) ∧
    (ik Try.prog 46 = some .i64) ∧
    (kd Try.prog 46 = none) ∧
    (esz Try.prog 46 = none) ∧
    (zc Try.prog 46 = some [.int .i64 0]) ∧
    (ars Try.prog 46 = none) ∧
    (tag Try.prog 49 = some false) ∧
    (tsz Try.prog 49 = some 1) ∧
    (und Try.prog 49 = true) ∧
    (ik Try.prog 49 = none) ∧
    (kd Try.prog 49 = some 1) ∧
    (esz Try.prog 49 = some 3) ∧
    (elt Try.prog 49 = some 76) ∧
    (zc Try.prog 49 = some [.nils]) ∧
    (ars Try.prog 49 = none) ∧
    (eli Try.prog 49 = some (3, 24, [.int .i64 0, .int .i64 0, .int .i64 0])) ∧
    (tag Try.prog 52 = some true) ∧
    (tsz Try.prog 52 = some 2) ∧
    (und Try.prog 52 = true) ∧
    (ik Try.prog 52 = none) ∧
    (kd Try.prog 52 = none) ∧
    (esz Try.prog 52 = none) ∧
    (zc Try.prog 52 = some [.nilp, .nilp]) ∧
    (ars Try.prog 52 = none) ∧
    (fld Try.prog 52 0 = some (0, false, 1)) ∧
    (fld Try.prog 52 1 = some (1, false, 1)) ∧
    (plc Try.prog 52 = some fun i => [(0, 1), (1, 1)][i]?) ∧
    (tag Try.prog 54 = some true) ∧
    (tsz Try.prog 54 = some 2) ∧
    (und Try.prog 54 = true) ∧
    (ik Try.prog 54 = none) ∧
    (kd Try.prog 54 = none) ∧
    (esz Try.prog 54 = none) ∧
    (zc Try.prog 54 = some [.nilp, .nilp]) ∧
    (ars Try.prog 54 = none) ∧
    (fld Try.prog 54 0 = some (0, true, 2)) ∧
    (plc Try.prog 54 = some fun i => [(0, 2)][i]?) ∧
    (tag Try.prog 58 = some true) ∧
    (tsz Try.prog 58 = some 3) ∧
    (und Try.prog 58 = true) ∧
    (ik Try.prog 58 = none) ∧
    (kd Try.prog 58 = some 16) ∧
    (esz Try.prog 58 = none) ∧
    (zc Try.prog 58 = some [.int .i64 0, .int .i64 0, .int .i64 0]) ∧
    (ars Try.prog 58 = none) ∧
    (fld Try.prog 58 0 = some (0, false, 1)) ∧
    (fld Try.prog 58 1 = some (1, false, 1)) ∧
    (fld Try.prog 58 2 = some (2, false, 1)) ∧
    (plc Try.prog 58 = some fun i => [(0, 1), (1, 1), (2, 1)][i]?) ∧
    (tag Try.prog 61 = some false) ∧
    (tsz Try.prog 61 = some 1) ∧
    (und Try.prog 61 = true) ∧
    (ik Try.prog 61 = none) ∧
    (kd Try.prog 61 = some 1) ∧
    (esz Try.prog 61 = some 3) ∧
    (elt Try.prog 61 = some 58) ∧
    (zc Try.prog 61 = some [.nils]) ∧
    (ars Try.prog 61 = none) ∧
    (eli Try.prog 61 = some (3, 24, [.int .i64 0, .int .i64 0, .int .i64 0])) ∧
    (tag Try.prog 65 = some false) ∧
    (tsz Try.prog 65 = some 1) ∧
    (und Try.prog 65 = true) ∧
    (ik Try.prog 65 = none) ∧
    (kd Try.prog 65 = some 1) ∧
    (esz Try.prog 65 = some 128) ∧
    (elt Try.prog 65 = some 71) ∧
    (zc Try.prog 65 = some [.nils]) ∧
    (ars Try.prog 65 = none) ∧
    (eli Try.prog 65 = some (128, 1024, List.replicate 128 (.int .i64 0))) ∧
    (tag Try.prog 67 = some true) ∧
    (tsz Try.prog 67 = some 2) ∧
    (und Try.prog 67 = true) ∧
    (ik Try.prog 67 = none) ∧
    (kd Try.prog 67 = none) ∧
    (esz Try.prog 67 = none) ∧
    (zc Try.prog 67 = some [.nils, .nils]) ∧
    (ars Try.prog 67 = none) ∧
    (fld Try.prog 67 0 = some (0, false, 1)) ∧
    (fld Try.prog 67 1 = some (1, false, 1)) ∧
    (plc Try.prog 67 = some fun i => [(0, 1), (1, 1)][i]?) ∧
    (tag Try.prog 69 = some true) ∧
    (tsz Try.prog 69 = some 4) ∧
    (und Try.prog 69 = true) ∧
    (ik Try.prog 69 = none) ∧
    (kd Try.prog 69 = none) ∧
    (esz Try.prog 69 = none) ∧
    (zc Try.prog 69 = some [.nils, .nils, .int .i64 0, .bool false]) ∧
    (ars Try.prog 69 = none) ∧
    (fld Try.prog 69 0 = some (0, true, 2)) ∧
    (fld Try.prog 69 1 = some (2, false, 1)) ∧
    (fld Try.prog 69 2 = some (3, false, 1)) ∧
    (plc Try.prog 69 = some fun i => [(0, 2), (2, 1), (3, 1)][i]?) ∧
    (tag Try.prog 71 = some true) ∧
    (tsz Try.prog 71 = some 128) ∧
    (und Try.prog 71 = true) ∧
    (ik Try.prog 71 = none) ∧
    (kd Try.prog 71 = some 266) ∧
    (esz Try.prog 71 = none) ∧
    (zc Try.prog 71 = some (List.replicate 128 (.int .i64 0))) ∧
    (ars Try.prog 71 = some (128, 1, false)) ∧
    (plc Try.prog 71 = some fun i => some (i * 1, 1)) ∧
    (tag Try.prog 76 = some true) ∧
    (tsz Try.prog 76 = some 3) ∧
    (und Try.prog 76 = true) ∧
    (ik Try.prog 76 = none) ∧
    (kd Try.prog 76 = some 16) ∧
    (esz Try.prog 76 = none) ∧
    (zc Try.prog 76 = some [.int .i64 0, .int .i64 0, .int .i64 0]) ∧
    (ars Try.prog 76 = none) ∧
    (fld Try.prog 76 0 = some (0, false, 1)) ∧
    (fld Try.prog 76 1 = some (1, false, 1)) ∧
    (fld Try.prog 76 2 = some (2, false, 1)) ∧
    (plc Try.prog 76 = some fun i => [(0, 1), (1, 1), (2, 1)][i]?) ∧
    (tag Try.prog 78 = some false) ∧
    (tsz Try.prog 78 = some 1) ∧
    (und Try.prog 78 = true) ∧
    (ik Try.prog 78 = none) ∧
    (kd Try.prog 78 = some 2) ∧
    (esz Try.prog 78 = none) ∧
    (zc Try.prog 78 = some [.nilp]) ∧
    (ars Try.prog 78 = none) :=
  ⟨tag3, tsz3, und3, ik3, kd3, esz3, zc3, ars3, tag4, tsz4, und4, ik4, kd4, esz4, zc4, ars4, tag22, tsz22, und22, ik22, kd22, esz22, elt22, zc22, ars22, eli22, tag23, tsz23, und23, ik23, kd23, esz23, elt23, zc23, ars23, eli23, tag26, tsz26, und26, ik26, kd26, esz26, zc26, ars26, fld26_0, fld26_1, plc26, tag35, tsz35, und35, ik35, kd35, esz35, zc35, ars35, tag37, tsz37, und37, ik37, kd37, esz37, elt37, zc37, ars37, eli37, tag44, tsz44, und44, ik44, kd44, esz44, zc44, ars44, tag45, tsz45, und45, ik45, kd45, esz45, zc45, ars45, tag46, tsz46, und46, ik46, kd46, esz46, zc46, ars46, tag49, tsz49, und49, ik49, kd49, esz49, elt49, zc49, ars49, eli49, tag52, tsz52, und52, ik52, kd52, esz52, zc52, ars52, fld52_0, fld52_1, plc52, tag54, tsz54, und54, ik54, kd54, esz54, zc54, ars54, fld54_0, plc54, tag58, tsz58, und58, ik58, kd58, esz58, zc58, ars58, fld58_0, fld58_1, fld58_2, plc58, tag61, tsz61, und61, ik61, kd61, esz61, elt61, zc61, ars61, eli61, tag65, tsz65, und65, ik65, kd65, esz65, elt65, zc65, ars65, eli65, tag67, tsz67, und67, ik67, kd67, esz67, zc67, ars67, fld67_0, fld67_1, plc67, tag69, tsz69, und69, ik69, kd69, esz69, zc69, ars69, fld69_0, fld69_1, fld69_2, plc69, tag71, tsz71, und71, ik71, kd71, esz71, zc71, ars71, plc71, tag76, tsz76, und76, ik76, kd76, esz76, zc76, ars76, fld76_0, fld76_1, fld76_2, plc76, tag78, tsz78, und78, ik78, kd78, esz78, zc78, ars78⟩
/-! ### naskh.api.Ligatures: function 34 -/
def r34_0 : List PS := [.mk (some 0) (.assign (.const (.slice none 0 0))) none]
def r34_1 : List PS := [.mk (some 1) (.build 58 #[(0, (.const (.int .i64 1570))), (1, (.const (.int .i64 65269))), (2, (.const (.int .i64 65270)))]) none,
  .mk (some 2) (.build 58 #[(0, (.const (.int .i64 1571))), (1, (.const (.int .i64 65271))), (2, (.const (.int .i64 65272)))]) none,
  .mk (some 3) (.build 58 #[(0, (.const (.int .i64 1573))), (1, (.const (.int .i64 65273))), (2, (.const (.int .i64 65274)))]) none,
  .mk (some 4) (.build 58 #[(0, (.const (.int .i64 1575))), (1, (.const (.int .i64 65275))), (2, (.const (.int .i64 65276)))]) none,
  .mk (some 5) (.buildSlice 61 4 #[(0, (.tmp 1)), (1, (.tmp 2)), (2, (.tmp 3)), (3, (.tmp 4))]) none,
  .mk (some 0) (.assign (.tmp 5)) none]
def c34 : PC := (.seq (.reg false r34_0) (.seq (.reg false r34_1) .ret))
theorem e34 {args : List PV} {h : Heap} {K : PV → Heap → Prop} (hl : args.length = 0) (s : pwp Try.prog [] c34 (fin Try.prog [.tmp 0] h K) (slots0 (olds args)) h) : CanP Try.prog 34 args h K :=
  can_of2 (n := 6) mixed Try.func34 rfl (by kernel_rfl) (by rw [hl]; kernel_rfl) rfl (by kernel_rfl) s
/-! ### naskh.forms.alef: function 33 -/
def r33_0 : List PS := [.mk (some 2) (.alloc 58) none,
  .mk (some 3) (.assign (.const (.bool false))) none]
def r33_1 : List PS := [.mk (some 6) (.call ⟨(.value (.func 34)), #[], #[]⟩) none,
  .mk (some 7) (.call ⟨(.builtin .len), #[(.tmp 6)], #[61]⟩) none,
  .mk (some 8) (.move (.const (.int .i64 0))) none]
def r33_2 : List PS := [.mk (some 9) (.binOp .lss 3 (.tmp 8) (.tmp 7) 3) none]
def r33_3 : List PS := [.mk (some 10) (.indexAddr 61 (.tmp 6) (.tmp 8)) none,
  .mk (some 11) (.load 58 (.tmp 10)) none,
  .mk (some 5) (.alloc 58) none,
  .mk none (.store 58 (.tmp 5) (.tmp 11)) none,
  .frz 5]
def r33_4 : List PS := [.mk (some 12) (.fieldAddr 58 (.tmp 5) 0) none,
  .mk (some 13) (.load 3 (.tmp 12)) none,
  .mk (some 14) (.move (.tmp 0)) none,
  .mk (some 15) (.binOp .eql 3 (.tmp 13) (.tmp 14) 3) none]
def r33_5 : List PS := [.mk (some 16) (.load 58 (.tmp 5)) none,
  .mk none (.store 58 (.tmp 2) (.tmp 16)) none,
  .mk (some 3) (.assign (.const (.bool true))) none]
def r33_6 : List PS := [.mk (some 17) (.binOp .add 3 (.tmp 8) (.const (.int .i64 1)) 3) none,
  .mk (some 8) (.move (.tmp 17)) none]
def r33_7 : List PS := [.mk (some 18) (.build 58 #[]) none,
  .mk none (.store 58 (.tmp 2) (.tmp 18)) none,
  .mk (some 3) (.assign (.const (.bool false))) none]
def c33 : PC := (.seq (.reg false r33_0) (.seq (.seq (.reg false r33_1) (.block 0 (.loop (.seq (.reg false r33_2) (.seq (.cond (.tmp 9) .skip (.exit 0)) (.seq (.block 1 (.seq (.reg false r33_3) (.seq (.reg false r33_4) (.cond (.tmp 15) (.seq (.reg false r33_5) .ret) .skip)))) (.reg false r33_6))))))) (.seq (.reg false r33_7) .ret)))
theorem e33 {args : List PV} {h : Heap} {K : PV → Heap → Prop} (hl : args.length = 1) (s : pwp Try.prog [2, 5] c33 (fin Try.prog [.cell 2 58, .tmp 3] h K) (slots0 (olds args)) h) : CanP Try.prog 33 args h K :=
  can_of2 (n := 19) mixed Try.func33 rfl (by kernel_rfl) (by rw [hl]; kernel_rfl) rfl (by kernel_rfl) s
/-! ### naskh.forms.Ligate: function 19 -/
def r19_0 : List PS := [.mk (some 4) (.assign (.const (.int .i64 0))) none,
  .mk (some 5) (.assign (.const (.bool false))) none]
def r19_1 : List PS := [.mk (some 9) (.move (.tmp 0)) none,
  .mk (some 10) (.call ⟨(.value (.func 33)), #[(.tmp 9)], #[3]⟩) none,
  .mk (some 8) (.move (.tmp 10)) none,
  .mk (some 11) (.extract (.tmp 8) 0) none,
  .mk (some 12) (.extract (.tmp 8) 1) none,
  .mk (some 6) (.alloc 58) none,
  .mk none (.store 58 (.tmp 6) (.tmp 11)) none,
  .frz 6,
  .mk (some 7) (.assign (.tmp 12)) none]
def r19_2 : List PS := [.mk (some 13) (.move (.tmp 7)) none,
  .mk (some 14) (.unOp .not 4 (.tmp 13)) none]
def r19_3 : List PS := [.mk (some 4) (.assign (.const (.int .i64 0))) none,
  .mk (some 5) (.assign (.const (.bool false))) none]
def r19_4 : List PS := [.mk (some 15) (.move (.tmp 1)) none]
def r19_5 : List PS := [.mk (some 17) (.binOp .eql 3 (.tmp 15) (.const (.int .i64 1)) 3) none,
  .mk (some 16) (.assign (.tmp 17)) none]
def r19_6 : List PS := [.mk (some 18) (.fieldAddr 58 (.tmp 6) 1) none,
  .mk (some 19) (.load 3 (.tmp 18)) none,
  .mk (some 4) (.assign (.tmp 19)) none,
  .mk (some 5) (.assign (.const (.bool true))) none]
def r19_7 : List PS := [.mk (some 21) (.binOp .eql 3 (.tmp 15) (.const (.int .i64 2)) 3) none,
  .mk (some 20) (.assign (.tmp 21)) none]
def r19_8 : List PS := [.mk (some 22) (.fieldAddr 58 (.tmp 6) 2) none,
  .mk (some 23) (.load 3 (.tmp 22)) none,
  .mk (some 4) (.assign (.tmp 23)) none,
  .mk (some 5) (.assign (.const (.bool true))) none]
def r19_9 : List PS := [.mk (some 4) (.assign (.const (.int .i64 0))) none,
  .mk (some 5) (.assign (.const (.bool false))) none]
def c19 : PC := (.seq (.reg false r19_0) (.seq (.reg false r19_1) (.seq (.seq (.reg false r19_2) (.cond (.tmp 14) (.seq (.reg false r19_3) .ret) .skip)) (.seq (.seq (.reg false r19_4) (.block 0 (.seq (.reg false r19_5) (.cond (.tmp 16) (.seq (.reg false r19_6) .ret) (.seq (.reg false r19_7) (.cond (.tmp 20) (.seq (.reg false r19_8) .ret) .skip)))))) (.seq (.reg false r19_9) .ret)))))
theorem e19 {args : List PV} {h : Heap} {K : PV → Heap → Prop} (hl : args.length = 2) (s : pwp Try.prog [6] c19 (fin Try.prog [.tmp 4, .tmp 5] h K) (slots0 (olds args)) h) : CanP Try.prog 19 args h K :=
  can_of2 (n := 24) mixed Try.func19 rfl (by kernel_rfl) (by rw [hl]; kernel_rfl) rfl (by kernel_rfl) s
/-! ### naskh.lamalef.Alef: function 7 -/
def r7_0 : List PS := [.mk (some 2) (.assign (.const (.bool false))) none]
def r7_1 : List PS := [.mk (some 6) (.move (.tmp 0)) none,
  .mk (some 7) (.call ⟨(.value (.func 19)), #[(.tmp 6), (.const (.int .i64 1))], #[3, 3]⟩) none,
  .mk (some 5) (.move (.tmp 7)) none,
  .mk (some 8) (.extract (.tmp 5) 0) none,
  .mk (some 9) (.extract (.tmp 5) 1) none,
  .mk (some 3) (.assign (.tmp 8)) none,
  .mk (some 4) (.assign (.tmp 9)) none]
def r7_2 : List PS := [.mk (some 10) (.move (.tmp 4)) none,
  .mk (some 2) (.assign (.tmp 10)) none]
def c7 : PC := (.seq (.reg false r7_0) (.seq (.reg false r7_1) (.seq (.reg false r7_2) .ret)))
theorem e7 {args : List PV} {h : Heap} {K : PV → Heap → Prop} (hl : args.length = 1) (s : pwp Try.prog [] c7 (fin Try.prog [.tmp 2] h K) (slots0 (olds args)) h) : CanP Try.prog 7 args h K :=
  can_of2 (n := 11) mixed Try.func7 rfl (by kernel_rfl) (by rw [hl]; kernel_rfl) rfl (by kernel_rfl) s
/-! ### slices.Equal[[]int,int]: function 9 -/
def r9_0 : List PS := [.mk (some 4) (.assign (.const (.bool false))) none]
def r9_1 : List PS := [.mk (some 6) (.move (.tmp 0)) none,
  .mk (some 7) (.call ⟨(.builtin .len), #[(.tmp 6)], #[22]⟩) none,
  .mk (some 8) (.move (.tmp 1)) none,
  .mk (some 9) (.call ⟨(.builtin .len), #[(.tmp 8)], #[22]⟩) none,
  .mk (some 10) (.binOp .neq 3 (.tmp 7) (.tmp 9) 3) none]
def r9_2 : List PS := [.mk (some 4) (.assign (.const (.bool false))) none]
def r9_3 : List PS := [.mk (some 11) (.move (.tmp 0)) none,
  .mk (some 12) (.call ⟨(.builtin .len), #[(.tmp 11)], #[22]⟩) none,
  .mk (some 13) (.move (.const (.int .i64 0))) none]
def r9_4 : List PS := [.mk (some 14) (.binOp .lss 3 (.tmp 13) (.tmp 12) 3) none]
def r9_5 : List PS := [.mk (some 15) (.move (.tmp 13)) none,
  .mk (some 5) (.assign (.tmp 15)) none]
def r9_6 : List PS := [.mk (some 16) (.move (.tmp 0)) none,
  .mk (some 17) (.move (.tmp 5)) none,
  .mk (some 18) (.indexAddr 22 (.tmp 16) (.tmp 17)) none,
  .mk (some 19) (.load 3 (.tmp 18)) none,
  .mk (some 20) (.move (.tmp 1)) none,
  .mk (some 21) (.move (.tmp 5)) none,
  .mk (some 22) (.indexAddr 22 (.tmp 20) (.tmp 21)) none,
  .mk (some 23) (.load 3 (.tmp 22)) none,
  .mk (some 24) (.binOp .neq 3 (.tmp 19) (.tmp 23) 3) none]
def r9_7 : List PS := [.mk (some 4) (.assign (.const (.bool false))) none]
def r9_8 : List PS := [.mk (some 25) (.binOp .add 3 (.tmp 13) (.const (.int .i64 1)) 3) none,
  .mk (some 13) (.move (.tmp 25)) none]
def r9_9 : List PS := [.mk (some 4) (.assign (.const (.bool true))) none]
def c9 : PC := (.seq (.reg false r9_0) (.seq (.seq (.reg false r9_1) (.cond (.tmp 10) (.seq (.reg false r9_2) .ret) .skip)) (.seq (.seq (.reg false r9_3) (.block 0 (.loop (.seq (.reg false r9_4) (.seq (.cond (.tmp 14) .skip (.exit 0)) (.seq (.block 1 (.seq (.reg false r9_5) (.seq (.reg true r9_6) (.cond (.tmp 24) (.seq (.reg false r9_7) .ret) .skip)))) (.reg false r9_8))))))) (.seq (.reg false r9_9) .ret))))
theorem e9 {args : List PV} {h : Heap} {K : PV → Heap → Prop} (hl : args.length = 2) (s : pwp Try.prog [] c9 (fin Try.prog [.tmp 4] h K) (slots0 (olds args)) h) : CanP Try.prog 9 args h K :=
  can_of2 (n := 26) mixed Try.func9 rfl (by kernel_rfl) (by rw [hl]; kernel_rfl) rfl (by kernel_rfl) s
/-! ### naskh.lamalef.within: function 21 -/
def r21_0 : List PS := [.mk (some 2) (.box 26 (.tmp 0)) none,
  .mk (some 4) (.assign (.const (.bool false))) none]
def r21_1 : List PS := [.mk (some 5) (.fieldAddr 26 (.tmp 2) 0) none,
  .mk (some 6) (.load 3 (.tmp 5)) none,
  .mk (some 7) (.binOp .geq 3 (.tmp 6) (.const (.int .i64 0)) 3) none,
  .mk (some 8) (.move (.tmp 7)) none,
  .mk (some 9) (.fieldAddr 26 (.tmp 2) 0) (some (8, true)),
  .mk (some 10) (.load 3 (.tmp 9)) (some (8, true)),
  .mk (some 11) (.move (.tmp 1)) (some (8, true)),
  .mk (some 12) (.binOp .lss 3 (.tmp 10) (.tmp 11) 3) (some (8, true)),
  .mk (some 13) (.pick (.tmp 8) (.tmp 12) (.const (.bool false))) none,
  .mk (some 14) (.move (.tmp 13)) none,
  .mk (some 15) (.fieldAddr 26 (.tmp 2) 1) (some (14, true)),
  .mk (some 16) (.load 3 (.tmp 15)) (some (14, true)),
  .mk (some 17) (.binOp .geq 3 (.tmp 16) (.const (.int .i64 0)) 3) (some (14, true)),
  .mk (some 18) (.pick (.tmp 14) (.tmp 17) (.const (.bool false))) none,
  .mk (some 19) (.move (.tmp 18)) none,
  .mk (some 20) (.fieldAddr 26 (.tmp 2) 1) (some (19, true)),
  .mk (some 21) (.load 3 (.tmp 20)) (some (19, true)),
  .mk (some 22) (.move (.tmp 1)) (some (19, true)),
  .mk (some 23) (.binOp .lss 3 (.tmp 21) (.tmp 22) 3) (some (19, true)),
  .mk (some 24) (.pick (.tmp 19) (.tmp 23) (.const (.bool false))) none,
  .mk (some 4) (.assign (.tmp 24)) none]
def c21 : PC := (.seq (.reg false r21_0) (.seq (.reg false r21_1) .ret))
theorem e21 {args : List PV} {h : Heap} {K : PV → Heap → Prop} (hl : args.length = 2) (s : pwp Try.prog [] c21 (fin Try.prog [.tmp 4] h K) (slots0 (olds args)) h) : CanP Try.prog 21 args h K :=
  can_of2 (n := 25) mixed Try.func21 rfl (by kernel_rfl) (by rw [hl]; kernel_rfl) rfl (by kernel_rfl) s
/-! ### naskh.join.there: function 43 -/
def r43_0 : List PS := [.mk (some 4) (.assign (.const (.bool false))) none]
def r43_1 : List PS := [.mk (some 5) (.move (.tmp 1)) none,
  .mk (some 6) (.binOp .geq 3 (.tmp 5) (.const (.int .i64 0)) 3) none,
  .mk (some 7) (.move (.tmp 6)) none,
  .mk (some 8) (.move (.tmp 1)) (some (7, true)),
  .mk (some 9) (.move (.tmp 0)) (some (7, true)),
  .mk (some 10) (.call ⟨(.builtin .len), #[(.tmp 9)], #[22]⟩) (some (7, true)),
  .mk (some 11) (.binOp .lss 3 (.tmp 8) (.tmp 10) 3) (some (7, true)),
  .mk (some 12) (.pick (.tmp 7) (.tmp 11) (.const (.bool false))) none,
  .mk (some 4) (.assign (.tmp 12)) none]
def c43 : PC := (.seq (.reg false r43_0) (.seq (.reg false r43_1) .ret))
theorem e43 {args : List PV} {h : Heap} {K : PV → Heap → Prop} (hl : args.length = 2) (s : pwp Try.prog [] c43 (fin Try.prog [.tmp 4] h K) (slots0 (olds args)) h) : CanP Try.prog 43 args h K :=
  can_of2 (n := 13) mixed Try.func43 rfl (by kernel_rfl) (by rw [hl]; kernel_rfl) rfl (by kernel_rfl) s
/-! ### naskh.join.walk: function 32 -/
def r32_0 : List PS := [.mk (some 6) (.assign (.const (.int .i64 0))) none]
def r32_1 : List PS := [.mk (some 7) (.move (.tmp 0)) none,
  .mk (some 8) (.move (.tmp 1)) none,
  .mk (some 9) (.call ⟨(.value (.func 43)), #[(.tmp 7), (.tmp 8)], #[22, 3]⟩) none,
  .mk (some 10) (.unOp .not 4 (.tmp 9)) none]
def r32_2 : List PS := [.mk (some 6) (.assign (.const (.int .i64 (-1)))) none]
def r32_3 : List PS := [.mk (some 11) (.move (.tmp 1)) none,
  .mk (some 12) (.move (.tmp 2)) none,
  .mk (some 13) (.binOp .add 3 (.tmp 11) (.tmp 12) 3) none,
  .mk (some 1) (.assign (.tmp 13)) none]
def r32_4 : List PS := [.mk (some 14) (.move (.tmp 0)) none,
  .mk (some 15) (.move (.tmp 1)) none,
  .mk (some 16) (.call ⟨(.value (.func 43)), #[(.tmp 14), (.tmp 15)], #[22, 3]⟩) none]
def r32_5 : List PS := [.mk (some 20) (.move (.tmp 0)) none,
  .mk (some 21) (.move (.tmp 1)) none,
  .mk (some 22) (.indexAddr 22 (.tmp 20) (.tmp 21)) none,
  .mk (some 23) (.load 3 (.tmp 22)) none,
  .mk (some 24) (.binOp .neq 3 (.tmp 23) (.const (.int .i64 1)) 3) none]
def r32_6 : List PS := [.mk (some 25) (.move (.tmp 1)) none,
  .mk (some 6) (.assign (.tmp 25)) none]
def r32_7 : List PS := [.mk (some 17) (.move (.tmp 1)) none,
  .mk (some 18) (.move (.tmp 2)) none,
  .mk (some 19) (.binOp .add 3 (.tmp 17) (.tmp 18) 3) none,
  .mk (some 1) (.assign (.tmp 19)) none]
def r32_8 : List PS := [.mk (some 6) (.assign (.const (.int .i64 (-1)))) none]
def c32 : PC := (.seq (.reg false r32_0) (.seq (.seq (.reg false r32_1) (.cond (.tmp 10) (.seq (.reg false r32_2) .ret) .skip)) (.seq (.seq (.reg false r32_3) (.block 0 (.loop (.seq (.seq (.reg false r32_4) (.cond (.tmp 16) .skip (.exit 0))) (.seq (.block 1 (.seq (.reg false r32_5) (.cond (.tmp 24) (.seq (.reg false r32_6) .ret) .skip))) (.reg false r32_7)))))) (.seq (.reg false r32_8) .ret))))
theorem e32 {args : List PV} {h : Heap} {K : PV → Heap → Prop} (hl : args.length = 3) (s : pwp Try.prog [] c32 (fin Try.prog [.tmp 6] h K) (slots0 (olds args)) h) : CanP Try.prog 32 args h K :=
  can_of2 (n := 26) mixed Try.func32 rfl (by kernel_rfl) (by rw [hl]; kernel_rfl) rfl (by kernel_rfl) s
/-! ### naskh.join.Behind: function 18 -/
def r18_0 : List PS := [.mk (some 4) (.assign (.const (.int .i64 0))) none]
def r18_1 : List PS := [.mk (some 5) (.move (.tmp 0)) none,
  .mk (some 6) (.move (.tmp 1)) none,
  .mk (some 7) (.call ⟨(.value (.func 32)), #[(.tmp 5), (.tmp 6), (.const (.int .i64 1))], #[22, 3, 3]⟩) none,
  .mk (some 4) (.assign (.tmp 7)) none]
def c18 : PC := (.seq (.reg false r18_0) (.seq (.reg false r18_1) .ret))
theorem e18 {args : List PV} {h : Heap} {K : PV → Heap → Prop} (hl : args.length = 2) (s : pwp Try.prog [] c18 (fin Try.prog [.tmp 4] h K) (slots0 (olds args)) h) : CanP Try.prog 18 args h K :=
  can_of2 (n := 8) mixed Try.func18 rfl (by kernel_rfl) (by rw [hl]; kernel_rfl) rfl (by kernel_rfl) s
/-! ### naskh.join.behind: function 44 -/
def r44_0 : List PS := [.mk (some 2) (.assign (.const (.bool false))) none]
def r44_1 : List PS := [.mk (some 3) (.move (.tmp 0)) none]
def r44_2 : List PS := [.mk (some 5) (.binOp .eql 3 (.tmp 3) (.const (.int .i64 3)) 3) none,
  .mk (some 4) (.assign (.tmp 5)) none]
def r44_3 : List PS := [.mk (some 6) (.binOp .eql 3 (.tmp 3) (.const (.int .i64 4)) 3) none,
  .mk (some 4) (.assign (.tmp 6)) none]
def r44_4 : List PS := [.mk (some 7) (.binOp .eql 3 (.tmp 3) (.const (.int .i64 5)) 3) none,
  .mk (some 4) (.assign (.tmp 7)) none]
def r44_5 : List PS := [.mk (some 2) (.assign (.const (.bool true))) none]
def r44_6 : List PS := [.mk (some 2) (.assign (.const (.bool false))) none]
def c44 : PC := (.seq (.reg false r44_0) (.seq (.seq (.reg false r44_1) (.block 0 (.seq (.seq (.reg false r44_2) (.cond (.tmp 4) .skip (.seq (.reg false r44_3) (.cond (.tmp 4) .skip (.reg false r44_4))))) (.cond (.tmp 4) (.seq (.reg false r44_5) .ret) .skip)))) (.seq (.reg false r44_6) .ret)))
theorem e44 {args : List PV} {h : Heap} {K : PV → Heap → Prop} (hl : args.length = 1) (s : pwp Try.prog [] c44 (fin Try.prog [.tmp 2] h K) (slots0 (olds args)) h) : CanP Try.prog 44 args h K :=
  can_of2 (n := 8) mixed Try.func44 rfl (by kernel_rfl) (by rw [hl]; kernel_rfl) rfl (by kernel_rfl) s
/-! ### naskh.join.ahead: function 45 -/
def r45_0 : List PS := [.mk (some 2) (.assign (.const (.bool false))) none]
def r45_1 : List PS := [.mk (some 3) (.move (.tmp 0)) none]
def r45_2 : List PS := [.mk (some 5) (.binOp .eql 3 (.tmp 3) (.const (.int .i64 3)) 3) none,
  .mk (some 4) (.assign (.tmp 5)) none]
def r45_3 : List PS := [.mk (some 6) (.binOp .eql 3 (.tmp 3) (.const (.int .i64 2)) 3) none,
  .mk (some 4) (.assign (.tmp 6)) none]
def r45_4 : List PS := [.mk (some 7) (.binOp .eql 3 (.tmp 3) (.const (.int .i64 5)) 3) none,
  .mk (some 4) (.assign (.tmp 7)) none]
def r45_5 : List PS := [.mk (some 2) (.assign (.const (.bool true))) none]
def r45_6 : List PS := [.mk (some 2) (.assign (.const (.bool false))) none]
def c45 : PC := (.seq (.reg false r45_0) (.seq (.seq (.reg false r45_1) (.block 0 (.seq (.seq (.reg false r45_2) (.cond (.tmp 4) .skip (.seq (.reg false r45_3) (.cond (.tmp 4) .skip (.reg false r45_4))))) (.cond (.tmp 4) (.seq (.reg false r45_5) .ret) .skip)))) (.seq (.reg false r45_6) .ret)))
theorem e45 {args : List PV} {h : Heap} {K : PV → Heap → Prop} (hl : args.length = 1) (s : pwp Try.prog [] c45 (fin Try.prog [.tmp 2] h K) (slots0 (olds args)) h) : CanP Try.prog 45 args h K :=
  can_of2 (n := 8) mixed Try.func45 rfl (by kernel_rfl) (by rw [hl]; kernel_rfl) rfl (by kernel_rfl) s
/-! ### naskh.join.Joined: function 35 -/
def r35_0 : List PS := [.mk (some 4) (.assign (.const (.bool false))) none]
def r35_1 : List PS := [.mk (some 6) (.move (.tmp 0)) none,
  .mk (some 7) (.move (.tmp 1)) none,
  .mk (some 8) (.call ⟨(.value (.func 18)), #[(.tmp 6), (.tmp 7)], #[22, 3]⟩) none,
  .mk (some 5) (.assign (.tmp 8)) none]
def r35_2 : List PS := [.mk (some 9) (.move (.tmp 5)) none,
  .mk (some 10) (.binOp .geq 3 (.tmp 9) (.const (.int .i64 0)) 3) none,
  .mk (some 11) (.move (.tmp 10)) none,
  .mk (some 12) (.move (.tmp 0)) (some (11, true)),
  .mk (some 13) (.move (.tmp 1)) (some (11, true)),
  .mk (some 14) (.indexAddr 22 (.tmp 12) (.tmp 13)) (some (11, true)),
  .mk (some 15) (.load 3 (.tmp 14)) (some (11, true)),
  .mk (some 16) (.call ⟨(.value (.func 44)), #[(.tmp 15)], #[3]⟩) (some (11, true)),
  .mk (some 17) (.pick (.tmp 11) (.tmp 16) (.const (.bool false))) none,
  .mk (some 18) (.move (.tmp 17)) none,
  .mk (some 19) (.move (.tmp 0)) (some (18, true)),
  .mk (some 20) (.move (.tmp 5)) (some (18, true)),
  .mk (some 21) (.indexAddr 22 (.tmp 19) (.tmp 20)) (some (18, true)),
  .mk (some 22) (.load 3 (.tmp 21)) (some (18, true)),
  .mk (some 23) (.call ⟨(.value (.func 45)), #[(.tmp 22)], #[3]⟩) (some (18, true)),
  .mk (some 24) (.pick (.tmp 18) (.tmp 23) (.const (.bool false))) none,
  .mk (some 4) (.assign (.tmp 24)) none]
def c35 : PC := (.seq (.reg false r35_0) (.seq (.reg false r35_1) (.seq (.reg false r35_2) .ret)))
theorem e35 {args : List PV} {h : Heap} {K : PV → Heap → Prop} (hl : args.length = 2) (s : pwp Try.prog [] c35 (fin Try.prog [.tmp 4] h K) (slots0 (olds args)) h) : CanP Try.prog 35 args h K :=
  can_of2 (n := 25) mixed Try.func35 rfl (by kernel_rfl) (by rw [hl]; kernel_rfl) rfl (by kernel_rfl) s
/-! ### naskh.join.Ahead: function 36 -/
def r36_0 : List PS := [.mk (some 4) (.assign (.const (.int .i64 0))) none]
def r36_1 : List PS := [.mk (some 5) (.move (.tmp 0)) none,
  .mk (some 6) (.move (.tmp 1)) none,
  .mk (some 7) (.call ⟨(.value (.func 32)), #[(.tmp 5), (.tmp 6), (.const (.int .i64 (-1)))], #[22, 3, 3]⟩) none,
  .mk (some 4) (.assign (.tmp 7)) none]
def c36 : PC := (.seq (.reg false r36_0) (.seq (.reg false r36_1) .ret))
theorem e36 {args : List PV} {h : Heap} {K : PV → Heap → Prop} (hl : args.length = 2) (s : pwp Try.prog [] c36 (fin Try.prog [.tmp 4] h K) (slots0 (olds args)) h) : CanP Try.prog 36 args h K :=
  can_of2 (n := 8) mixed Try.func36 rfl (by kernel_rfl) (by rw [hl]; kernel_rfl) rfl (by kernel_rfl) s
/-! ### naskh.lamalef.formOf: function 22 -/
def r22_0 : List PS := [.mk (some 4) (.assign (.const (.int .i64 0))) none]
def r22_1 : List PS := [.mk (some 5) (.move (.tmp 0)) none,
  .mk (some 6) (.move (.tmp 0)) none,
  .mk (some 7) (.move (.tmp 1)) none,
  .mk (some 8) (.call ⟨(.value (.func 36)), #[(.tmp 6), (.tmp 7)], #[22, 3]⟩) none,
  .mk (some 9) (.call ⟨(.value (.func 35)), #[(.tmp 5), (.tmp 8)], #[22, 3]⟩) none]
def r22_2 : List PS := [.mk (some 4) (.assign (.const (.int .i64 2))) none]
def r22_3 : List PS := [.mk (some 4) (.assign (.const (.int .i64 1))) none]
def c22 : PC := (.seq (.reg false r22_0) (.seq (.seq (.reg false r22_1) (.cond (.tmp 9) (.seq (.reg false r22_2) .ret) .skip)) (.seq (.reg false r22_3) .ret)))
theorem e22 {args : List PV} {h : Heap} {K : PV → Heap → Prop} (hl : args.length = 2) (s : pwp Try.prog [] c22 (fin Try.prog [.tmp 4] h K) (slots0 (olds args)) h) : CanP Try.prog 22 args h K :=
  can_of2 (n := 10) mixed Try.func22 rfl (by kernel_rfl) (by rw [hl]; kernel_rfl) rfl (by kernel_rfl) s
/-! ### naskh.lamalef.Codes: function 10 -/
def r10_0 : List PS := [.mk (some 6) (.assign (.const (.slice none 0 0))) none]
def r10_1 : List PS := [.mk (some 10) (.move (.tmp 2)) none,
  .mk (some 11) (.call ⟨(.builtin .len), #[(.tmp 10)], #[23]⟩) none,
  .mk (some 12) (.makeSlice 22 (.tmp 11) (.tmp 11)) none,
  .mk (some 7) (.assign (.tmp 12)) none]
def r10_2 : List PS := [.mk (some 13) (.move (.tmp 2)) none,
  .mk (some 14) (.call ⟨(.builtin .len), #[(.tmp 13)], #[23]⟩) none,
  .mk (some 15) (.move (.const (.int .i64 0))) none]
def r10_3 : List PS := [.mk (some 16) (.binOp .lss 3 (.tmp 15) (.tmp 14) 3) none]
def r10_4 : List PS := [.mk (some 17) (.move (.tmp 15)) none,
  .mk (some 18) (.indexAddr 23 (.tmp 13) (.tmp 15)) none,
  .mk (some 19) (.load 26 (.tmp 18)) none,
  .mk (some 9) (.alloc 26) none,
  .mk (some 8) (.assign (.tmp 17)) none,
  .mk none (.store 26 (.tmp 9) (.tmp 19)) none]
def r10_5 : List PS := [.mk (some 20) (.load 26 (.tmp 9)) none,
  .mk (some 21) (.move (.tmp 0)) none,
  .mk (some 22) (.call ⟨(.builtin .len), #[(.tmp 21)], #[22]⟩) none,
  .mk (some 23) (.call ⟨(.value (.func 21)), #[(.tmp 20), (.tmp 22)], #[26, 3]⟩) none]
def r10_6 : List PS := [.mk (some 25) (.move (.tmp 7)) none,
  .mk (some 26) (.move (.tmp 8)) none,
  .mk (some 27) (.move (.tmp 0)) none,
  .mk (some 28) (.fieldAddr 26 (.tmp 9) 1) none,
  .mk (some 29) (.load 3 (.tmp 28)) none,
  .mk (some 30) (.indexAddr 22 (.tmp 27) (.tmp 29)) none,
  .mk (some 31) (.load 3 (.tmp 30)) none,
  .mk (some 32) (.move (.tmp 1)) none,
  .mk (some 33) (.fieldAddr 26 (.tmp 9) 0) none,
  .mk (some 34) (.load 3 (.tmp 33)) none,
  .mk (some 35) (.call ⟨(.value (.func 22)), #[(.tmp 32), (.tmp 34)], #[22, 3]⟩) none,
  .mk (some 36) (.call ⟨(.value (.func 19)), #[(.tmp 31), (.tmp 35)], #[3, 3]⟩) none,
  .mk (some 24) (.move (.tmp 36)) none,
  .mk (some 37) (.extract (.tmp 24) 0) none,
  .mk (some 38) (.extract (.tmp 24) 1) none,
  .mk (some 39) (.indexAddr 22 (.tmp 25) (.tmp 26)) none,
  .mk none (.store 3 (.tmp 39) (.tmp 37)) none]
def r10_7 : List PS := [.mk (some 40) (.binOp .add 3 (.tmp 15) (.const (.int .i64 1)) 3) none,
  .mk (some 15) (.move (.tmp 40)) none]
def r10_8 : List PS := [.mk (some 41) (.move (.tmp 7)) none,
  .mk (some 6) (.assign (.tmp 41)) none]
def c10 : PC := (.seq (.reg false r10_0) (.seq (.reg false r10_1) (.seq (.seq (.reg false r10_2) (.block 0 (.loop (.seq (.reg false r10_3) (.seq (.cond (.tmp 16) .skip (.exit 0)) (.seq (.block 1 (.seq (.reg false r10_4) (.seq (.reg false r10_5) (.cond (.tmp 23) (.reg true r10_6) .skip)))) (.reg false r10_7))))))) (.seq (.reg false r10_8) .ret))))
theorem e10 {args : List PV} {h : Heap} {K : PV → Heap → Prop} (hl : args.length = 3) (s : pwp Try.prog [9] c10 (fin Try.prog [.tmp 6] h K) (slots0 (olds args)) h) : CanP Try.prog 10 args h K :=
  can_of2 (n := 42) mixed Try.func10 rfl (by kernel_rfl) (by rw [hl]; kernel_rfl) rfl (by kernel_rfl) s
/-! ### slices.Equal[[]naskh.api.Pair,naskh.api.Pair]: function 13 -/
def r13_0 : List PS := [.mk (some 4) (.assign (.const (.bool false))) none]
def r13_1 : List PS := [.mk (some 6) (.move (.tmp 0)) none,
  .mk (some 7) (.call ⟨(.builtin .len), #[(.tmp 6)], #[23]⟩) none,
  .mk (some 8) (.move (.tmp 1)) none,
  .mk (some 9) (.call ⟨(.builtin .len), #[(.tmp 8)], #[23]⟩) none,
  .mk (some 10) (.binOp .neq 3 (.tmp 7) (.tmp 9) 3) none]
def r13_2 : List PS := [.mk (some 4) (.assign (.const (.bool false))) none]
def r13_3 : List PS := [.mk (some 11) (.move (.tmp 0)) none,
  .mk (some 12) (.call ⟨(.builtin .len), #[(.tmp 11)], #[23]⟩) none,
  .mk (some 13) (.move (.const (.int .i64 0))) none]
def r13_4 : List PS := [.mk (some 14) (.binOp .lss 3 (.tmp 13) (.tmp 12) 3) none]
def r13_5 : List PS := [.mk (some 15) (.move (.tmp 13)) none,
  .mk (some 5) (.assign (.tmp 15)) none]
def r13_6 : List PS := [.mk (some 16) (.move (.tmp 0)) none,
  .mk (some 17) (.move (.tmp 5)) none,
  .mk (some 18) (.indexAddr 23 (.tmp 16) (.tmp 17)) none,
  .mk (some 19) (.load 26 (.tmp 18)) none,
  .mk (some 20) (.move (.tmp 1)) none,
  .mk (some 21) (.move (.tmp 5)) none,
  .mk (some 22) (.indexAddr 23 (.tmp 20) (.tmp 21)) none,
  .mk (some 23) (.load 26 (.tmp 22)) none,
  .mk (some 24) (.binOp .neq 26 (.tmp 19) (.tmp 23) 26) none]
def r13_7 : List PS := [.mk (some 4) (.assign (.const (.bool false))) none]
def r13_8 : List PS := [.mk (some 25) (.binOp .add 3 (.tmp 13) (.const (.int .i64 1)) 3) none,
  .mk (some 13) (.move (.tmp 25)) none]
def r13_9 : List PS := [.mk (some 4) (.assign (.const (.bool true))) none]
def c13 : PC := (.seq (.reg false r13_0) (.seq (.seq (.reg false r13_1) (.cond (.tmp 10) (.seq (.reg false r13_2) .ret) .skip)) (.seq (.seq (.reg false r13_3) (.block 0 (.loop (.seq (.reg false r13_4) (.seq (.cond (.tmp 14) .skip (.exit 0)) (.seq (.block 1 (.seq (.reg false r13_5) (.seq (.reg true r13_6) (.cond (.tmp 24) (.seq (.reg false r13_7) .ret) .skip)))) (.reg false r13_8))))))) (.seq (.reg false r13_9) .ret))))
theorem e13 {args : List PV} {h : Heap} {K : PV → Heap → Prop} (hl : args.length = 2) (s : pwp Try.prog [] c13 (fin Try.prog [.tmp 4] h K) (slots0 (olds args)) h) : CanP Try.prog 13 args h K :=
  can_of2 (n := 26) mixed Try.func13 rfl (by kernel_rfl) (by rw [hl]; kernel_rfl) rfl (by kernel_rfl) s
/-! ### naskh.lamalef.Find: function 14 -/
def r14_0 : List PS := [.mk (some 6) (.assign (.const (.slice none 0 0))) none]
def r14_1 : List PS := [.mk (some 12) (.move (.tmp 0)) none,
  .mk (some 13) (.call ⟨(.builtin .len), #[(.tmp 12)], #[22]⟩) none,
  .mk (some 14) (.move (.tmp 1)) none,
  .mk (some 15) (.call ⟨(.builtin .len), #[(.tmp 14)], #[22]⟩) none,
  .mk (some 16) (.binOp .neq 3 (.tmp 13) (.tmp 15) 3) none]
def r14_2 : List PS := [.mk (some 6) (.assign (.const (.slice none 0 0))) none]
def r14_3 : List PS := [.mk (some 7) (.assign (.const (.slice none 0 0))) none]
def r14_4 : List PS := [.mk (some 17) (.move (.tmp 0)) none,
  .mk (some 18) (.call ⟨(.builtin .len), #[(.tmp 17)], #[22]⟩) none,
  .mk (some 19) (.move (.const (.int .i64 0))) none]
def r14_5 : List PS := [.mk (some 20) (.binOp .lss 3 (.tmp 19) (.tmp 18) 3) none]
def r14_6 : List PS := [.mk (some 21) (.move (.tmp 19)) none,
  .mk (some 22) (.indexAddr 22 (.tmp 17) (.tmp 19)) none,
  .mk (some 23) (.load 3 (.tmp 22)) none,
  .mk (some 8) (.assign (.tmp 21)) none,
  .mk (some 9) (.assign (.tmp 23)) none]
def r14_7 : List PS := [.mk (some 24) (.move (.tmp 9)) none,
  .mk (some 25) (.binOp .neq 3 (.tmp 24) (.const (.int .i64 1604)) 3) none]
def r14_8 : List PS := [.mk (some 26) (.move (.tmp 1)) none,
  .mk (some 27) (.move (.tmp 8)) none,
  .mk (some 28) (.call ⟨(.value (.func 18)), #[(.tmp 26), (.tmp 27)], #[22, 3]⟩) none,
  .mk (some 10) (.assign (.tmp 28)) none]
def r14_9 : List PS := [.mk (some 29) (.move (.tmp 10)) none,
  .mk (some 30) (.move (.tmp 8)) none,
  .mk (some 31) (.binOp .add 3 (.tmp 30) (.const (.int .i64 1)) 3) none,
  .mk (some 32) (.binOp .eql 3 (.tmp 29) (.tmp 31) 3) none,
  .mk (some 11) (.assign (.tmp 32)) none]
def r14_10 : List PS := [.mk (some 33) (.move (.tmp 10)) none,
  .mk (some 34) (.binOp .geq 3 (.tmp 33) (.const (.int .i64 0)) 3) none,
  .mk (some 35) (.move (.tmp 34)) none,
  .mk (some 36) (.move (.tmp 0)) (some (35, true)),
  .mk (some 37) (.move (.tmp 10)) (some (35, true)),
  .mk (some 38) (.indexAddr 22 (.tmp 36) (.tmp 37)) (some (35, true)),
  .mk (some 39) (.load 3 (.tmp 38)) (some (35, true)),
  .mk (some 40) (.call ⟨(.value (.func 7)), #[(.tmp 39)], #[3]⟩) (some (35, true)),
  .mk (some 41) (.pick (.tmp 35) (.tmp 40) (.const (.bool false))) none,
  .mk (some 42) (.move (.tmp 41)) none,
  .mk (some 43) (.move (.tmp 11)) (some (42, true)),
  .mk (some 44) (.move (.tmp 43)) (some (42, true)),
  .mk (some 45) (.move (.tmp 2)) (some (44, false)),
  .mk (some 46) (.pick (.tmp 44) (.const (.bool true)) (.tmp 45)) (some (42, true)),
  .mk (some 47) (.pick (.tmp 42) (.tmp 46) (.const (.bool false))) none]
def r14_11 : List PS := [.mk (some 48) (.move (.tmp 7)) none,
  .mk (some 49) (.move (.tmp 8)) none,
  .mk (some 50) (.move (.tmp 10)) none,
  .mk (some 51) (.build 26 #[(0, (.tmp 49)), (1, (.tmp 50))]) none,
  .mk (some 52) (.buildSlice 23 1 #[(0, (.tmp 51))]) none,
  .mk (some 53) (.call ⟨(.builtin .append), #[(.tmp 48), (.tmp 52)], #[23, 23]⟩) none,
  .mk (some 7) (.assign (.tmp 53)) none]
def r14_12 : List PS := [.mk (some 54) (.binOp .add 3 (.tmp 19) (.const (.int .i64 1)) 3) none,
  .mk (some 19) (.move (.tmp 54)) none]
def r14_13 : List PS := [.mk (some 55) (.move (.tmp 7)) none,
  .mk (some 6) (.assign (.tmp 55)) none]
def c14 : PC := (.seq (.reg false r14_0) (.seq (.seq (.reg false r14_1) (.cond (.tmp 16) (.seq (.reg false r14_2) .ret) .skip)) (.seq (.reg false r14_3) (.seq (.seq (.reg false r14_4) (.block 0 (.loop (.seq (.reg false r14_5) (.seq (.cond (.tmp 20) .skip (.exit 0)) (.seq (.block 1 (.seq (.reg false r14_6) (.seq (.seq (.reg false r14_7) (.cond (.tmp 25) (.exit 1) .skip)) (.seq (.reg false r14_8) (.seq (.reg false r14_9) (.seq (.reg false r14_10) (.cond (.tmp 47) (.reg false r14_11) .skip))))))) (.reg false r14_12))))))) (.seq (.reg false r14_13) .ret)))))
theorem e14 {args : List PV} {h : Heap} {K : PV → Heap → Prop} (hl : args.length = 3) (s : pwp Try.prog [] c14 (fin Try.prog [.tmp 6] h K) (slots0 (olds args)) h) : CanP Try.prog 14 args h K :=
  can_of2 (n := 56) mixed Try.func14 rfl (by kernel_rfl) (by rw [hl]; kernel_rfl) rfl (by kernel_rfl) s
/-! ### naskh.naskhlaw14.awake: function 6 -/
def r6_0 : List PS := [.mk (some 0) (.assign (.const (.bool false))) none]
def r6_1 : List PS := [.mk (some 4) (.buildSlice 22 3 #[(0, (.const (.int .i64 1576))), (1, (.const (.int .i64 1604))), (2, (.const (.int .i64 1575)))]) none,
  .mk (some 1) (.assign (.tmp 4)) none]
def r6_2 : List PS := [.mk (some 5) (.buildSlice 22 3 #[(0, (.const (.int .i64 3))), (1, (.const (.int .i64 3))), (2, (.const (.int .i64 2)))]) none,
  .mk (some 2) (.assign (.tmp 5)) none]
def r6_3 : List PS := [.mk (some 6) (.move (.tmp 1)) none,
  .mk (some 7) (.move (.tmp 2)) none,
  .mk (some 8) (.call ⟨(.value (.func 14)), #[(.tmp 6), (.tmp 7), (.const (.bool false))], #[22, 22, 4]⟩) none,
  .mk (some 3) (.assign (.tmp 8)) none]
def r6_4 : List PS := [.mk (some 9) (.move (.tmp 3)) none,
  .mk (some 10) (.build 26 #[(0, (.const (.int .i64 1))), (1, (.const (.int .i64 2)))]) none,
  .mk (some 11) (.buildSlice 23 1 #[(0, (.tmp 10))]) none,
  .mk (some 12) (.call ⟨(.value (.func 13)), #[(.tmp 9), (.tmp 11)], #[23, 23]⟩) none,
  .mk (some 13) (.move (.tmp 12)) none,
  .mk (some 14) (.move (.tmp 1)) (some (13, true)),
  .mk (some 15) (.move (.tmp 2)) (some (13, true)),
  .mk (some 16) (.move (.tmp 3)) (some (13, true)),
  .mk (some 17) (.call ⟨(.value (.func 10)), #[(.tmp 14), (.tmp 15), (.tmp 16)], #[22, 22, 23]⟩) (some (13, true)),
  .mk (some 18) (.buildSlice 22 1 #[(0, (.const (.int .i64 65276)))]) (some (13, true)),
  .mk (some 19) (.call ⟨(.value (.func 9)), #[(.tmp 17), (.tmp 18)], #[22, 22]⟩) (some (13, true)),
  .mk (some 20) (.pick (.tmp 13) (.tmp 19) (.const (.bool false))) none,
  .mk (some 21) (.move (.tmp 20)) none,
  .mk (some 22) (.call ⟨(.value (.func 7)), #[(.const (.int .i64 1570))], #[3]⟩) (some (21, true)),
  .mk (some 23) (.pick (.tmp 21) (.tmp 22) (.const (.bool false))) none,
  .mk (some 0) (.assign (.tmp 23)) none]
def c6 : PC := (.seq (.reg false r6_0) (.seq (.reg false r6_1) (.seq (.reg false r6_2) (.seq (.reg false r6_3) (.seq (.reg false r6_4) .ret)))))
theorem e6 {args : List PV} {h : Heap} {K : PV → Heap → Prop} (hl : args.length = 0) (s : pwp Try.prog [] c6 (fin Try.prog [.tmp 0] h K) (slots0 (olds args)) h) : CanP Try.prog 6 args h K :=
  can_of2 (n := 24) mixed Try.func6 rfl (by kernel_rfl) (by rw [hl]; kernel_rfl) rfl (by kernel_rfl) s
/-! ### naskh.naskhref09.Ligate: function 20 -/
def r20_0 : List PS := [.mk (some 4) (.assign (.const (.int .i64 0))) none,
  .mk (some 5) (.assign (.const (.bool false))) none]
def r20_1 : List PS := [.mk (some 8) (.call ⟨(.value (.func 34)), #[], #[]⟩) none,
  .mk (some 6) (.assign (.tmp 8)) none]
def r20_2 : List PS := [.mk (some 7) (.assign (.const (.int .i64 0))) none]
def r20_3 : List PS := [.mk (some 9) (.move (.tmp 7)) none,
  .mk (some 10) (.move (.tmp 6)) none,
  .mk (some 11) (.call ⟨(.builtin .len), #[(.tmp 10)], #[61]⟩) none,
  .mk (some 12) (.binOp .lss 3 (.tmp 9) (.tmp 11) 3) none]
def r20_4 : List PS := [.mk (some 15) (.move (.tmp 6)) none,
  .mk (some 16) (.move (.tmp 7)) none,
  .mk (some 17) (.indexAddr 61 (.tmp 15) (.tmp 16)) none,
  .mk (some 18) (.fieldAddr 58 (.tmp 17) 0) none,
  .mk (some 19) (.load 3 (.tmp 18)) none,
  .mk (some 20) (.move (.tmp 0)) none,
  .mk (some 21) (.binOp .eql 3 (.tmp 19) (.tmp 20) 3) none,
  .mk (some 22) (.move (.tmp 21)) none,
  .mk (some 23) (.move (.tmp 1)) (some (22, true)),
  .mk (some 24) (.binOp .eql 3 (.tmp 23) (.const (.int .i64 1)) 3) (some (22, true)),
  .mk (some 25) (.pick (.tmp 22) (.tmp 24) (.const (.bool false))) none]
def r20_5 : List PS := [.mk (some 26) (.move (.tmp 6)) none,
  .mk (some 27) (.move (.tmp 7)) none,
  .mk (some 28) (.indexAddr 61 (.tmp 26) (.tmp 27)) none,
  .mk (some 29) (.fieldAddr 58 (.tmp 28) 1) none,
  .mk (some 30) (.load 3 (.tmp 29)) none,
  .mk (some 4) (.assign (.tmp 30)) none,
  .mk (some 5) (.assign (.const (.bool true))) none]
def r20_6 : List PS := [.mk (some 31) (.move (.tmp 6)) none,
  .mk (some 32) (.move (.tmp 7)) none,
  .mk (some 33) (.indexAddr 61 (.tmp 31) (.tmp 32)) none,
  .mk (some 34) (.fieldAddr 58 (.tmp 33) 0) none,
  .mk (some 35) (.load 3 (.tmp 34)) none,
  .mk (some 36) (.move (.tmp 0)) none,
  .mk (some 37) (.binOp .eql 3 (.tmp 35) (.tmp 36) 3) none,
  .mk (some 38) (.move (.tmp 37)) none,
  .mk (some 39) (.move (.tmp 1)) (some (38, true)),
  .mk (some 40) (.binOp .eql 3 (.tmp 39) (.const (.int .i64 2)) 3) (some (38, true)),
  .mk (some 41) (.pick (.tmp 38) (.tmp 40) (.const (.bool false))) none]
def r20_7 : List PS := [.mk (some 42) (.move (.tmp 6)) none,
  .mk (some 43) (.move (.tmp 7)) none,
  .mk (some 44) (.indexAddr 61 (.tmp 42) (.tmp 43)) none,
  .mk (some 45) (.fieldAddr 58 (.tmp 44) 2) none,
  .mk (some 46) (.load 3 (.tmp 45)) none,
  .mk (some 4) (.assign (.tmp 46)) none,
  .mk (some 5) (.assign (.const (.bool true))) none]
def r20_8 : List PS := [.mk (some 13) (.move (.tmp 7)) none,
  .mk (some 14) (.binOp .add 3 (.tmp 13) (.const (.int .i64 1)) 3) none,
  .mk (some 7) (.assign (.tmp 14)) none]
def r20_9 : List PS := [.mk (some 4) (.assign (.const (.int .i64 0))) none,
  .mk (some 5) (.assign (.const (.bool false))) none]
def c20 : PC := (.seq (.reg false r20_0) (.seq (.reg false r20_1) (.seq (.seq (.reg false r20_2) (.block 0 (.loop (.seq (.seq (.reg false r20_3) (.cond (.tmp 12) .skip (.exit 0))) (.seq (.block 1 (.seq (.seq (.reg false r20_4) (.cond (.tmp 25) (.seq (.reg false r20_5) .ret) .skip)) (.seq (.reg false r20_6) (.cond (.tmp 41) (.seq (.reg false r20_7) .ret) .skip)))) (.reg false r20_8)))))) (.seq (.reg false r20_9) .ret))))
theorem e20 {args : List PV} {h : Heap} {K : PV → Heap → Prop} (hl : args.length = 2) (s : pwp Try.prog [] c20 (fin Try.prog [.tmp 4, .tmp 5] h K) (slots0 (olds args)) h) : CanP Try.prog 20 args h K :=
  can_of2 (n := 47) mixed Try.func20 rfl (by kernel_rfl) (by rw [hl]; kernel_rfl) rfl (by kernel_rfl) s
/-! ### naskh.naskhref14.Alef: function 8 -/
def r8_0 : List PS := [.mk (some 2) (.assign (.const (.bool false))) none]
def r8_1 : List PS := [.mk (some 6) (.move (.tmp 0)) none,
  .mk (some 7) (.call ⟨(.value (.func 20)), #[(.tmp 6), (.const (.int .i64 1))], #[3, 3]⟩) none,
  .mk (some 5) (.move (.tmp 7)) none,
  .mk (some 8) (.extract (.tmp 5) 0) none,
  .mk (some 9) (.extract (.tmp 5) 1) none,
  .mk (some 3) (.assign (.tmp 8)) none,
  .mk (some 4) (.assign (.tmp 9)) none]
def r8_2 : List PS := [.mk (some 10) (.move (.tmp 4)) none,
  .mk (some 2) (.assign (.tmp 10)) none]
def c8 : PC := (.seq (.reg false r8_0) (.seq (.reg false r8_1) (.seq (.reg false r8_2) .ret)))
theorem e8 {args : List PV} {h : Heap} {K : PV → Heap → Prop} (hl : args.length = 1) (s : pwp Try.prog [] c8 (fin Try.prog [.tmp 2] h K) (slots0 (olds args)) h) : CanP Try.prog 8 args h K :=
  can_of2 (n := 11) mixed Try.func8 rfl (by kernel_rfl) (by rw [hl]; kernel_rfl) rfl (by kernel_rfl) s
/-! ### naskh.naskhref13.Behind: function 26 -/
def r26_0 : List PS := [.mk (some 4) (.assign (.const (.int .i64 0))) none]
def r26_1 : List PS := [.mk (some 6) (.move (.tmp 1)) none,
  .mk (some 7) (.binOp .lss 3 (.tmp 6) (.const (.int .i64 0)) 3) none,
  .mk (some 8) (.move (.tmp 7)) none,
  .mk (some 9) (.move (.tmp 1)) (some (8, false)),
  .mk (some 10) (.move (.tmp 0)) (some (8, false)),
  .mk (some 11) (.call ⟨(.builtin .len), #[(.tmp 10)], #[22]⟩) (some (8, false)),
  .mk (some 12) (.binOp .geq 3 (.tmp 9) (.tmp 11) 3) (some (8, false)),
  .mk (some 13) (.pick (.tmp 8) (.const (.bool true)) (.tmp 12)) none]
def r26_2 : List PS := [.mk (some 4) (.assign (.const (.int .i64 (-1)))) none]
def r26_3 : List PS := [.mk (some 14) (.move (.tmp 1)) none,
  .mk (some 15) (.binOp .add 3 (.tmp 14) (.const (.int .i64 1)) 3) none,
  .mk (some 5) (.assign (.tmp 15)) none]
def r26_4 : List PS := [.mk (some 16) (.move (.tmp 5)) none,
  .mk (some 17) (.move (.tmp 0)) none,
  .mk (some 18) (.call ⟨(.builtin .len), #[(.tmp 17)], #[22]⟩) none,
  .mk (some 19) (.binOp .lss 3 (.tmp 16) (.tmp 18) 3) none]
def r26_5 : List PS := [.mk (some 22) (.move (.tmp 0)) none,
  .mk (some 23) (.move (.tmp 5)) none,
  .mk (some 24) (.indexAddr 22 (.tmp 22) (.tmp 23)) none,
  .mk (some 25) (.load 3 (.tmp 24)) none,
  .mk (some 26) (.binOp .neq 3 (.tmp 25) (.const (.int .i64 1)) 3) none]
def r26_6 : List PS := [.mk (some 27) (.move (.tmp 5)) none,
  .mk (some 4) (.assign (.tmp 27)) none]
def r26_7 : List PS := [.mk (some 20) (.move (.tmp 5)) none,
  .mk (some 21) (.binOp .add 3 (.tmp 20) (.const (.int .i64 1)) 3) none,
  .mk (some 5) (.assign (.tmp 21)) none]
def r26_8 : List PS := [.mk (some 4) (.assign (.const (.int .i64 (-1)))) none]
def c26 : PC := (.seq (.reg false r26_0) (.seq (.seq (.reg false r26_1) (.cond (.tmp 13) (.seq (.reg false r26_2) .ret) .skip)) (.seq (.seq (.reg false r26_3) (.block 0 (.loop (.seq (.seq (.reg false r26_4) (.cond (.tmp 19) .skip (.exit 0))) (.seq (.block 1 (.seq (.reg false r26_5) (.cond (.tmp 26) (.seq (.reg false r26_6) .ret) .skip))) (.reg false r26_7)))))) (.seq (.reg false r26_8) .ret))))
theorem e26 {args : List PV} {h : Heap} {K : PV → Heap → Prop} (hl : args.length = 2) (s : pwp Try.prog [] c26 (fin Try.prog [.tmp 4] h K) (slots0 (olds args)) h) : CanP Try.prog 26 args h K :=
  can_of2 (n := 28) mixed Try.func26 rfl (by kernel_rfl) (by rw [hl]; kernel_rfl) rfl (by kernel_rfl) s
/-! ### naskh.naskhref13.Joined: function 23 -/
def r23_0 : List PS := [.mk (some 4) (.assign (.const (.bool false))) none]
def r23_1 : List PS := [.mk (some 8) (.move (.tmp 0)) none,
  .mk (some 9) (.move (.tmp 1)) none,
  .mk (some 10) (.call ⟨(.value (.func 26)), #[(.tmp 8), (.tmp 9)], #[22, 3]⟩) none,
  .mk (some 5) (.assign (.tmp 10)) none]
def r23_2 : List PS := [.mk (some 11) (.move (.tmp 5)) none,
  .mk (some 12) (.binOp .lss 3 (.tmp 11) (.const (.int .i64 0)) 3) none]
def r23_3 : List PS := [.mk (some 4) (.assign (.const (.bool false))) none]
def r23_4 : List PS := [.mk (some 13) (.move (.tmp 0)) none,
  .mk (some 14) (.move (.tmp 1)) none,
  .mk (some 15) (.indexAddr 22 (.tmp 13) (.tmp 14)) none,
  .mk (some 16) (.load 3 (.tmp 15)) none,
  .mk (some 17) (.move (.tmp 0)) none,
  .mk (some 18) (.move (.tmp 5)) none,
  .mk (some 19) (.indexAddr 22 (.tmp 17) (.tmp 18)) none,
  .mk (some 20) (.load 3 (.tmp 19)) none,
  .mk (some 6) (.assign (.tmp 16)) none,
  .mk (some 7) (.assign (.tmp 20)) none]
def r23_5 : List PS := [.mk (some 21) (.move (.tmp 6)) none,
  .mk (some 22) (.binOp .eql 3 (.tmp 21) (.const (.int .i64 3)) 3) none,
  .mk (some 23) (.move (.tmp 22)) none,
  .mk (some 24) (.move (.tmp 6)) (some (23, false)),
  .mk (some 25) (.binOp .eql 3 (.tmp 24) (.const (.int .i64 4)) 3) (some (23, false)),
  .mk (some 26) (.pick (.tmp 23) (.const (.bool true)) (.tmp 25)) none,
  .mk (some 27) (.move (.tmp 26)) none,
  .mk (some 28) (.move (.tmp 6)) (some (27, false)),
  .mk (some 29) (.binOp .eql 3 (.tmp 28) (.const (.int .i64 5)) 3) (some (27, false)),
  .mk (some 30) (.pick (.tmp 27) (.const (.bool true)) (.tmp 29)) none,
  .mk (some 31) (.move (.tmp 30)) none,
  .mk (some 32) (.move (.tmp 7)) (some (31, true)),
  .mk (some 33) (.binOp .eql 3 (.tmp 32) (.const (.int .i64 3)) 3) (some (31, true)),
  .mk (some 34) (.move (.tmp 33)) (some (31, true)),
  .mk (some 35) (.move (.tmp 7)) (some (34, false)),
  .mk (some 36) (.binOp .eql 3 (.tmp 35) (.const (.int .i64 2)) 3) (some (34, false)),
  .mk (some 37) (.pick (.tmp 34) (.const (.bool true)) (.tmp 36)) (some (31, true)),
  .mk (some 38) (.move (.tmp 37)) (some (31, true)),
  .mk (some 39) (.move (.tmp 7)) (some (38, false)),
  .mk (some 40) (.binOp .eql 3 (.tmp 39) (.const (.int .i64 5)) 3) (some (38, false)),
  .mk (some 41) (.pick (.tmp 38) (.const (.bool true)) (.tmp 40)) (some (31, true)),
  .mk (some 42) (.pick (.tmp 31) (.tmp 41) (.const (.bool false))) none,
  .mk (some 4) (.assign (.tmp 42)) none]
def c23 : PC := (.seq (.reg false r23_0) (.seq (.reg false r23_1) (.seq (.seq (.reg false r23_2) (.cond (.tmp 12) (.seq (.reg false r23_3) .ret) .skip)) (.seq (.reg true r23_4) (.seq (.reg false r23_5) .ret)))))
theorem e23 {args : List PV} {h : Heap} {K : PV → Heap → Prop} (hl : args.length = 2) (s : pwp Try.prog [] c23 (fin Try.prog [.tmp 4] h K) (slots0 (olds args)) h) : CanP Try.prog 23 args h K :=
  can_of2 (n := 43) mixed Try.func23 rfl (by kernel_rfl) (by rw [hl]; kernel_rfl) rfl (by kernel_rfl) s
/-! ### naskh.naskhref13.Ahead: function 24 -/
def r24_0 : List PS := [.mk (some 4) (.assign (.const (.int .i64 0))) none]
def r24_1 : List PS := [.mk (some 6) (.move (.tmp 1)) none,
  .mk (some 7) (.binOp .lss 3 (.tmp 6) (.const (.int .i64 0)) 3) none,
  .mk (some 8) (.move (.tmp 7)) none,
  .mk (some 9) (.move (.tmp 1)) (some (8, false)),
  .mk (some 10) (.move (.tmp 0)) (some (8, false)),
  .mk (some 11) (.call ⟨(.builtin .len), #[(.tmp 10)], #[22]⟩) (some (8, false)),
  .mk (some 12) (.binOp .geq 3 (.tmp 9) (.tmp 11) 3) (some (8, false)),
  .mk (some 13) (.pick (.tmp 8) (.const (.bool true)) (.tmp 12)) none]
def r24_2 : List PS := [.mk (some 4) (.assign (.const (.int .i64 (-1)))) none]
def r24_3 : List PS := [.mk (some 14) (.move (.tmp 1)) none,
  .mk (some 15) (.binOp .sub 3 (.tmp 14) (.const (.int .i64 1)) 3) none,
  .mk (some 5) (.assign (.tmp 15)) none]
def r24_4 : List PS := [.mk (some 16) (.move (.tmp 5)) none,
  .mk (some 17) (.binOp .geq 3 (.tmp 16) (.const (.int .i64 0)) 3) none]
def r24_5 : List PS := [.mk (some 20) (.move (.tmp 0)) none,
  .mk (some 21) (.move (.tmp 5)) none,
  .mk (some 22) (.indexAddr 22 (.tmp 20) (.tmp 21)) none,
  .mk (some 23) (.load 3 (.tmp 22)) none,
  .mk (some 24) (.binOp .neq 3 (.tmp 23) (.const (.int .i64 1)) 3) none]
def r24_6 : List PS := [.mk (some 25) (.move (.tmp 5)) none,
  .mk (some 4) (.assign (.tmp 25)) none]
def r24_7 : List PS := [.mk (some 18) (.move (.tmp 5)) none,
  .mk (some 19) (.binOp .sub 3 (.tmp 18) (.const (.int .i64 1)) 3) none,
  .mk (some 5) (.assign (.tmp 19)) none]
def r24_8 : List PS := [.mk (some 4) (.assign (.const (.int .i64 (-1)))) none]
def c24 : PC := (.seq (.reg false r24_0) (.seq (.seq (.reg false r24_1) (.cond (.tmp 13) (.seq (.reg false r24_2) .ret) .skip)) (.seq (.seq (.reg false r24_3) (.block 0 (.loop (.seq (.seq (.reg false r24_4) (.cond (.tmp 17) .skip (.exit 0))) (.seq (.block 1 (.seq (.reg false r24_5) (.cond (.tmp 24) (.seq (.reg false r24_6) .ret) .skip))) (.reg false r24_7)))))) (.seq (.reg false r24_8) .ret))))
theorem e24 {args : List PV} {h : Heap} {K : PV → Heap → Prop} (hl : args.length = 2) (s : pwp Try.prog [] c24 (fin Try.prog [.tmp 4] h K) (slots0 (olds args)) h) : CanP Try.prog 24 args h K :=
  can_of2 (n := 26) mixed Try.func24 rfl (by kernel_rfl) (by rw [hl]; kernel_rfl) rfl (by kernel_rfl) s
/-! ### naskh.naskhref14.Codes: function 11 -/
def r11_0 : List PS := [.mk (some 6) (.assign (.const (.slice none 0 0))) none]
def r11_1 : List PS := [.mk (some 7) (.assign (.const (.slice none 0 0))) none]
def r11_2 : List PS := [.mk (some 8) (.assign (.const (.int .i64 0))) none]
def r11_3 : List PS := [.mk (some 12) (.move (.tmp 8)) none,
  .mk (some 13) (.move (.tmp 2)) none,
  .mk (some 14) (.call ⟨(.builtin .len), #[(.tmp 13)], #[23]⟩) none,
  .mk (some 15) (.binOp .lss 3 (.tmp 12) (.tmp 14) 3) none]
def r11_4 : List PS := [.mk (some 18) (.move (.tmp 2)) none,
  .mk (some 19) (.move (.tmp 8)) none,
  .mk (some 20) (.indexAddr 23 (.tmp 18) (.tmp 19)) none,
  .mk (some 21) (.load 26 (.tmp 20)) none,
  .mk (some 9) (.alloc 26) none,
  .mk none (.store 26 (.tmp 9) (.tmp 21)) none,
  .frz 9]
def r11_5 : List PS := [.mk (some 10) (.assign (.const (.int .i64 0))) none]
def r11_6 : List PS := [.mk (some 22) (.fieldAddr 26 (.tmp 9) 1) none,
  .mk (some 23) (.load 3 (.tmp 22)) none,
  .mk (some 24) (.binOp .geq 3 (.tmp 23) (.const (.int .i64 0)) 3) none,
  .mk (some 25) (.move (.tmp 24)) none,
  .mk (some 26) (.fieldAddr 26 (.tmp 9) 1) (some (25, true)),
  .mk (some 27) (.load 3 (.tmp 26)) (some (25, true)),
  .mk (some 28) (.move (.tmp 0)) (some (25, true)),
  .mk (some 29) (.call ⟨(.builtin .len), #[(.tmp 28)], #[22]⟩) (some (25, true)),
  .mk (some 30) (.binOp .lss 3 (.tmp 27) (.tmp 29) 3) (some (25, true)),
  .mk (some 31) (.pick (.tmp 25) (.tmp 30) (.const (.bool false))) none,
  .mk (some 32) (.move (.tmp 31)) none,
  .mk (some 33) (.fieldAddr 26 (.tmp 9) 0) (some (32, true)),
  .mk (some 34) (.load 3 (.tmp 33)) (some (32, true)),
  .mk (some 35) (.binOp .geq 3 (.tmp 34) (.const (.int .i64 0)) 3) (some (32, true)),
  .mk (some 36) (.pick (.tmp 32) (.tmp 35) (.const (.bool false))) none,
  .mk (some 37) (.move (.tmp 36)) none,
  .mk (some 38) (.fieldAddr 26 (.tmp 9) 0) (some (37, true)),
  .mk (some 39) (.load 3 (.tmp 38)) (some (37, true)),
  .mk (some 40) (.move (.tmp 0)) (some (37, true)),
  .mk (some 41) (.call ⟨(.builtin .len), #[(.tmp 40)], #[22]⟩) (some (37, true)),
  .mk (some 42) (.binOp .lss 3 (.tmp 39) (.tmp 41) 3) (some (37, true)),
  .mk (some 43) (.pick (.tmp 37) (.tmp 42) (.const (.bool false))) none]
def r11_7 : List PS := [.mk (some 11) (.assign (.const (.int .i64 1))) none]
def r11_8 : List PS := [.mk (some 44) (.move (.tmp 1)) none,
  .mk (some 45) (.move (.tmp 1)) none,
  .mk (some 46) (.fieldAddr 26 (.tmp 9) 0) none,
  .mk (some 47) (.load 3 (.tmp 46)) none,
  .mk (some 48) (.call ⟨(.value (.func 24)), #[(.tmp 45), (.tmp 47)], #[22, 3]⟩) none,
  .mk (some 49) (.call ⟨(.value (.func 23)), #[(.tmp 44), (.tmp 48)], #[22, 3]⟩) none]
def r11_9 : List PS := [.mk (some 11) (.assign (.const (.int .i64 2))) none]
def r11_10 : List PS := [.mk (some 51) (.move (.tmp 0)) none,
  .mk (some 52) (.fieldAddr 26 (.tmp 9) 1) none,
  .mk (some 53) (.load 3 (.tmp 52)) none,
  .mk (some 54) (.indexAddr 22 (.tmp 51) (.tmp 53)) none,
  .mk (some 55) (.load 3 (.tmp 54)) none,
  .mk (some 56) (.move (.tmp 11)) none,
  .mk (some 57) (.call ⟨(.value (.func 20)), #[(.tmp 55), (.tmp 56)], #[3, 3]⟩) none,
  .mk (some 50) (.move (.tmp 57)) none,
  .mk (some 58) (.extract (.tmp 50) 0) none,
  .mk (some 59) (.extract (.tmp 50) 1) none,
  .mk (some 10) (.assign (.tmp 58)) none]
def r11_11 : List PS := [.mk (some 60) (.move (.tmp 7)) none,
  .mk (some 61) (.move (.tmp 10)) none,
  .mk (some 62) (.buildSlice 22 1 #[(0, (.tmp 61))]) none,
  .mk (some 63) (.call ⟨(.builtin .append), #[(.tmp 60), (.tmp 62)], #[22, 22]⟩) none,
  .mk (some 7) (.assign (.tmp 63)) none]
def r11_12 : List PS := [.mk (some 16) (.move (.tmp 8)) none,
  .mk (some 17) (.binOp .add 3 (.tmp 16) (.const (.int .i64 1)) 3) none,
  .mk (some 8) (.assign (.tmp 17)) none]
def r11_13 : List PS := [.mk (some 64) (.move (.tmp 7)) none,
  .mk (some 6) (.assign (.tmp 64)) none]
def c11 : PC := (.seq (.reg false r11_0) (.seq (.reg false r11_1) (.seq (.seq (.reg false r11_2) (.block 0 (.loop (.seq (.seq (.reg false r11_3) (.cond (.tmp 15) .skip (.exit 0))) (.seq (.block 1 (.seq (.reg false r11_4) (.seq (.reg false r11_5) (.seq (.seq (.reg false r11_6) (.cond (.tmp 43) (.seq (.reg false r11_7) (.seq (.seq (.reg false r11_8) (.cond (.tmp 49) (.reg false r11_9) .skip)) (.reg false r11_10))) .skip)) (.reg false r11_11))))) (.reg false r11_12)))))) (.seq (.reg false r11_13) .ret))))
theorem e11 {args : List PV} {h : Heap} {K : PV → Heap → Prop} (hl : args.length = 3) (s : pwp Try.prog [9] c11 (fin Try.prog [.tmp 6] h K) (slots0 (olds args)) h) : CanP Try.prog 11 args h K :=
  can_of2 (n := 65) mixed Try.func11 rfl (by kernel_rfl) (by rw [hl]; kernel_rfl) rfl (by kernel_rfl) s
/-! ### naskh.naskhlaw14.LamalefCodes: function 3 -/
def r3_0 : List PS := [.mk (some 6) (.assign (.const (.bool false))) none]
def r3_1 : List PS := [.mk (some 10) (.move (.tmp 0)) none,
  .mk (some 11) (.call ⟨(.builtin .len), #[(.tmp 10)], #[22]⟩) none,
  .mk (some 12) (.binOp .gtr 3 (.tmp 11) (.const (.int .i64 200)) 3) none,
  .mk (some 13) (.move (.tmp 12)) none,
  .mk (some 14) (.move (.tmp 1)) (some (13, false)),
  .mk (some 15) (.call ⟨(.builtin .len), #[(.tmp 14)], #[22]⟩) (some (13, false)),
  .mk (some 16) (.binOp .gtr 3 (.tmp 15) (.const (.int .i64 200)) 3) (some (13, false)),
  .mk (some 17) (.pick (.tmp 13) (.const (.bool true)) (.tmp 16)) none,
  .mk (some 18) (.move (.tmp 17)) none,
  .mk (some 19) (.move (.tmp 2)) (some (18, false)),
  .mk (some 20) (.call ⟨(.builtin .len), #[(.tmp 19)], #[23]⟩) (some (18, false)),
  .mk (some 21) (.binOp .gtr 3 (.tmp 20) (.const (.int .i64 100)) 3) (some (18, false)),
  .mk (some 22) (.pick (.tmp 18) (.const (.bool true)) (.tmp 21)) none]
def r3_2 : List PS := [.mk (some 23) (.call ⟨(.value (.func 6)), #[], #[]⟩) none,
  .mk (some 6) (.assign (.tmp 23)) none]
def r3_3 : List PS := [.mk (some 7) (.assign (.const (.bool true))) none]
def r3_4 : List PS := [.mk (some 24) (.move (.tmp 2)) none,
  .mk (some 25) (.call ⟨(.builtin .len), #[(.tmp 24)], #[23]⟩) none,
  .mk (some 26) (.move (.const (.int .i64 0))) none]
def r3_5 : List PS := [.mk (some 27) (.binOp .lss 3 (.tmp 26) (.tmp 25) 3) none]
def r3_6 : List PS := [.mk (some 28) (.indexAddr 23 (.tmp 24) (.tmp 26)) none,
  .mk (some 29) (.load 26 (.tmp 28)) none,
  .mk (some 9) (.alloc 26) none,
  .mk none (.store 26 (.tmp 9) (.tmp 29)) none,
  .frz 9]
def r3_7 : List PS := [.mk (some 30) (.move (.tmp 7)) none,
  .mk (some 31) (.move (.tmp 30)) none,
  .mk (some 32) (.fieldAddr 26 (.tmp 9) 0) (some (31, true)),
  .mk (some 33) (.load 3 (.tmp 32)) (some (31, true)),
  .mk (some 34) (.call ⟨(.value (.func 7)), #[(.tmp 33)], #[3]⟩) (some (31, true)),
  .mk (some 35) (.fieldAddr 26 (.tmp 9) 0) (some (31, true)),
  .mk (some 36) (.load 3 (.tmp 35)) (some (31, true)),
  .mk (some 37) (.call ⟨(.value (.func 8)), #[(.tmp 36)], #[3]⟩) (some (31, true)),
  .mk (some 38) (.binOp .eql 4 (.tmp 34) (.tmp 37) 4) (some (31, true)),
  .mk (some 39) (.pick (.tmp 31) (.tmp 38) (.const (.bool false))) none,
  .mk (some 7) (.assign (.tmp 39)) none]
def r3_8 : List PS := [.mk (some 40) (.binOp .add 3 (.tmp 26) (.const (.int .i64 1)) 3) none,
  .mk (some 26) (.move (.tmp 40)) none]
def r3_9 : List PS := [.mk (some 41) (.move (.tmp 7)) none,
  .mk (some 42) (.move (.tmp 41)) none,
  .mk (some 43) (.move (.tmp 0)) (some (42, true)),
  .mk (some 44) (.move (.tmp 1)) (some (42, true)),
  .mk (some 45) (.move (.tmp 2)) (some (42, true)),
  .mk (some 46) (.call ⟨(.value (.func 10)), #[(.tmp 43), (.tmp 44), (.tmp 45)], #[22, 22, 23]⟩) (some (42, true)),
  .mk (some 47) (.move (.tmp 0)) (some (42, true)),
  .mk (some 48) (.move (.tmp 1)) (some (42, true)),
  .mk (some 49) (.move (.tmp 2)) (some (42, true)),
  .mk (some 50) (.call ⟨(.value (.func 11)), #[(.tmp 47), (.tmp 48), (.tmp 49)], #[22, 22, 23]⟩) (some (42, true)),
  .mk (some 51) (.call ⟨(.value (.func 9)), #[(.tmp 46), (.tmp 50)], #[22, 22]⟩) (some (42, true)),
  .mk (some 52) (.pick (.tmp 42) (.tmp 51) (.const (.bool false))) none,
  .mk (some 53) (.move (.tmp 52)) none,
  .mk (some 54) (.call ⟨(.value (.func 6)), #[], #[]⟩) (some (53, true)),
  .mk (some 55) (.pick (.tmp 53) (.tmp 54) (.const (.bool false))) none,
  .mk (some 6) (.assign (.tmp 55)) none]
def c3 : PC := (.seq (.reg false r3_0) (.seq (.seq (.reg false r3_1) (.cond (.tmp 22) (.seq (.reg false r3_2) .ret) .skip)) (.seq (.reg false r3_3) (.seq (.seq (.reg false r3_4) (.block 0 (.loop (.seq (.reg false r3_5) (.seq (.cond (.tmp 27) .skip (.exit 0)) (.seq (.block 1 (.seq (.reg false r3_6) (.reg true r3_7))) (.reg false r3_8))))))) (.seq (.reg false r3_9) .ret)))))
theorem e3 {args : List PV} {h : Heap} {K : PV → Heap → Prop} (hl : args.length = 3) (s : pwp Try.prog [9] c3 (fin Try.prog [.tmp 6] h K) (slots0 (olds args)) h) : CanP Try.prog 3 args h K :=
  can_of2 (n := 56) mixed Try.func3 rfl (by kernel_rfl) (by rw [hl]; kernel_rfl) rfl (by kernel_rfl) s
/-! ### naskh.api.JoinRanges: function 29 -/
def r29_0 : List PS := [.mk (some 0) (.assign (.const (.slice none 0 0))) none]
def r29_1 : List PS := [.mk (some 1) (.build 76 #[(0, (.const (.int .i64 768))), (1, (.const (.int .i64 879))), (2, (.const (.int .i64 1)))]) none,
  .mk (some 2) (.build 76 #[(0, (.const (.int .i64 1155))), (1, (.const (.int .i64 1161))), (2, (.const (.int .i64 1)))]) none,
  .mk (some 3) (.build 76 #[(0, (.const (.int .i64 1425))), (1, (.const (.int .i64 1469))), (2, (.const (.int .i64 1)))]) none,
  .mk (some 4) (.build 76 #[(0, (.const (.int .i64 1471))), (1, (.const (.int .i64 1471))), (2, (.const (.int .i64 1)))]) none,
  .mk (some 5) (.build 76 #[(0, (.const (.int .i64 1473))), (1, (.const (.int .i64 1474))), (2, (.const (.int .i64 1)))]) none,
  .mk (some 6) (.build 76 #[(0, (.const (.int .i64 1476))), (1, (.const (.int .i64 1477))), (2, (.const (.int .i64 1)))]) none,
  .mk (some 7) (.build 76 #[(0, (.const (.int .i64 1479))), (1, (.const (.int .i64 1479))), (2, (.const (.int .i64 1)))]) none,
  .mk (some 8) (.build 76 #[(0, (.const (.int .i64 1552))), (1, (.const (.int .i64 1562))), (2, (.const (.int .i64 1)))]) none,
  .mk (some 9) (.build 76 #[(0, (.const (.int .i64 1564))), (1, (.const (.int .i64 1564))), (2, (.const (.int .i64 1)))]) none,
  .mk (some 10) (.build 76 #[(0, (.const (.int .i64 1568))), (1, (.const (.int .i64 1568))), (2, (.const (.int .i64 3)))]) none,
  .mk (some 11) (.build 76 #[(0, (.const (.int .i64 1570))), (1, (.const (.int .i64 1573))), (2, (.const (.int .i64 2)))]) none,
  .mk (some 12) (.build 76 #[(0, (.const (.int .i64 1574))), (1, (.const (.int .i64 1574))), (2, (.const (.int .i64 3)))]) none,
  .mk (some 13) (.build 76 #[(0, (.const (.int .i64 1575))), (1, (.const (.int .i64 1575))), (2, (.const (.int .i64 2)))]) none,
  .mk (some 14) (.build 76 #[(0, (.const (.int .i64 1576))), (1, (.const (.int .i64 1576))), (2, (.const (.int .i64 3)))]) none,
  .mk (some 15) (.build 76 #[(0, (.const (.int .i64 1577))), (1, (.const (.int .i64 1577))), (2, (.const (.int .i64 2)))]) none,
  .mk (some 16) (.build 76 #[(0, (.const (.int .i64 1578))), (1, (.const (.int .i64 1582))), (2, (.const (.int .i64 3)))]) none,
  .mk (some 17) (.build 76 #[(0, (.const (.int .i64 1583))), (1, (.const (.int .i64 1586))), (2, (.const (.int .i64 2)))]) none,
  .mk (some 18) (.build 76 #[(0, (.const (.int .i64 1587))), (1, (.const (.int .i64 1599))), (2, (.const (.int .i64 3)))]) none,
  .mk (some 19) (.build 76 #[(0, (.const (.int .i64 1600))), (1, (.const (.int .i64 1600))), (2, (.const (.int .i64 5)))]) none,
  .mk (some 20) (.build 76 #[(0, (.const (.int .i64 1601))), (1, (.const (.int .i64 1607))), (2, (.const (.int .i64 3)))]) none,
  .mk (some 21) (.build 76 #[(0, (.const (.int .i64 1608))), (1, (.const (.int .i64 1608))), (2, (.const (.int .i64 2)))]) none,
  .mk (some 22) (.build 76 #[(0, (.const (.int .i64 1609))), (1, (.const (.int .i64 1610))), (2, (.const (.int .i64 3)))]) none,
  .mk (some 23) (.build 76 #[(0, (.const (.int .i64 1611))), (1, (.const (.int .i64 1631))), (2, (.const (.int .i64 1)))]) none,
  .mk (some 24) (.build 76 #[(0, (.const (.int .i64 1646))), (1, (.const (.int .i64 1647))), (2, (.const (.int .i64 3)))]) none,
  .mk (some 25) (.build 76 #[(0, (.const (.int .i64 1648))), (1, (.const (.int .i64 1648))), (2, (.const (.int .i64 1)))]) none,
  .mk (some 26) (.build 76 #[(0, (.const (.int .i64 1649))), (1, (.const (.int .i64 1651))), (2, (.const (.int .i64 2)))]) none,
  .mk (some 27) (.build 76 #[(0, (.const (.int .i64 1653))), (1, (.const (.int .i64 1655))), (2, (.const (.int .i64 2)))]) none,
  .mk (some 28) (.build 76 #[(0, (.const (.int .i64 1656))), (1, (.const (.int .i64 1671))), (2, (.const (.int .i64 3)))]) none,
  .mk (some 29) (.build 76 #[(0, (.const (.int .i64 1672))), (1, (.const (.int .i64 1689))), (2, (.const (.int .i64 2)))]) none,
  .mk (some 30) (.build 76 #[(0, (.const (.int .i64 1690))), (1, (.const (.int .i64 1727))), (2, (.const (.int .i64 3)))]) none,
  .mk (some 31) (.build 76 #[(0, (.const (.int .i64 1728))), (1, (.const (.int .i64 1728))), (2, (.const (.int .i64 2)))]) none,
  .mk (some 32) (.build 76 #[(0, (.const (.int .i64 1729))), (1, (.const (.int .i64 1730))), (2, (.const (.int .i64 3)))]) none,
  .mk (some 33) (.build 76 #[(0, (.const (.int .i64 1731))), (1, (.const (.int .i64 1739))), (2, (.const (.int .i64 2)))]) none,
  .mk (some 34) (.build 76 #[(0, (.const (.int .i64 1740))), (1, (.const (.int .i64 1740))), (2, (.const (.int .i64 3)))]) none,
  .mk (some 35) (.build 76 #[(0, (.const (.int .i64 1741))), (1, (.const (.int .i64 1741))), (2, (.const (.int .i64 2)))]) none,
  .mk (some 36) (.build 76 #[(0, (.const (.int .i64 1742))), (1, (.const (.int .i64 1742))), (2, (.const (.int .i64 3)))]) none,
  .mk (some 37) (.build 76 #[(0, (.const (.int .i64 1743))), (1, (.const (.int .i64 1743))), (2, (.const (.int .i64 2)))]) none,
  .mk (some 38) (.build 76 #[(0, (.const (.int .i64 1744))), (1, (.const (.int .i64 1745))), (2, (.const (.int .i64 3)))]) none,
  .mk (some 39) (.build 76 #[(0, (.const (.int .i64 1746))), (1, (.const (.int .i64 1747))), (2, (.const (.int .i64 2)))]) none,
  .mk (some 40) (.build 76 #[(0, (.const (.int .i64 1749))), (1, (.const (.int .i64 1749))), (2, (.const (.int .i64 2)))]) none,
  .mk (some 41) (.build 76 #[(0, (.const (.int .i64 1750))), (1, (.const (.int .i64 1756))), (2, (.const (.int .i64 1)))]) none,
  .mk (some 42) (.build 76 #[(0, (.const (.int .i64 1759))), (1, (.const (.int .i64 1764))), (2, (.const (.int .i64 1)))]) none,
  .mk (some 43) (.build 76 #[(0, (.const (.int .i64 1767))), (1, (.const (.int .i64 1768))), (2, (.const (.int .i64 1)))]) none,
  .mk (some 44) (.build 76 #[(0, (.const (.int .i64 1770))), (1, (.const (.int .i64 1773))), (2, (.const (.int .i64 1)))]) none,
  .mk (some 45) (.build 76 #[(0, (.const (.int .i64 1774))), (1, (.const (.int .i64 1775))), (2, (.const (.int .i64 2)))]) none,
  .mk (some 46) (.build 76 #[(0, (.const (.int .i64 1786))), (1, (.const (.int .i64 1788))), (2, (.const (.int .i64 3)))]) none,
  .mk (some 47) (.build 76 #[(0, (.const (.int .i64 1791))), (1, (.const (.int .i64 1791))), (2, (.const (.int .i64 3)))]) none,
  .mk (some 48) (.build 76 #[(0, (.const (.int .i64 1840))), (1, (.const (.int .i64 1866))), (2, (.const (.int .i64 1)))]) none,
  .mk (some 49) (.build 76 #[(0, (.const (.int .i64 1958))), (1, (.const (.int .i64 1968))), (2, (.const (.int .i64 1)))]) none,
  .mk (some 50) (.build 76 #[(0, (.const (.int .i64 1994))), (1, (.const (.int .i64 2026))), (2, (.const (.int .i64 3)))]) none,
  .mk (some 51) (.build 76 #[(0, (.const (.int .i64 2027))), (1, (.const (.int .i64 2035))), (2, (.const (.int .i64 1)))]) none,
  .mk (some 52) (.build 76 #[(0, (.const (.int .i64 2042))), (1, (.const (.int .i64 2042))), (2, (.const (.int .i64 5)))]) none,
  .mk (some 53) (.build 76 #[(0, (.const (.int .i64 2200))), (1, (.const (.int .i64 2207))), (2, (.const (.int .i64 1)))]) none,
  .mk (some 54) (.build 76 #[(0, (.const (.int .i64 2250))), (1, (.const (.int .i64 2273))), (2, (.const (.int .i64 1)))]) none,
  .mk (some 55) (.build 76 #[(0, (.const (.int .i64 2275))), (1, (.const (.int .i64 2306))), (2, (.const (.int .i64 1)))]) none,
  .mk (some 56) (.build 76 #[(0, (.const (.int .i64 8203))), (1, (.const (.int .i64 8203))), (2, (.const (.int .i64 1)))]) none,
  .mk (some 57) (.build 76 #[(0, (.const (.int .i64 8205))), (1, (.const (.int .i64 8205))), (2, (.const (.int .i64 5)))]) none,
  .mk (some 58) (.build 76 #[(0, (.const (.int .i64 8206))), (1, (.const (.int .i64 8207))), (2, (.const (.int .i64 1)))]) none,
  .mk (some 59) (.build 76 #[(0, (.const (.int .i64 8234))), (1, (.const (.int .i64 8238))), (2, (.const (.int .i64 1)))]) none,
  .mk (some 60) (.build 76 #[(0, (.const (.int .i64 8288))), (1, (.const (.int .i64 8292))), (2, (.const (.int .i64 1)))]) none,
  .mk (some 61) (.build 76 #[(0, (.const (.int .i64 8298))), (1, (.const (.int .i64 8303))), (2, (.const (.int .i64 1)))]) none,
  .mk (some 62) (.build 76 #[(0, (.const (.int .i64 8400))), (1, (.const (.int .i64 8432))), (2, (.const (.int .i64 1)))]) none,
  .mk (some 63) (.build 76 #[(0, (.const (.int .i64 43072))), (1, (.const (.int .i64 43121))), (2, (.const (.int .i64 3)))]) none,
  .mk (some 64) (.build 76 #[(0, (.const (.int .i64 43122))), (1, (.const (.int .i64 43122))), (2, (.const (.int .i64 4)))]) none,
  .mk (some 65) (.build 76 #[(0, (.const (.int .i64 65024))), (1, (.const (.int .i64 65039))), (2, (.const (.int .i64 1)))]) none,
  .mk (some 66) (.build 76 #[(0, (.const (.int .i64 65056))), (1, (.const (.int .i64 65071))), (2, (.const (.int .i64 1)))]) none,
  .mk (some 67) (.build 76 #[(0, (.const (.int .i64 65279))), (1, (.const (.int .i64 65279))), (2, (.const (.int .i64 1)))]) none,
  .mk (some 68) (.build 76 #[(0, (.const (.int .i64 917760))), (1, (.const (.int .i64 917999))), (2, (.const (.int .i64 1)))]) none,
  .mk (some 69) (.buildSlice 49 68 #[(0, (.tmp 1)), (1, (.tmp 2)), (2, (.tmp 3)), (3, (.tmp 4)), (4, (.tmp 5)), (5, (.tmp 6)), (6, (.tmp 7)), (7, (.tmp 8)), (8, (.tmp 9)), (9, (.tmp 10)), (10, (.tmp 11)), (11, (.tmp 12)), (12, (.tmp 13)), (13, (.tmp 14)), (14, (.tmp 15)), (15, (.tmp 16)), (16, (.tmp 17)), (17, (.tmp 18)), (18, (.tmp 19)), (19, (.tmp 20)), (20, (.tmp 21)), (21, (.tmp 22)), (22, (.tmp 23)), (23, (.tmp 24)), (24, (.tmp 25)), (25, (.tmp 26)), (26, (.tmp 27)), (27, (.tmp 28)), (28, (.tmp 29)), (29, (.tmp 30)), (30, (.tmp 31)), (31, (.tmp 32)), (32, (.tmp 33)), (33, (.tmp 34)), (34, (.tmp 35)), (35, (.tmp 36)), (36, (.tmp 37)), (37, (.tmp 38)), (38, (.tmp 39)), (39, (.tmp 40)), (40, (.tmp 41)), (41, (.tmp 42)), (42, (.tmp 43)), (43, (.tmp 44)), (44, (.tmp 45)), (45, (.tmp 46)), (46, (.tmp 47)), (47, (.tmp 48)), (48, (.tmp 49)), (49, (.tmp 50)), (50, (.tmp 51)), (51, (.tmp 52)), (52, (.tmp 53)), (53, (.tmp 54)), (54, (.tmp 55)), (55, (.tmp 56)), (56, (.tmp 57)), (57, (.tmp 58)), (58, (.tmp 59)), (59, (.tmp 60)), (60, (.tmp 61)), (61, (.tmp 62)), (62, (.tmp 63)), (63, (.tmp 64)), (64, (.tmp 65)), (65, (.tmp 66)), (66, (.tmp 67)), (67, (.tmp 68))]) none,
  .mk (some 0) (.assign (.tmp 69)) none]
def c29 : PC := (.seq (.reg false r29_0) (.seq (.reg false r29_1) .ret))
theorem e29 {args : List PV} {h : Heap} {K : PV → Heap → Prop} (hl : args.length = 0) (s : pwp Try.prog [] c29 (fin Try.prog [.tmp 0] h K) (slots0 (olds args)) h) : CanP Try.prog 29 args h K :=
  can_of2 (n := 70) mixed Try.func29 rfl (by kernel_rfl) (by rw [hl]; kernel_rfl) rfl (by kernel_rfl) s
/-! ### naskh.naskhref06.Get: function 37 -/
def r37_0 : List PS := [.mk (some 6) (.assign (.const (.int .i64 0))) none]
def r37_1 : List PS := [.mk (some 7) (.assign (.const (.int .i64 0))) none]
def r37_2 : List PS := [.mk (some 8) (.move (.tmp 7)) none,
  .mk (some 9) (.move (.tmp 0)) none,
  .mk (some 10) (.call ⟨(.builtin .len), #[(.tmp 9)], #[49]⟩) none,
  .mk (some 11) (.binOp .lss 3 (.tmp 8) (.tmp 10) 3) none]
def r37_3 : List PS := [.mk (some 14) (.move (.tmp 2)) none,
  .mk (some 15) (.move (.tmp 0)) none,
  .mk (some 16) (.move (.tmp 7)) none,
  .mk (some 17) (.indexAddr 49 (.tmp 15) (.tmp 16)) none,
  .mk (some 18) (.fieldAddr 76 (.tmp 17) 0) none,
  .mk (some 19) (.load 3 (.tmp 18)) none,
  .mk (some 20) (.binOp .geq 3 (.tmp 14) (.tmp 19) 3) none,
  .mk (some 21) (.move (.tmp 20)) none,
  .mk (some 22) (.move (.tmp 2)) (some (21, true)),
  .mk (some 23) (.move (.tmp 0)) (some (21, true)),
  .mk (some 24) (.move (.tmp 7)) (some (21, true)),
  .mk (some 25) (.indexAddr 49 (.tmp 23) (.tmp 24)) (some (21, true)),
  .mk (some 26) (.fieldAddr 76 (.tmp 25) 1) (some (21, true)),
  .mk (some 27) (.load 3 (.tmp 26)) (some (21, true)),
  .mk (some 28) (.binOp .leq 3 (.tmp 22) (.tmp 27) 3) (some (21, true)),
  .mk (some 29) (.pick (.tmp 21) (.tmp 28) (.const (.bool false))) none]
def r37_4 : List PS := [.mk (some 30) (.move (.tmp 0)) none,
  .mk (some 31) (.move (.tmp 7)) none,
  .mk (some 32) (.indexAddr 49 (.tmp 30) (.tmp 31)) none,
  .mk (some 33) (.fieldAddr 76 (.tmp 32) 2) none,
  .mk (some 34) (.load 3 (.tmp 33)) none,
  .mk (some 6) (.assign (.tmp 34)) none]
def r37_5 : List PS := [.mk (some 12) (.move (.tmp 7)) none,
  .mk (some 13) (.binOp .add 3 (.tmp 12) (.const (.int .i64 1)) 3) none,
  .mk (some 7) (.assign (.tmp 13)) none]
def r37_6 : List PS := [.mk (some 35) (.move (.tmp 1)) none,
  .mk (some 6) (.assign (.tmp 35)) none]
def c37 : PC := (.seq (.reg false r37_0) (.seq (.seq (.reg false r37_1) (.block 0 (.loop (.seq (.seq (.reg false r37_2) (.cond (.tmp 11) .skip (.exit 0))) (.seq (.block 1 (.seq (.reg false r37_3) (.cond (.tmp 29) (.seq (.reg false r37_4) .ret) .skip))) (.reg false r37_5)))))) (.seq (.reg false r37_6) .ret)))
theorem e37 {args : List PV} {h : Heap} {K : PV → Heap → Prop} (hl : args.length = 3) (s : pwp Try.prog [] c37 (fin Try.prog [.tmp 6] h K) (slots0 (olds args)) h) : CanP Try.prog 37 args h K :=
  can_of2 (n := 36) mixed Try.func37 rfl (by kernel_rfl) (by rw [hl]; kernel_rfl) rfl (by kernel_rfl) s
/-! ### naskh.naskhref07.Join: function 25 -/
def r25_0 : List PS := [.mk (some 2) (.assign (.const (.int .i64 0))) none]
def r25_1 : List PS := [.mk (some 3) (.call ⟨(.value (.func 29)), #[], #[]⟩) none,
  .mk (some 4) (.move (.tmp 0)) none,
  .mk (some 5) (.call ⟨(.value (.func 37)), #[(.tmp 3), (.const (.int .i64 0)), (.tmp 4)], #[49, 3, 3]⟩) none,
  .mk (some 2) (.assign (.tmp 5)) none]
def c25 : PC := (.seq (.reg false r25_0) (.seq (.reg false r25_1) .ret))
theorem e25 {args : List PV} {h : Heap} {K : PV → Heap → Prop} (hl : args.length = 1) (s : pwp Try.prog [] c25 (fin Try.prog [.tmp 2] h K) (slots0 (olds args)) h) : CanP Try.prog 25 args h K :=
  can_of2 (n := 6) mixed Try.func25 rfl (by kernel_rfl) (by rw [hl]; kernel_rfl) rfl (by kernel_rfl) s
/-! ### naskh.naskhref07.Joins: function 12 -/
def r12_0 : List PS := [.mk (some 2) (.assign (.const (.slice none 0 0))) none]
def r12_1 : List PS := [.mk (some 3) (.assign (.const (.slice none 0 0))) none]
def r12_2 : List PS := [.mk (some 4) (.assign (.const (.int .i64 0))) none]
def r12_3 : List PS := [.mk (some 5) (.move (.tmp 4)) none,
  .mk (some 6) (.move (.tmp 0)) none,
  .mk (some 7) (.call ⟨(.builtin .len), #[(.tmp 6)], #[22]⟩) none,
  .mk (some 8) (.binOp .lss 3 (.tmp 5) (.tmp 7) 3) none]
def r12_4 : List PS := [.mk (some 11) (.move (.tmp 3)) none,
  .mk (some 12) (.move (.tmp 0)) none,
  .mk (some 13) (.move (.tmp 4)) none,
  .mk (some 14) (.indexAddr 22 (.tmp 12) (.tmp 13)) none,
  .mk (some 15) (.load 3 (.tmp 14)) none,
  .mk (some 16) (.call ⟨(.value (.func 25)), #[(.tmp 15)], #[3]⟩) none,
  .mk (some 17) (.buildSlice 22 1 #[(0, (.tmp 16))]) none,
  .mk (some 18) (.call ⟨(.builtin .append), #[(.tmp 11), (.tmp 17)], #[22, 22]⟩) none,
  .mk (some 3) (.assign (.tmp 18)) none]
def r12_5 : List PS := [.mk (some 9) (.move (.tmp 4)) none,
  .mk (some 10) (.binOp .add 3 (.tmp 9) (.const (.int .i64 1)) 3) none,
  .mk (some 4) (.assign (.tmp 10)) none]
def r12_6 : List PS := [.mk (some 19) (.move (.tmp 3)) none,
  .mk (some 2) (.assign (.tmp 19)) none]
def c12 : PC := (.seq (.reg false r12_0) (.seq (.reg false r12_1) (.seq (.seq (.reg false r12_2) (.block 0 (.loop (.seq (.seq (.reg false r12_3) (.cond (.tmp 8) .skip (.exit 0))) (.seq (.block 1 (.reg false r12_4)) (.reg false r12_5)))))) (.seq (.reg false r12_6) .ret))))
theorem e12 {args : List PV} {h : Heap} {K : PV → Heap → Prop} (hl : args.length = 1) (s : pwp Try.prog [] c12 (fin Try.prog [.tmp 2] h K) (slots0 (olds args)) h) : CanP Try.prog 12 args h K :=
  can_of2 (n := 20) mixed Try.func12 rfl (by kernel_rfl) (by rw [hl]; kernel_rfl) rfl (by kernel_rfl) s
/-! ### naskh.naskhref14.Find: function 15 -/
def r15_0 : List PS := [.mk (some 6) (.assign (.const (.slice none 0 0))) none]
def r15_1 : List PS := [.mk (some 7) (.assign (.const (.slice none 0 0))) none]
def r15_2 : List PS := [.mk (some 10) (.move (.tmp 0)) none,
  .mk (some 11) (.call ⟨(.builtin .len), #[(.tmp 10)], #[22]⟩) none,
  .mk (some 12) (.move (.tmp 1)) none,
  .mk (some 13) (.call ⟨(.builtin .len), #[(.tmp 12)], #[22]⟩) none,
  .mk (some 14) (.binOp .neq 3 (.tmp 11) (.tmp 13) 3) none]
def r15_3 : List PS := [.mk (some 6) (.assign (.const (.slice none 0 0))) none]
def r15_4 : List PS := [.mk (some 8) (.assign (.const (.int .i64 0))) none]
def r15_5 : List PS := [.mk (some 15) (.move (.tmp 8)) none,
  .mk (some 16) (.move (.tmp 0)) none,
  .mk (some 17) (.call ⟨(.builtin .len), #[(.tmp 16)], #[22]⟩) none,
  .mk (some 18) (.binOp .lss 3 (.tmp 15) (.tmp 17) 3) none]
def r15_6 : List PS := [.mk (some 21) (.move (.tmp 1)) none,
  .mk (some 22) (.move (.tmp 8)) none,
  .mk (some 23) (.call ⟨(.value (.func 26)), #[(.tmp 21), (.tmp 22)], #[22, 3]⟩) none,
  .mk (some 9) (.assign (.tmp 23)) none]
def r15_7 : List PS := [.mk (some 24) (.move (.tmp 0)) none,
  .mk (some 25) (.move (.tmp 8)) none,
  .mk (some 26) (.indexAddr 22 (.tmp 24) (.tmp 25)) none,
  .mk (some 27) (.load 3 (.tmp 26)) none,
  .mk (some 28) (.binOp .eql 3 (.tmp 27) (.const (.int .i64 1604)) 3) none,
  .mk (some 29) (.move (.tmp 28)) none,
  .mk (some 30) (.move (.tmp 9)) (some (29, true)),
  .mk (some 31) (.binOp .geq 3 (.tmp 30) (.const (.int .i64 0)) 3) (some (29, true)),
  .mk (some 32) (.pick (.tmp 29) (.tmp 31) (.const (.bool false))) none,
  .mk (some 33) (.move (.tmp 32)) none,
  .mk (some 34) (.move (.tmp 0)) (some (33, true)),
  .mk (some 35) (.move (.tmp 9)) (some (33, true)),
  .mk (some 36) (.indexAddr 22 (.tmp 34) (.tmp 35)) (some (33, true)),
  .mk (some 37) (.load 3 (.tmp 36)) (some (33, true)),
  .mk (some 38) (.call ⟨(.value (.func 8)), #[(.tmp 37)], #[3]⟩) (some (33, true)),
  .mk (some 39) (.pick (.tmp 33) (.tmp 38) (.const (.bool false))) none,
  .mk (some 40) (.move (.tmp 39)) none,
  .mk (some 41) (.move (.tmp 2)) (some (40, true)),
  .mk (some 42) (.move (.tmp 41)) (some (40, true)),
  .mk (some 43) (.move (.tmp 9)) (some (42, false)),
  .mk (some 44) (.move (.tmp 8)) (some (42, false)),
  .mk (some 45) (.binOp .add 3 (.tmp 44) (.const (.int .i64 1)) 3) (some (42, false)),
  .mk (some 46) (.binOp .eql 3 (.tmp 43) (.tmp 45) 3) (some (42, false)),
  .mk (some 47) (.pick (.tmp 42) (.const (.bool true)) (.tmp 46)) (some (40, true)),
  .mk (some 48) (.pick (.tmp 40) (.tmp 47) (.const (.bool false))) none]
def r15_8 : List PS := [.mk (some 49) (.move (.tmp 7)) none,
  .mk (some 50) (.move (.tmp 8)) none,
  .mk (some 51) (.move (.tmp 9)) none,
  .mk (some 52) (.build 26 #[(0, (.tmp 50)), (1, (.tmp 51))]) none,
  .mk (some 53) (.buildSlice 23 1 #[(0, (.tmp 52))]) none,
  .mk (some 54) (.call ⟨(.builtin .append), #[(.tmp 49), (.tmp 53)], #[23, 23]⟩) none,
  .mk (some 7) (.assign (.tmp 54)) none]
def r15_9 : List PS := [.mk (some 19) (.move (.tmp 8)) none,
  .mk (some 20) (.binOp .add 3 (.tmp 19) (.const (.int .i64 1)) 3) none,
  .mk (some 8) (.assign (.tmp 20)) none]
def r15_10 : List PS := [.mk (some 55) (.move (.tmp 7)) none,
  .mk (some 6) (.assign (.tmp 55)) none]
def c15 : PC := (.seq (.reg false r15_0) (.seq (.reg false r15_1) (.seq (.seq (.reg false r15_2) (.cond (.tmp 14) (.seq (.reg false r15_3) .ret) .skip)) (.seq (.seq (.reg false r15_4) (.block 0 (.loop (.seq (.seq (.reg false r15_5) (.cond (.tmp 18) .skip (.exit 0))) (.seq (.block 1 (.seq (.reg false r15_6) (.seq (.reg false r15_7) (.cond (.tmp 48) (.reg false r15_8) .skip)))) (.reg false r15_9)))))) (.seq (.reg false r15_10) .ret)))))
theorem e15 {args : List PV} {h : Heap} {K : PV → Heap → Prop} (hl : args.length = 3) (s : pwp Try.prog [] c15 (fin Try.prog [.tmp 6] h K) (slots0 (olds args)) h) : CanP Try.prog 15 args h K :=
  can_of2 (n := 56) mixed Try.func15 rfl (by kernel_rfl) (by rw [hl]; kernel_rfl) rfl (by kernel_rfl) s
/-! ### naskh.naskhlaw14.LamalefFinds: function 4 -/
def r4_0 : List PS := [.mk (some 6) (.assign (.const (.bool false))) none]
def r4_1 : List PS := [.mk (some 8) (.move (.tmp 0)) none,
  .mk (some 9) (.call ⟨(.builtin .len), #[(.tmp 8)], #[22]⟩) none,
  .mk (some 10) (.binOp .gtr 3 (.tmp 9) (.const (.int .i64 200)) 3) none,
  .mk (some 11) (.move (.tmp 10)) none,
  .mk (some 12) (.move (.tmp 1)) (some (11, false)),
  .mk (some 13) (.call ⟨(.builtin .len), #[(.tmp 12)], #[22]⟩) (some (11, false)),
  .mk (some 14) (.binOp .gtr 3 (.tmp 13) (.const (.int .i64 200)) 3) (some (11, false)),
  .mk (some 15) (.pick (.tmp 11) (.const (.bool true)) (.tmp 14)) none]
def r4_2 : List PS := [.mk (some 16) (.call ⟨(.value (.func 6)), #[], #[]⟩) none,
  .mk (some 6) (.assign (.tmp 16)) none]
def r4_3 : List PS := [.mk (some 17) (.move (.tmp 0)) none,
  .mk (some 18) (.call ⟨(.value (.func 12)), #[(.tmp 17)], #[22]⟩) none,
  .mk (some 7) (.assign (.tmp 18)) none]
def r4_4 : List PS := [.mk (some 19) (.move (.tmp 0)) none,
  .mk (some 20) (.move (.tmp 1)) none,
  .mk (some 21) (.move (.tmp 2)) none,
  .mk (some 22) (.call ⟨(.value (.func 14)), #[(.tmp 19), (.tmp 20), (.tmp 21)], #[22, 22, 4]⟩) none,
  .mk (some 23) (.move (.tmp 0)) none,
  .mk (some 24) (.move (.tmp 1)) none,
  .mk (some 25) (.move (.tmp 2)) none,
  .mk (some 26) (.call ⟨(.value (.func 15)), #[(.tmp 23), (.tmp 24), (.tmp 25)], #[22, 22, 4]⟩) none,
  .mk (some 27) (.call ⟨(.value (.func 13)), #[(.tmp 22), (.tmp 26)], #[23, 23]⟩) none,
  .mk (some 28) (.move (.tmp 27)) none,
  .mk (some 29) (.move (.tmp 0)) (some (28, true)),
  .mk (some 30) (.move (.tmp 7)) (some (28, true)),
  .mk (some 31) (.move (.tmp 2)) (some (28, true)),
  .mk (some 32) (.call ⟨(.value (.func 14)), #[(.tmp 29), (.tmp 30), (.tmp 31)], #[22, 22, 4]⟩) (some (28, true)),
  .mk (some 33) (.move (.tmp 0)) (some (28, true)),
  .mk (some 34) (.move (.tmp 7)) (some (28, true)),
  .mk (some 35) (.move (.tmp 2)) (some (28, true)),
  .mk (some 36) (.call ⟨(.value (.func 15)), #[(.tmp 33), (.tmp 34), (.tmp 35)], #[22, 22, 4]⟩) (some (28, true)),
  .mk (some 37) (.call ⟨(.value (.func 13)), #[(.tmp 32), (.tmp 36)], #[23, 23]⟩) (some (28, true)),
  .mk (some 38) (.pick (.tmp 28) (.tmp 37) (.const (.bool false))) none,
  .mk (some 39) (.move (.tmp 38)) none,
  .mk (some 40) (.call ⟨(.value (.func 6)), #[], #[]⟩) (some (39, true)),
  .mk (some 41) (.pick (.tmp 39) (.tmp 40) (.const (.bool false))) none,
  .mk (some 6) (.assign (.tmp 41)) none]
def c4 : PC := (.seq (.reg false r4_0) (.seq (.seq (.reg false r4_1) (.cond (.tmp 15) (.seq (.reg false r4_2) .ret) .skip)) (.seq (.reg false r4_3) (.seq (.reg false r4_4) .ret))))
theorem e4 {args : List PV} {h : Heap} {K : PV → Heap → Prop} (hl : args.length = 3) (s : pwp Try.prog [] c4 (fin Try.prog [.tmp 6] h K) (slots0 (olds args)) h) : CanP Try.prog 4 args h K :=
  can_of2 (n := 42) mixed Try.func4 rfl (by kernel_rfl) (by rw [hl]; kernel_rfl) rfl (by kernel_rfl) s
/-! ### naskh.trie.may: function 38 -/
def r38_0 : List PS := [.mk (some 2) (.assign (.const (.int .i64 0))) none]
def r38_1 : List PS := [.mk (some 6) (.move (.tmp 0)) none,
  .mk (some 7) (.call ⟨(.builtin .len), #[(.tmp 6)], #[49]⟩) none,
  .mk (some 8) (.binOp .gtr 3 (.tmp 7) (.const (.int .i64 4096)) 3) none]
def r38_2 : List PS := [.mk (some 2) (.assign (.const (.int .i64 6))) none]
def r38_3 : List PS := [.mk (some 3) (.assign (.const (.int .i64 (-1)))) none]
def r38_4 : List PS := [.mk (some 9) (.move (.tmp 0)) none,
  .mk (some 10) (.call ⟨(.builtin .len), #[(.tmp 9)], #[49]⟩) none,
  .mk (some 11) (.move (.const (.int .i64 0))) none]
def r38_5 : List PS := [.mk (some 12) (.binOp .lss 3 (.tmp 11) (.tmp 10) 3) none]
def r38_6 : List PS := [.mk (some 13) (.indexAddr 49 (.tmp 9) (.tmp 11)) none,
  .mk (some 14) (.load 76 (.tmp 13)) none,
  .mk (some 5) (.alloc 76) none,
  .mk none (.store 76 (.tmp 5) (.tmp 14)) none,
  .frz 5]
def r38_7 : List PS := [.mk (some 15) (.fieldAddr 76 (.tmp 5) 0) none,
  .mk (some 16) (.load 3 (.tmp 15)) none,
  .mk (some 17) (.move (.tmp 3)) none,
  .mk (some 18) (.binOp .leq 3 (.tmp 16) (.tmp 17) 3) none,
  .mk (some 19) (.move (.tmp 18)) none,
  .mk (some 20) (.fieldAddr 76 (.tmp 5) 1) (some (19, false)),
  .mk (some 21) (.load 3 (.tmp 20)) (some (19, false)),
  .mk (some 22) (.fieldAddr 76 (.tmp 5) 0) (some (19, false)),
  .mk (some 23) (.load 3 (.tmp 22)) (some (19, false)),
  .mk (some 24) (.binOp .lss 3 (.tmp 21) (.tmp 23) 3) (some (19, false)),
  .mk (some 25) (.pick (.tmp 19) (.const (.bool true)) (.tmp 24)) none,
  .mk (some 26) (.move (.tmp 25)) none,
  .mk (some 27) (.fieldAddr 76 (.tmp 5) 1) (some (26, false)),
  .mk (some 28) (.load 3 (.tmp 27)) (some (26, false)),
  .mk (some 29) (.binOp .gtr 3 (.tmp 28) (.const (.int .i64 1114111)) 3) (some (26, false)),
  .mk (some 30) (.pick (.tmp 26) (.const (.bool true)) (.tmp 29)) none]
def r38_8 : List PS := [.mk (some 2) (.assign (.const (.int .i64 10))) none]
def r38_9 : List PS := [.mk (some 31) (.fieldAddr 76 (.tmp 5) 1) none,
  .mk (some 32) (.load 3 (.tmp 31)) none,
  .mk (some 3) (.assign (.tmp 32)) none]
def r38_10 : List PS := [.mk (some 33) (.binOp .add 3 (.tmp 11) (.const (.int .i64 1)) 3) none,
  .mk (some 11) (.move (.tmp 33)) none]
def r38_11 : List PS := [.mk (some 2) (.assign (.const (.int .i64 0))) none]
def c38 : PC := (.seq (.reg false r38_0) (.seq (.seq (.reg false r38_1) (.cond (.tmp 8) (.seq (.reg false r38_2) .ret) .skip)) (.seq (.reg false r38_3) (.seq (.seq (.reg false r38_4) (.block 0 (.loop (.seq (.reg false r38_5) (.seq (.cond (.tmp 12) .skip (.exit 0)) (.seq (.block 1 (.seq (.reg false r38_6) (.seq (.seq (.reg false r38_7) (.cond (.tmp 30) (.seq (.reg false r38_8) .ret) .skip)) (.reg false r38_9)))) (.reg false r38_10))))))) (.seq (.reg false r38_11) .ret)))))
theorem e38 {args : List PV} {h : Heap} {K : PV → Heap → Prop} (hl : args.length = 1) (s : pwp Try.prog [5] c38 (fin Try.prog [.tmp 2] h K) (slots0 (olds args)) h) : CanP Try.prog 38 args h K :=
  can_of2 (n := 34) mixed Try.func38 rfl (by kernel_rfl) (by rw [hl]; kernel_rfl) rfl (by kernel_rfl) s
/-! ### naskh.trie.even: function 46 -/
def r46_0 : List PS := [.mk (some 2) (.alloc 71) none]
def r46_1 : List PS := [.mk (some 3) (.alloc 71) none]
def r46_2 : List PS := [.mk (some 5) (.move (.const (.int .i64 0))) none]
def r46_3 : List PS := [.mk (some 6) (.binOp .lss 3 (.tmp 5) (.const (.int .i64 128)) 3) none]
def r46_4 : List PS := [.mk (some 7) (.move (.tmp 5)) none,
  .mk (some 4) (.assign (.tmp 7)) none]
def r46_5 : List PS := [.mk (some 8) (.move (.tmp 4)) none,
  .mk (some 9) (.move (.tmp 0)) none,
  .mk (some 10) (.indexAddr 71 (.tmp 3) (.tmp 8)) none,
  .mk none (.store 3 (.tmp 10) (.tmp 9)) none]
def r46_6 : List PS := [.mk (some 11) (.binOp .add 3 (.tmp 5) (.const (.int .i64 1)) 3) none,
  .mk (some 5) (.move (.tmp 11)) none]
def r46_7 : List PS := [.mk (some 12) (.load 71 (.tmp 3)) none,
  .mk none (.store 71 (.tmp 2) (.tmp 12)) none]
def c46 : PC := (.seq (.reg false r46_0) (.seq (.reg false r46_1) (.seq (.seq (.reg false r46_2) (.block 0 (.loop (.seq (.reg false r46_3) (.seq (.cond (.tmp 6) .skip (.exit 0)) (.seq (.block 1 (.seq (.reg false r46_4) (.reg false r46_5))) (.reg false r46_6))))))) (.seq (.reg false r46_7) .ret))))
theorem e46 {args : List PV} {h : Heap} {K : PV → Heap → Prop} (hl : args.length = 1) (s : pwp Try.prog [2, 3] c46 (fin Try.prog [.cell 2 71] h K) (slots0 (olds args)) h) : CanP Try.prog 46 args h K :=
  can_of2 (n := 13) mixed Try.func46 rfl (by kernel_rfl) (by rw [hl]; kernel_rfl) rfl (by kernel_rfl) s
/-! ### naskh.trie.filled: function 39 -/
def r39_0 : List PS := [.mk (some 8) (.alloc 71) none,
  .mk (some 9) (.assign (.const (.int .i64 0))) none]
def r39_1 : List PS := [.mk (some 14) (.move (.tmp 3)) none,
  .mk (some 15) (.call ⟨(.value (.func 46)), #[(.tmp 14)], #[3]⟩) none,
  .mk (some 10) (.alloc 71) none,
  .mk none (.store 71 (.tmp 10) (.tmp 15)) none]
def r39_2 : List PS := [.mk (some 16) (.move (.tmp 1)) none,
  .mk (some 17) (.binOp .mul 3 (.tmp 16) (.const (.int .i64 128)) 3) none,
  .mk (some 11) (.assign (.tmp 17)) none]
def r39_3 : List PS := [.mk (some 18) (.move (.tmp 2)) none,
  .mk (some 19) (.move (.tmp 0)) none,
  .mk (some 20) (.call ⟨(.builtin .len), #[(.tmp 19)], #[49]⟩) none,
  .mk (some 21) (.binOp .lss 3 (.tmp 18) (.tmp 20) 3) none,
  .mk (some 22) (.move (.tmp 21)) none,
  .mk (some 23) (.move (.tmp 0)) (some (22, true)),
  .mk (some 24) (.move (.tmp 2)) (some (22, true)),
  .mk (some 25) (.indexAddr 49 (.tmp 23) (.tmp 24)) (some (22, true)),
  .mk (some 26) (.fieldAddr 76 (.tmp 25) 0) (some (22, true)),
  .mk (some 27) (.load 3 (.tmp 26)) (some (22, true)),
  .mk (some 28) (.move (.tmp 11)) (some (22, true)),
  .mk (some 29) (.binOp .add 3 (.tmp 28) (.const (.int .i64 128)) 3) (some (22, true)),
  .mk (some 30) (.binOp .lss 3 (.tmp 27) (.tmp 29) 3) (some (22, true)),
  .mk (some 31) (.pick (.tmp 22) (.tmp 30) (.const (.bool false))) none]
def r39_4 : List PS := [.mk (some 34) (.move (.tmp 0)) none,
  .mk (some 35) (.move (.tmp 2)) none,
  .mk (some 36) (.indexAddr 49 (.tmp 34) (.tmp 35)) none,
  .mk (some 37) (.load 76 (.tmp 36)) none,
  .mk (some 12) (.alloc 76) none,
  .mk none (.store 76 (.tmp 12) (.tmp 37)) none,
  .frz 12]
def r39_5 : List PS := [.mk (some 38) (.fieldAddr 76 (.tmp 12) 0) none,
  .mk (some 39) (.load 3 (.tmp 38)) none,
  .mk (some 40) (.move (.tmp 11)) none,
  .mk (some 41) (.call ⟨(.builtin .max), #[(.tmp 39), (.tmp 40)], #[3, 3]⟩) none,
  .mk (some 13) (.assign (.tmp 41)) none]
def r39_6 : List PS := [.mk (some 42) (.move (.tmp 13)) none,
  .mk (some 43) (.fieldAddr 76 (.tmp 12) 1) none,
  .mk (some 44) (.load 3 (.tmp 43)) none,
  .mk (some 45) (.move (.tmp 11)) none,
  .mk (some 46) (.binOp .add 3 (.tmp 45) (.const (.int .i64 128)) 3) none,
  .mk (some 47) (.binOp .sub 3 (.tmp 46) (.const (.int .i64 1)) 3) none,
  .mk (some 48) (.call ⟨(.builtin .min), #[(.tmp 44), (.tmp 47)], #[3, 3]⟩) none,
  .mk (some 49) (.binOp .leq 3 (.tmp 42) (.tmp 48) 3) none]
def r39_7 : List PS := [.mk (some 52) (.move (.tmp 13)) none,
  .mk (some 53) (.move (.tmp 11)) none,
  .mk (some 54) (.binOp .sub 3 (.tmp 52) (.tmp 53) 3) none,
  .mk (some 55) (.fieldAddr 76 (.tmp 12) 2) none,
  .mk (some 56) (.load 3 (.tmp 55)) none,
  .mk (some 57) (.indexAddr 71 (.tmp 10) (.tmp 54)) none,
  .mk none (.store 3 (.tmp 57) (.tmp 56)) none]
def r39_8 : List PS := [.mk (some 50) (.move (.tmp 13)) none,
  .mk (some 51) (.binOp .add 3 (.tmp 50) (.const (.int .i64 1)) 3) none,
  .mk (some 13) (.assign (.tmp 51)) none]
def r39_9 : List PS := [.mk (some 58) (.fieldAddr 76 (.tmp 12) 1) none,
  .mk (some 59) (.load 3 (.tmp 58)) none,
  .mk (some 60) (.move (.tmp 11)) none,
  .mk (some 61) (.binOp .add 3 (.tmp 60) (.const (.int .i64 128)) 3) none,
  .mk (some 62) (.binOp .geq 3 (.tmp 59) (.tmp 61) 3) none]
def r39_10 : List PS := [.mk (some 32) (.move (.tmp 2)) none,
  .mk (some 33) (.binOp .add 3 (.tmp 32) (.const (.int .i64 1)) 3) none,
  .mk (some 2) (.assign (.tmp 33)) none]
def r39_11 : List PS := [.mk (some 63) (.load 71 (.tmp 10)) none,
  .mk (some 64) (.move (.tmp 2)) none,
  .mk none (.store 71 (.tmp 8) (.tmp 63)) none,
  .mk (some 9) (.assign (.tmp 64)) none]
def c39 : PC := (.seq (.reg false r39_0) (.seq (.reg false r39_1) (.seq (.reg false r39_2) (.seq (.block 0 (.loop (.seq (.seq (.reg false r39_3) (.cond (.tmp 31) .skip (.exit 0))) (.seq (.block 1 (.seq (.reg false r39_4) (.seq (.seq (.reg false r39_5) (.block 2 (.loop (.seq (.seq (.reg false r39_6) (.cond (.tmp 49) .skip (.exit 2))) (.seq (.block 3 (.reg false r39_7)) (.reg false r39_8)))))) (.seq (.reg false r39_9) (.cond (.tmp 62) (.exit 0) .skip))))) (.reg false r39_10))))) (.seq (.reg false r39_11) .ret)))))
theorem e39 {args : List PV} {h : Heap} {K : PV → Heap → Prop} (hl : args.length = 4) (s : pwp Try.prog [8, 10, 12] c39 (fin Try.prog [.cell 8 71, .tmp 9] h K) (slots0 (olds args)) h) : CanP Try.prog 39 args h K :=
  can_of2 (n := 65) mixed Try.func39 rfl (by kernel_rfl) (by rw [hl]; kernel_rfl) rfl (by kernel_rfl) s
/-! ### (*naskh.trie.stages).add: function 40 -/
def r40_0 : List PS := [.mk (some 3) (.box 71 (.tmp 1)) none,
  .mk (some 4) (.assign (.const (.int .i64 0))) none]
def r40_1 : List PS := [.mk (some 6) (.move (.tmp 0)) none,
  .mk (some 7) (.nilCheck (.tmp 6)) none,
  .mk (some 8) (.fieldAddr 67 (.tmp 7) 1) none,
  .mk (some 9) (.load 65 (.tmp 8)) none,
  .mk (some 10) (.call ⟨(.builtin .len), #[(.tmp 9)], #[65]⟩) none,
  .mk (some 11) (.move (.const (.int .i64 0))) none]
def r40_2 : List PS := [.mk (some 12) (.binOp .lss 3 (.tmp 11) (.tmp 10) 3) none]
def r40_3 : List PS := [.mk (some 13) (.move (.tmp 11)) none,
  .mk (some 5) (.assign (.tmp 13)) none]
def r40_4 : List PS := [.mk (some 14) (.move (.tmp 0)) none,
  .mk (some 15) (.nilCheck (.tmp 14)) none,
  .mk (some 16) (.fieldAddr 67 (.tmp 15) 1) none,
  .mk (some 17) (.load 65 (.tmp 16)) none,
  .mk (some 18) (.move (.tmp 5)) none,
  .mk (some 19) (.indexAddr 65 (.tmp 17) (.tmp 18)) none,
  .mk (some 20) (.load 71 (.tmp 19)) none,
  .mk (some 21) (.load 71 (.tmp 3)) none,
  .mk (some 22) (.binOp .eql 71 (.tmp 20) (.tmp 21) 71) none]
def r40_5 : List PS := [.mk (some 23) (.move (.tmp 5)) none,
  .mk (some 4) (.assign (.tmp 23)) none]
def r40_6 : List PS := [.mk (some 24) (.binOp .add 3 (.tmp 11) (.const (.int .i64 1)) 3) none,
  .mk (some 11) (.move (.tmp 24)) none]
def r40_7 : List PS := [.mk (some 25) (.move (.tmp 0)) none,
  .mk (some 26) (.move (.tmp 0)) none,
  .mk (some 27) (.nilCheck (.tmp 26)) none,
  .mk (some 28) (.fieldAddr 67 (.tmp 27) 1) none,
  .mk (some 29) (.load 65 (.tmp 28)) none,
  .mk (some 30) (.load 71 (.tmp 3)) none,
  .mk (some 31) (.buildSlice 65 1 #[(0, (.tmp 30))]) none,
  .mk (some 32) (.call ⟨(.builtin .append), #[(.tmp 29), (.tmp 31)], #[65, 65]⟩) none,
  .mk (some 33) (.nilCheck (.tmp 25)) none,
  .mk (some 34) (.fieldAddr 67 (.tmp 33) 1) none,
  .mk none (.store 65 (.tmp 34) (.tmp 32)) none]
def r40_8 : List PS := [.mk (some 35) (.move (.tmp 0)) none,
  .mk (some 36) (.nilCheck (.tmp 35)) none,
  .mk (some 37) (.fieldAddr 67 (.tmp 36) 1) none,
  .mk (some 38) (.load 65 (.tmp 37)) none,
  .mk (some 39) (.call ⟨(.builtin .len), #[(.tmp 38)], #[65]⟩) none,
  .mk (some 40) (.binOp .sub 3 (.tmp 39) (.const (.int .i64 1)) 3) none,
  .mk (some 4) (.assign (.tmp 40)) none]
def c40 : PC := (.seq (.reg false r40_0) (.seq (.seq (.reg false r40_1) (.block 0 (.loop (.seq (.reg false r40_2) (.seq (.cond (.tmp 12) .skip (.exit 0)) (.seq (.block 1 (.seq (.reg false r40_3) (.seq (.reg true r40_4) (.cond (.tmp 22) (.seq (.reg false r40_5) .ret) .skip)))) (.reg false r40_6))))))) (.seq (.reg true r40_7) (.seq (.reg false r40_8) .ret))))
theorem e40 {args : List PV} {h : Heap} {K : PV → Heap → Prop} (hl : args.length = 2) (s : pwp Try.prog [] c40 (fin Try.prog [.tmp 4] h K) (slots0 (olds args)) h) : CanP Try.prog 40 args h K :=
  can_of2 (n := 41) mixed Try.func40 rfl (by kernel_rfl) (by rw [hl]; kernel_rfl) rfl (by kernel_rfl) s
/-! ### naskh.trie.Build: function 27 -/
def r27_0 : List PS := [.mk (some 4) (.assign (.const (.pointer none))) none,
  .mk (some 5) (.assign (.const (.int .i64 0))) none]
def r27_1 : List PS := [.mk (some 13) (.move (.tmp 0)) none,
  .mk (some 14) (.call ⟨(.value (.func 38)), #[(.tmp 13)], #[49]⟩) none,
  .mk (some 6) (.assign (.tmp 14)) none]
def r27_2 : List PS := [.mk (some 15) (.move (.tmp 6)) none,
  .mk (some 16) (.binOp .neq 46 (.tmp 15) (.const (.int .i64 0)) 46) none]
def r27_3 : List PS := [.mk (some 17) (.move (.tmp 6)) none,
  .mk (some 4) (.assign (.const (.pointer none))) none,
  .mk (some 5) (.assign (.tmp 17)) none]
def r27_4 : List PS := [.mk (some 18) (.move (.tmp 1)) none,
  .mk (some 19) (.build 69 #[(1, (.tmp 18)), (2, (.const (.bool true)))]) none,
  .mk (some 20) (.box 69 (.tmp 19)) none,
  .mk (some 7) (.assign (.tmp 20)) none]
def r27_5 : List PS := [.mk (some 21) (.move (.tmp 7)) none,
  .mk (some 22) (.makeSlice 22 (.const (.int .i64 8704)) (.const (.int .i64 8704))) none,
  .mk (some 23) (.nilCheck (.tmp 21)) none,
  .mk (some 24) (.fieldAddr 69 (.tmp 23) 0) none,
  .mk (some 25) (.fieldAddr 67 (.tmp 24) 0) none,
  .mk none (.store 22 (.tmp 25) (.tmp 22)) none]
def r27_6 : List PS := [.mk (some 8) (.assign (.const (.int .i64 0))) none]
def r27_7 : List PS := [.mk (some 26) (.build 71 #[]) none,
  .mk (some 9) (.alloc 71) none,
  .mk none (.store 71 (.tmp 9) (.tmp 26)) none,
  .mk (some 10) (.assign (.const (.int .i64 (-1)))) none]
def r27_8 : List PS := [.mk (some 27) (.move (.const (.int .i64 0))) none]
def r27_9 : List PS := [.mk (some 28) (.binOp .lss 3 (.tmp 27) (.const (.int .i64 8704)) 3) none]
def r27_10 : List PS := [.mk (some 29) (.move (.tmp 27)) none,
  .mk (some 11) (.assign (.tmp 29)) none]
def r27_11 : List PS := [.mk (some 12) (.alloc 71) none]
def r27_12 : List PS := [.mk (some 31) (.move (.tmp 0)) none,
  .mk (some 32) (.move (.tmp 11)) none,
  .mk (some 33) (.move (.tmp 8)) none,
  .mk (some 34) (.move (.tmp 1)) none,
  .mk (some 35) (.call ⟨(.value (.func 39)), #[(.tmp 31), (.tmp 32), (.tmp 33), (.tmp 34)], #[49, 3, 3, 3]⟩) none,
  .mk (some 30) (.move (.tmp 35)) none,
  .mk (some 36) (.extract (.tmp 30) 0) none,
  .mk (some 37) (.extract (.tmp 30) 1) none,
  .mk none (.store 71 (.tmp 12) (.tmp 36)) none,
  .frz 12,
  .mk (some 8) (.assign (.tmp 37)) none]
def r27_13 : List PS := [.mk (some 38) (.move (.tmp 10)) none,
  .mk (some 39) (.binOp .lss 3 (.tmp 38) (.const (.int .i64 0)) 3) none,
  .mk (some 40) (.move (.tmp 39)) none,
  .mk (some 41) (.load 71 (.tmp 12)) (some (40, false)),
  .mk (some 42) (.load 71 (.tmp 9)) (some (40, false)),
  .mk (some 43) (.binOp .neq 71 (.tmp 41) (.tmp 42) 71) (some (40, false)),
  .mk (some 44) (.pick (.tmp 40) (.const (.bool true)) (.tmp 43)) none]
def r27_14 : List PS := [.mk (some 45) (.load 71 (.tmp 12)) none,
  .mk (some 46) (.move (.tmp 7)) none,
  .mk (some 47) (.nilCheck (.tmp 46)) none,
  .mk (some 48) (.fieldAddr 69 (.tmp 47) 0) none,
  .mk (some 49) (.load 71 (.tmp 12)) none,
  .mk (some 50) (.call ⟨(.value (.func 40)), #[(.tmp 48), (.tmp 49)], #[67, 71]⟩) none,
  .mk none (.store 71 (.tmp 9) (.tmp 45)) none,
  .mk (some 10) (.assign (.tmp 50)) none]
def r27_15 : List PS := [.mk (some 51) (.move (.tmp 7)) none,
  .mk (some 52) (.nilCheck (.tmp 51)) none,
  .mk (some 53) (.fieldAddr 69 (.tmp 52) 0) none,
  .mk (some 54) (.fieldAddr 67 (.tmp 53) 0) none,
  .mk (some 55) (.load 22 (.tmp 54)) none,
  .mk (some 56) (.move (.tmp 11)) none,
  .mk (some 57) (.move (.tmp 10)) none,
  .mk (some 58) (.indexAddr 22 (.tmp 55) (.tmp 56)) none,
  .mk none (.store 3 (.tmp 58) (.tmp 57)) none]
def r27_16 : List PS := [.mk (some 59) (.binOp .add 3 (.tmp 27) (.const (.int .i64 1)) 3) none,
  .mk (some 27) (.move (.tmp 59)) none]
def r27_17 : List PS := [.frzc 7 0,
  .frzc 7 1,
  .mk (some 60) (.move (.tmp 7)) none,
  .mk (some 4) (.assign (.tmp 60)) none,
  .mk (some 5) (.assign (.const (.int .i64 0))) none]
def c27 : PC := (.seq (.reg false r27_0) (.seq (.seq (.reg false r27_1) (.seq (.reg false r27_2) (.cond (.tmp 16) (.seq (.reg false r27_3) .ret) .skip))) (.seq (.reg false r27_4) (.seq (.reg false r27_5) (.seq (.reg false r27_6) (.seq (.reg false r27_7) (.seq (.seq (.reg false r27_8) (.block 0 (.loop (.seq (.reg false r27_9) (.seq (.cond (.tmp 28) .skip (.exit 0)) (.seq (.block 1 (.seq (.reg false r27_10) (.seq (.reg false r27_11) (.seq (.reg false r27_12) (.seq (.seq (.reg false r27_13) (.cond (.tmp 44) (.reg true r27_14) .skip)) (.reg false r27_15)))))) (.reg false r27_16))))))) (.seq (.reg false r27_17) .ret))))))))
theorem e27 {args : List PV} {h : Heap} {K : PV → Heap → Prop} (hl : args.length = 2) (s : pwp Try.prog [9, 12, 20, 45, 50] c27 (fin Try.prog [.tmp 4, .tmp 5] h K) (slots0 (olds args)) h) : CanP Try.prog 27 args h K :=
  can_of2 (n := 61) mixed Try.func27 rfl (by kernel_rfl) (by rw [hl]; kernel_rfl) rfl (by kernel_rfl) s
/-! ### naskh.api.BidiRanges: function 28 -/
def r28_0 : List PS := [.mk (some 0) (.assign (.const (.slice none 0 0))) none]
def r28_1 : List PS := [.mk (some 1) (.build 76 #[(0, (.const (.int .i64 0))), (1, (.const (.int .i64 8))), (2, (.const (.int .i64 9)))]) none,
  .mk (some 2) (.build 76 #[(0, (.const (.int .i64 9))), (1, (.const (.int .i64 9))), (2, (.const (.int .i64 11)))]) none,
  .mk (some 3) (.build 76 #[(0, (.const (.int .i64 10))), (1, (.const (.int .i64 10))), (2, (.const (.int .i64 10)))]) none,
  .mk (some 4) (.build 76 #[(0, (.const (.int .i64 11))), (1, (.const (.int .i64 11))), (2, (.const (.int .i64 11)))]) none,
  .mk (some 5) (.build 76 #[(0, (.const (.int .i64 12))), (1, (.const (.int .i64 12))), (2, (.const (.int .i64 12)))]) none,
  .mk (some 6) (.build 76 #[(0, (.const (.int .i64 13))), (1, (.const (.int .i64 13))), (2, (.const (.int .i64 10)))]) none,
  .mk (some 7) (.build 76 #[(0, (.const (.int .i64 14))), (1, (.const (.int .i64 27))), (2, (.const (.int .i64 9)))]) none,
  .mk (some 8) (.build 76 #[(0, (.const (.int .i64 28))), (1, (.const (.int .i64 30))), (2, (.const (.int .i64 10)))]) none,
  .mk (some 9) (.build 76 #[(0, (.const (.int .i64 31))), (1, (.const (.int .i64 31))), (2, (.const (.int .i64 11)))]) none,
  .mk (some 10) (.build 76 #[(0, (.const (.int .i64 32))), (1, (.const (.int .i64 32))), (2, (.const (.int .i64 12)))]) none,
  .mk (some 11) (.build 76 #[(0, (.const (.int .i64 33))), (1, (.const (.int .i64 34))), (2, (.const (.int .i64 13)))]) none,
  .mk (some 12) (.build 76 #[(0, (.const (.int .i64 35))), (1, (.const (.int .i64 37))), (2, (.const (.int .i64 5)))]) none,
  .mk (some 13) (.build 76 #[(0, (.const (.int .i64 38))), (1, (.const (.int .i64 42))), (2, (.const (.int .i64 13)))]) none,
  .mk (some 14) (.build 76 #[(0, (.const (.int .i64 43))), (1, (.const (.int .i64 43))), (2, (.const (.int .i64 4)))]) none,
  .mk (some 15) (.build 76 #[(0, (.const (.int .i64 44))), (1, (.const (.int .i64 44))), (2, (.const (.int .i64 7)))]) none,
  .mk (some 16) (.build 76 #[(0, (.const (.int .i64 45))), (1, (.const (.int .i64 45))), (2, (.const (.int .i64 4)))]) none,
  .mk (some 17) (.build 76 #[(0, (.const (.int .i64 46))), (1, (.const (.int .i64 47))), (2, (.const (.int .i64 7)))]) none,
  .mk (some 18) (.build 76 #[(0, (.const (.int .i64 48))), (1, (.const (.int .i64 57))), (2, (.const (.int .i64 3)))]) none,
  .mk (some 19) (.build 76 #[(0, (.const (.int .i64 58))), (1, (.const (.int .i64 58))), (2, (.const (.int .i64 7)))]) none,
  .mk (some 20) (.build 76 #[(0, (.const (.int .i64 59))), (1, (.const (.int .i64 64))), (2, (.const (.int .i64 13)))]) none,
  .mk (some 21) (.build 76 #[(0, (.const (.int .i64 91))), (1, (.const (.int .i64 96))), (2, (.const (.int .i64 13)))]) none,
  .mk (some 22) (.build 76 #[(0, (.const (.int .i64 123))), (1, (.const (.int .i64 126))), (2, (.const (.int .i64 13)))]) none,
  .mk (some 23) (.build 76 #[(0, (.const (.int .i64 127))), (1, (.const (.int .i64 132))), (2, (.const (.int .i64 9)))]) none,
  .mk (some 24) (.build 76 #[(0, (.const (.int .i64 133))), (1, (.const (.int .i64 133))), (2, (.const (.int .i64 10)))]) none,
  .mk (some 25) (.build 76 #[(0, (.const (.int .i64 134))), (1, (.const (.int .i64 159))), (2, (.const (.int .i64 9)))]) none,
  .mk (some 26) (.build 76 #[(0, (.const (.int .i64 160))), (1, (.const (.int .i64 160))), (2, (.const (.int .i64 7)))]) none,
  .mk (some 27) (.build 76 #[(0, (.const (.int .i64 161))), (1, (.const (.int .i64 161))), (2, (.const (.int .i64 13)))]) none,
  .mk (some 28) (.build 76 #[(0, (.const (.int .i64 162))), (1, (.const (.int .i64 165))), (2, (.const (.int .i64 5)))]) none,
  .mk (some 29) (.build 76 #[(0, (.const (.int .i64 166))), (1, (.const (.int .i64 169))), (2, (.const (.int .i64 13)))]) none,
  .mk (some 30) (.build 76 #[(0, (.const (.int .i64 171))), (1, (.const (.int .i64 172))), (2, (.const (.int .i64 13)))]) none,
  .mk (some 31) (.build 76 #[(0, (.const (.int .i64 173))), (1, (.const (.int .i64 173))), (2, (.const (.int .i64 9)))]) none,
  .mk (some 32) (.build 76 #[(0, (.const (.int .i64 174))), (1, (.const (.int .i64 175))), (2, (.const (.int .i64 13)))]) none,
  .mk (some 33) (.build 76 #[(0, (.const (.int .i64 176))), (1, (.const (.int .i64 177))), (2, (.const (.int .i64 5)))]) none,
  .mk (some 34) (.build 76 #[(0, (.const (.int .i64 178))), (1, (.const (.int .i64 179))), (2, (.const (.int .i64 3)))]) none,
  .mk (some 35) (.build 76 #[(0, (.const (.int .i64 180))), (1, (.const (.int .i64 180))), (2, (.const (.int .i64 13)))]) none,
  .mk (some 36) (.build 76 #[(0, (.const (.int .i64 182))), (1, (.const (.int .i64 184))), (2, (.const (.int .i64 13)))]) none,
  .mk (some 37) (.build 76 #[(0, (.const (.int .i64 185))), (1, (.const (.int .i64 185))), (2, (.const (.int .i64 3)))]) none,
  .mk (some 38) (.build 76 #[(0, (.const (.int .i64 187))), (1, (.const (.int .i64 191))), (2, (.const (.int .i64 13)))]) none,
  .mk (some 39) (.build 76 #[(0, (.const (.int .i64 215))), (1, (.const (.int .i64 215))), (2, (.const (.int .i64 13)))]) none,
  .mk (some 40) (.build 76 #[(0, (.const (.int .i64 247))), (1, (.const (.int .i64 247))), (2, (.const (.int .i64 13)))]) none,
  .mk (some 41) (.build 76 #[(0, (.const (.int .i64 697))), (1, (.const (.int .i64 698))), (2, (.const (.int .i64 13)))]) none,
  .mk (some 42) (.build 76 #[(0, (.const (.int .i64 706))), (1, (.const (.int .i64 719))), (2, (.const (.int .i64 13)))]) none,
  .mk (some 43) (.build 76 #[(0, (.const (.int .i64 722))), (1, (.const (.int .i64 735))), (2, (.const (.int .i64 13)))]) none,
  .mk (some 44) (.build 76 #[(0, (.const (.int .i64 768))), (1, (.const (.int .i64 879))), (2, (.const (.int .i64 8)))]) none,
  .mk (some 45) (.build 76 #[(0, (.const (.int .i64 1424))), (1, (.const (.int .i64 1424))), (2, (.const (.int .i64 1)))]) none,
  .mk (some 46) (.build 76 #[(0, (.const (.int .i64 1425))), (1, (.const (.int .i64 1469))), (2, (.const (.int .i64 8)))]) none,
  .mk (some 47) (.build 76 #[(0, (.const (.int .i64 1470))), (1, (.const (.int .i64 1470))), (2, (.const (.int .i64 1)))]) none,
  .mk (some 48) (.build 76 #[(0, (.const (.int .i64 1471))), (1, (.const (.int .i64 1471))), (2, (.const (.int .i64 8)))]) none,
  .mk (some 49) (.build 76 #[(0, (.const (.int .i64 1472))), (1, (.const (.int .i64 1472))), (2, (.const (.int .i64 1)))]) none,
  .mk (some 50) (.build 76 #[(0, (.const (.int .i64 1473))), (1, (.const (.int .i64 1474))), (2, (.const (.int .i64 8)))]) none,
  .mk (some 51) (.build 76 #[(0, (.const (.int .i64 1475))), (1, (.const (.int .i64 1475))), (2, (.const (.int .i64 1)))]) none,
  .mk (some 52) (.build 76 #[(0, (.const (.int .i64 1476))), (1, (.const (.int .i64 1477))), (2, (.const (.int .i64 8)))]) none,
  .mk (some 53) (.build 76 #[(0, (.const (.int .i64 1478))), (1, (.const (.int .i64 1478))), (2, (.const (.int .i64 1)))]) none,
  .mk (some 54) (.build 76 #[(0, (.const (.int .i64 1479))), (1, (.const (.int .i64 1479))), (2, (.const (.int .i64 8)))]) none,
  .mk (some 55) (.build 76 #[(0, (.const (.int .i64 1480))), (1, (.const (.int .i64 1535))), (2, (.const (.int .i64 1)))]) none,
  .mk (some 56) (.build 76 #[(0, (.const (.int .i64 1536))), (1, (.const (.int .i64 1541))), (2, (.const (.int .i64 6)))]) none,
  .mk (some 57) (.build 76 #[(0, (.const (.int .i64 1542))), (1, (.const (.int .i64 1543))), (2, (.const (.int .i64 13)))]) none,
  .mk (some 58) (.build 76 #[(0, (.const (.int .i64 1544))), (1, (.const (.int .i64 1544))), (2, (.const (.int .i64 2)))]) none,
  .mk (some 59) (.build 76 #[(0, (.const (.int .i64 1545))), (1, (.const (.int .i64 1546))), (2, (.const (.int .i64 5)))]) none,
  .mk (some 60) (.build 76 #[(0, (.const (.int .i64 1547))), (1, (.const (.int .i64 1547))), (2, (.const (.int .i64 2)))]) none,
  .mk (some 61) (.build 76 #[(0, (.const (.int .i64 1548))), (1, (.const (.int .i64 1548))), (2, (.const (.int .i64 7)))]) none,
  .mk (some 62) (.build 76 #[(0, (.const (.int .i64 1549))), (1, (.const (.int .i64 1549))), (2, (.const (.int .i64 2)))]) none,
  .mk (some 63) (.build 76 #[(0, (.const (.int .i64 1550))), (1, (.const (.int .i64 1551))), (2, (.const (.int .i64 13)))]) none,
  .mk (some 64) (.build 76 #[(0, (.const (.int .i64 1552))), (1, (.const (.int .i64 1562))), (2, (.const (.int .i64 8)))]) none,
  .mk (some 65) (.build 76 #[(0, (.const (.int .i64 1563))), (1, (.const (.int .i64 1610))), (2, (.const (.int .i64 2)))]) none,
  .mk (some 66) (.build 76 #[(0, (.const (.int .i64 1611))), (1, (.const (.int .i64 1631))), (2, (.const (.int .i64 8)))]) none,
  .mk (some 67) (.build 76 #[(0, (.const (.int .i64 1632))), (1, (.const (.int .i64 1641))), (2, (.const (.int .i64 6)))]) none,
  .mk (some 68) (.build 76 #[(0, (.const (.int .i64 1642))), (1, (.const (.int .i64 1642))), (2, (.const (.int .i64 5)))]) none,
  .mk (some 69) (.build 76 #[(0, (.const (.int .i64 1643))), (1, (.const (.int .i64 1644))), (2, (.const (.int .i64 6)))]) none,
  .mk (some 70) (.build 76 #[(0, (.const (.int .i64 1645))), (1, (.const (.int .i64 1647))), (2, (.const (.int .i64 2)))]) none,
  .mk (some 71) (.build 76 #[(0, (.const (.int .i64 1648))), (1, (.const (.int .i64 1648))), (2, (.const (.int .i64 8)))]) none,
  .mk (some 72) (.build 76 #[(0, (.const (.int .i64 1649))), (1, (.const (.int .i64 1749))), (2, (.const (.int .i64 2)))]) none,
  .mk (some 73) (.build 76 #[(0, (.const (.int .i64 1750))), (1, (.const (.int .i64 1756))), (2, (.const (.int .i64 8)))]) none,
  .mk (some 74) (.build 76 #[(0, (.const (.int .i64 1757))), (1, (.const (.int .i64 1757))), (2, (.const (.int .i64 6)))]) none,
  .mk (some 75) (.build 76 #[(0, (.const (.int .i64 1758))), (1, (.const (.int .i64 1758))), (2, (.const (.int .i64 13)))]) none,
  .mk (some 76) (.build 76 #[(0, (.const (.int .i64 1759))), (1, (.const (.int .i64 1764))), (2, (.const (.int .i64 8)))]) none,
  .mk (some 77) (.build 76 #[(0, (.const (.int .i64 1765))), (1, (.const (.int .i64 1766))), (2, (.const (.int .i64 2)))]) none,
  .mk (some 78) (.build 76 #[(0, (.const (.int .i64 1767))), (1, (.const (.int .i64 1768))), (2, (.const (.int .i64 8)))]) none,
  .mk (some 79) (.build 76 #[(0, (.const (.int .i64 1769))), (1, (.const (.int .i64 1769))), (2, (.const (.int .i64 13)))]) none,
  .mk (some 80) (.build 76 #[(0, (.const (.int .i64 1770))), (1, (.const (.int .i64 1773))), (2, (.const (.int .i64 8)))]) none,
  .mk (some 81) (.build 76 #[(0, (.const (.int .i64 1774))), (1, (.const (.int .i64 1775))), (2, (.const (.int .i64 2)))]) none,
  .mk (some 82) (.build 76 #[(0, (.const (.int .i64 1776))), (1, (.const (.int .i64 1785))), (2, (.const (.int .i64 3)))]) none,
  .mk (some 83) (.build 76 #[(0, (.const (.int .i64 1786))), (1, (.const (.int .i64 1808))), (2, (.const (.int .i64 2)))]) none,
  .mk (some 84) (.build 76 #[(0, (.const (.int .i64 1809))), (1, (.const (.int .i64 1809))), (2, (.const (.int .i64 8)))]) none,
  .mk (some 85) (.build 76 #[(0, (.const (.int .i64 1810))), (1, (.const (.int .i64 1839))), (2, (.const (.int .i64 2)))]) none,
  .mk (some 86) (.build 76 #[(0, (.const (.int .i64 1840))), (1, (.const (.int .i64 1866))), (2, (.const (.int .i64 8)))]) none,
  .mk (some 87) (.build 76 #[(0, (.const (.int .i64 1867))), (1, (.const (.int .i64 1957))), (2, (.const (.int .i64 2)))]) none,
  .mk (some 88) (.build 76 #[(0, (.const (.int .i64 1958))), (1, (.const (.int .i64 1968))), (2, (.const (.int .i64 8)))]) none,
  .mk (some 89) (.build 76 #[(0, (.const (.int .i64 1969))), (1, (.const (.int .i64 1983))), (2, (.const (.int .i64 2)))]) none,
  .mk (some 90) (.build 76 #[(0, (.const (.int .i64 1984))), (1, (.const (.int .i64 2026))), (2, (.const (.int .i64 1)))]) none,
  .mk (some 91) (.build 76 #[(0, (.const (.int .i64 2027))), (1, (.const (.int .i64 2035))), (2, (.const (.int .i64 8)))]) none,
  .mk (some 92) (.build 76 #[(0, (.const (.int .i64 2036))), (1, (.const (.int .i64 2037))), (2, (.const (.int .i64 1)))]) none,
  .mk (some 93) (.build 76 #[(0, (.const (.int .i64 2038))), (1, (.const (.int .i64 2041))), (2, (.const (.int .i64 13)))]) none,
  .mk (some 94) (.build 76 #[(0, (.const (.int .i64 2042))), (1, (.const (.int .i64 2044))), (2, (.const (.int .i64 1)))]) none,
  .mk (some 95) (.build 76 #[(0, (.const (.int .i64 2045))), (1, (.const (.int .i64 2045))), (2, (.const (.int .i64 8)))]) none,
  .mk (some 96) (.build 76 #[(0, (.const (.int .i64 2046))), (1, (.const (.int .i64 2069))), (2, (.const (.int .i64 1)))]) none,
  .mk (some 97) (.build 76 #[(0, (.const (.int .i64 2070))), (1, (.const (.int .i64 2073))), (2, (.const (.int .i64 8)))]) none,
  .mk (some 98) (.build 76 #[(0, (.const (.int .i64 2074))), (1, (.const (.int .i64 2074))), (2, (.const (.int .i64 1)))]) none,
  .mk (some 99) (.build 76 #[(0, (.const (.int .i64 2075))), (1, (.const (.int .i64 2083))), (2, (.const (.int .i64 8)))]) none,
  .mk (some 100) (.build 76 #[(0, (.const (.int .i64 2084))), (1, (.const (.int .i64 2084))), (2, (.const (.int .i64 1)))]) none,
  .mk (some 101) (.build 76 #[(0, (.const (.int .i64 2085))), (1, (.const (.int .i64 2087))), (2, (.const (.int .i64 8)))]) none,
  .mk (some 102) (.build 76 #[(0, (.const (.int .i64 2088))), (1, (.const (.int .i64 2088))), (2, (.const (.int .i64 1)))]) none,
  .mk (some 103) (.build 76 #[(0, (.const (.int .i64 2089))), (1, (.const (.int .i64 2093))), (2, (.const (.int .i64 8)))]) none,
  .mk (some 104) (.build 76 #[(0, (.const (.int .i64 2094))), (1, (.const (.int .i64 2136))), (2, (.const (.int .i64 1)))]) none,
  .mk (some 105) (.build 76 #[(0, (.const (.int .i64 2137))), (1, (.const (.int .i64 2139))), (2, (.const (.int .i64 8)))]) none,
  .mk (some 106) (.build 76 #[(0, (.const (.int .i64 2140))), (1, (.const (.int .i64 2143))), (2, (.const (.int .i64 1)))]) none,
  .mk (some 107) (.build 76 #[(0, (.const (.int .i64 2144))), (1, (.const (.int .i64 2191))), (2, (.const (.int .i64 2)))]) none,
  .mk (some 108) (.build 76 #[(0, (.const (.int .i64 2192))), (1, (.const (.int .i64 2193))), (2, (.const (.int .i64 6)))]) none,
  .mk (some 109) (.build 76 #[(0, (.const (.int .i64 2194))), (1, (.const (.int .i64 2199))), (2, (.const (.int .i64 2)))]) none,
  .mk (some 110) (.build 76 #[(0, (.const (.int .i64 2200))), (1, (.const (.int .i64 2207))), (2, (.const (.int .i64 8)))]) none,
  .mk (some 111) (.build 76 #[(0, (.const (.int .i64 2208))), (1, (.const (.int .i64 2249))), (2, (.const (.int .i64 2)))]) none,
  .mk (some 112) (.build 76 #[(0, (.const (.int .i64 2250))), (1, (.const (.int .i64 2273))), (2, (.const (.int .i64 8)))]) none,
  .mk (some 113) (.build 76 #[(0, (.const (.int .i64 2274))), (1, (.const (.int .i64 2274))), (2, (.const (.int .i64 6)))]) none,
  .mk (some 114) (.build 76 #[(0, (.const (.int .i64 2275))), (1, (.const (.int .i64 2306))), (2, (.const (.int .i64 8)))]) none,
  .mk (some 115) (.build 76 #[(0, (.const (.int .i64 8192))), (1, (.const (.int .i64 8202))), (2, (.const (.int .i64 12)))]) none,
  .mk (some 116) (.build 76 #[(0, (.const (.int .i64 8203))), (1, (.const (.int .i64 8205))), (2, (.const (.int .i64 9)))]) none,
  .mk (some 117) (.build 76 #[(0, (.const (.int .i64 8207))), (1, (.const (.int .i64 8207))), (2, (.const (.int .i64 1)))]) none,
  .mk (some 118) (.build 76 #[(0, (.const (.int .i64 8208))), (1, (.const (.int .i64 8231))), (2, (.const (.int .i64 13)))]) none,
  .mk (some 119) (.build 76 #[(0, (.const (.int .i64 8232))), (1, (.const (.int .i64 8232))), (2, (.const (.int .i64 12)))]) none,
  .mk (some 120) (.build 76 #[(0, (.const (.int .i64 8233))), (1, (.const (.int .i64 8233))), (2, (.const (.int .i64 10)))]) none,
  .mk (some 121) (.build 76 #[(0, (.const (.int .i64 8234))), (1, (.const (.int .i64 8234))), (2, (.const (.int .i64 14)))]) none,
  .mk (some 122) (.build 76 #[(0, (.const (.int .i64 8235))), (1, (.const (.int .i64 8235))), (2, (.const (.int .i64 16)))]) none,
  .mk (some 123) (.build 76 #[(0, (.const (.int .i64 8236))), (1, (.const (.int .i64 8236))), (2, (.const (.int .i64 18)))]) none,
  .mk (some 124) (.build 76 #[(0, (.const (.int .i64 8237))), (1, (.const (.int .i64 8237))), (2, (.const (.int .i64 15)))]) none,
  .mk (some 125) (.build 76 #[(0, (.const (.int .i64 8238))), (1, (.const (.int .i64 8238))), (2, (.const (.int .i64 17)))]) none,
  .mk (some 126) (.build 76 #[(0, (.const (.int .i64 8239))), (1, (.const (.int .i64 8239))), (2, (.const (.int .i64 7)))]) none,
  .mk (some 127) (.build 76 #[(0, (.const (.int .i64 8240))), (1, (.const (.int .i64 8244))), (2, (.const (.int .i64 5)))]) none,
  .mk (some 128) (.build 76 #[(0, (.const (.int .i64 8245))), (1, (.const (.int .i64 8259))), (2, (.const (.int .i64 13)))]) none,
  .mk (some 129) (.build 76 #[(0, (.const (.int .i64 8260))), (1, (.const (.int .i64 8260))), (2, (.const (.int .i64 7)))]) none,
  .mk (some 130) (.build 76 #[(0, (.const (.int .i64 8261))), (1, (.const (.int .i64 8286))), (2, (.const (.int .i64 13)))]) none,
  .mk (some 131) (.build 76 #[(0, (.const (.int .i64 8287))), (1, (.const (.int .i64 8287))), (2, (.const (.int .i64 12)))]) none,
  .mk (some 132) (.build 76 #[(0, (.const (.int .i64 8288))), (1, (.const (.int .i64 8293))), (2, (.const (.int .i64 9)))]) none,
  .mk (some 133) (.build 76 #[(0, (.const (.int .i64 8294))), (1, (.const (.int .i64 8294))), (2, (.const (.int .i64 19)))]) none,
  .mk (some 134) (.build 76 #[(0, (.const (.int .i64 8295))), (1, (.const (.int .i64 8295))), (2, (.const (.int .i64 20)))]) none,
  .mk (some 135) (.build 76 #[(0, (.const (.int .i64 8296))), (1, (.const (.int .i64 8296))), (2, (.const (.int .i64 21)))]) none,
  .mk (some 136) (.build 76 #[(0, (.const (.int .i64 8297))), (1, (.const (.int .i64 8297))), (2, (.const (.int .i64 22)))]) none,
  .mk (some 137) (.build 76 #[(0, (.const (.int .i64 8298))), (1, (.const (.int .i64 8303))), (2, (.const (.int .i64 9)))]) none,
  .mk (some 138) (.build 76 #[(0, (.const (.int .i64 8304))), (1, (.const (.int .i64 8304))), (2, (.const (.int .i64 3)))]) none,
  .mk (some 139) (.build 76 #[(0, (.const (.int .i64 8308))), (1, (.const (.int .i64 8313))), (2, (.const (.int .i64 3)))]) none,
  .mk (some 140) (.build 76 #[(0, (.const (.int .i64 8314))), (1, (.const (.int .i64 8315))), (2, (.const (.int .i64 4)))]) none,
  .mk (some 141) (.build 76 #[(0, (.const (.int .i64 8316))), (1, (.const (.int .i64 8318))), (2, (.const (.int .i64 13)))]) none,
  .mk (some 142) (.build 76 #[(0, (.const (.int .i64 8320))), (1, (.const (.int .i64 8329))), (2, (.const (.int .i64 3)))]) none,
  .mk (some 143) (.build 76 #[(0, (.const (.int .i64 8330))), (1, (.const (.int .i64 8331))), (2, (.const (.int .i64 4)))]) none,
  .mk (some 144) (.build 76 #[(0, (.const (.int .i64 8332))), (1, (.const (.int .i64 8334))), (2, (.const (.int .i64 13)))]) none,
  .mk (some 145) (.build 76 #[(0, (.const (.int .i64 8352))), (1, (.const (.int .i64 8399))), (2, (.const (.int .i64 5)))]) none,
  .mk (some 146) (.build 76 #[(0, (.const (.int .i64 8400))), (1, (.const (.int .i64 8432))), (2, (.const (.int .i64 8)))]) none,
  .mk (some 147) (.build 76 #[(0, (.const (.int .i64 8592))), (1, (.const (.int .i64 8721))), (2, (.const (.int .i64 13)))]) none,
  .mk (some 148) (.build 76 #[(0, (.const (.int .i64 8722))), (1, (.const (.int .i64 8722))), (2, (.const (.int .i64 4)))]) none,
  .mk (some 149) (.build 76 #[(0, (.const (.int .i64 8723))), (1, (.const (.int .i64 8723))), (2, (.const (.int .i64 5)))]) none,
  .mk (some 150) (.build 76 #[(0, (.const (.int .i64 8724))), (1, (.const (.int .i64 9013))), (2, (.const (.int .i64 13)))]) none,
  .mk (some 151) (.build 76 #[(0, (.const (.int .i64 9083))), (1, (.const (.int .i64 9108))), (2, (.const (.int .i64 13)))]) none,
  .mk (some 152) (.build 76 #[(0, (.const (.int .i64 9110))), (1, (.const (.int .i64 9254))), (2, (.const (.int .i64 13)))]) none,
  .mk (some 153) (.build 76 #[(0, (.const (.int .i64 9280))), (1, (.const (.int .i64 9290))), (2, (.const (.int .i64 13)))]) none,
  .mk (some 154) (.build 76 #[(0, (.const (.int .i64 9312))), (1, (.const (.int .i64 9351))), (2, (.const (.int .i64 13)))]) none,
  .mk (some 155) (.build 76 #[(0, (.const (.int .i64 9352))), (1, (.const (.int .i64 9371))), (2, (.const (.int .i64 3)))]) none,
  .mk (some 156) (.build 76 #[(0, (.const (.int .i64 9450))), (1, (.const (.int .i64 9899))), (2, (.const (.int .i64 13)))]) none,
  .mk (some 157) (.build 76 #[(0, (.const (.int .i64 9901))), (1, (.const (.int .i64 10239))), (2, (.const (.int .i64 13)))]) none,
  .mk (some 158) (.build 76 #[(0, (.const (.int .i64 10496))), (1, (.const (.int .i64 11123))), (2, (.const (.int .i64 13)))]) none,
  .mk (some 159) (.build 76 #[(0, (.const (.int .i64 11776))), (1, (.const (.int .i64 11869))), (2, (.const (.int .i64 13)))]) none,
  .mk (some 160) (.build 76 #[(0, (.const (.int .i64 12288))), (1, (.const (.int .i64 12288))), (2, (.const (.int .i64 12)))]) none,
  .mk (some 161) (.build 76 #[(0, (.const (.int .i64 12289))), (1, (.const (.int .i64 12292))), (2, (.const (.int .i64 13)))]) none,
  .mk (some 162) (.build 76 #[(0, (.const (.int .i64 12296))), (1, (.const (.int .i64 12320))), (2, (.const (.int .i64 13)))]) none,
  .mk (some 163) (.build 76 #[(0, (.const (.int .i64 12330))), (1, (.const (.int .i64 12333))), (2, (.const (.int .i64 8)))]) none,
  .mk (some 164) (.build 76 #[(0, (.const (.int .i64 12336))), (1, (.const (.int .i64 12336))), (2, (.const (.int .i64 13)))]) none,
  .mk (some 165) (.build 76 #[(0, (.const (.int .i64 64285))), (1, (.const (.int .i64 64285))), (2, (.const (.int .i64 1)))]) none,
  .mk (some 166) (.build 76 #[(0, (.const (.int .i64 64286))), (1, (.const (.int .i64 64286))), (2, (.const (.int .i64 8)))]) none,
  .mk (some 167) (.build 76 #[(0, (.const (.int .i64 64287))), (1, (.const (.int .i64 64296))), (2, (.const (.int .i64 1)))]) none,
  .mk (some 168) (.build 76 #[(0, (.const (.int .i64 64297))), (1, (.const (.int .i64 64297))), (2, (.const (.int .i64 4)))]) none,
  .mk (some 169) (.build 76 #[(0, (.const (.int .i64 64298))), (1, (.const (.int .i64 64335))), (2, (.const (.int .i64 1)))]) none,
  .mk (some 170) (.build 76 #[(0, (.const (.int .i64 64336))), (1, (.const (.int .i64 64829))), (2, (.const (.int .i64 2)))]) none,
  .mk (some 171) (.build 76 #[(0, (.const (.int .i64 64830))), (1, (.const (.int .i64 64847))), (2, (.const (.int .i64 13)))]) none,
  .mk (some 172) (.build 76 #[(0, (.const (.int .i64 64848))), (1, (.const (.int .i64 64974))), (2, (.const (.int .i64 2)))]) none,
  .mk (some 173) (.build 76 #[(0, (.const (.int .i64 64975))), (1, (.const (.int .i64 64975))), (2, (.const (.int .i64 13)))]) none,
  .mk (some 174) (.build 76 #[(0, (.const (.int .i64 64976))), (1, (.const (.int .i64 65007))), (2, (.const (.int .i64 9)))]) none,
  .mk (some 175) (.build 76 #[(0, (.const (.int .i64 65008))), (1, (.const (.int .i64 65020))), (2, (.const (.int .i64 2)))]) none,
  .mk (some 176) (.build 76 #[(0, (.const (.int .i64 65021))), (1, (.const (.int .i64 65023))), (2, (.const (.int .i64 13)))]) none,
  .mk (some 177) (.build 76 #[(0, (.const (.int .i64 65024))), (1, (.const (.int .i64 65039))), (2, (.const (.int .i64 8)))]) none,
  .mk (some 178) (.build 76 #[(0, (.const (.int .i64 65040))), (1, (.const (.int .i64 65049))), (2, (.const (.int .i64 13)))]) none,
  .mk (some 179) (.build 76 #[(0, (.const (.int .i64 65056))), (1, (.const (.int .i64 65071))), (2, (.const (.int .i64 8)))]) none,
  .mk (some 180) (.build 76 #[(0, (.const (.int .i64 65072))), (1, (.const (.int .i64 65103))), (2, (.const (.int .i64 13)))]) none,
  .mk (some 181) (.build 76 #[(0, (.const (.int .i64 65104))), (1, (.const (.int .i64 65104))), (2, (.const (.int .i64 7)))]) none,
  .mk (some 182) (.build 76 #[(0, (.const (.int .i64 65105))), (1, (.const (.int .i64 65105))), (2, (.const (.int .i64 13)))]) none,
  .mk (some 183) (.build 76 #[(0, (.const (.int .i64 65106))), (1, (.const (.int .i64 65106))), (2, (.const (.int .i64 7)))]) none,
  .mk (some 184) (.build 76 #[(0, (.const (.int .i64 65108))), (1, (.const (.int .i64 65108))), (2, (.const (.int .i64 13)))]) none,
  .mk (some 185) (.build 76 #[(0, (.const (.int .i64 65109))), (1, (.const (.int .i64 65109))), (2, (.const (.int .i64 7)))]) none,
  .mk (some 186) (.build 76 #[(0, (.const (.int .i64 65110))), (1, (.const (.int .i64 65118))), (2, (.const (.int .i64 13)))]) none,
  .mk (some 187) (.build 76 #[(0, (.const (.int .i64 65119))), (1, (.const (.int .i64 65119))), (2, (.const (.int .i64 5)))]) none,
  .mk (some 188) (.build 76 #[(0, (.const (.int .i64 65120))), (1, (.const (.int .i64 65121))), (2, (.const (.int .i64 13)))]) none,
  .mk (some 189) (.build 76 #[(0, (.const (.int .i64 65122))), (1, (.const (.int .i64 65123))), (2, (.const (.int .i64 4)))]) none,
  .mk (some 190) (.build 76 #[(0, (.const (.int .i64 65124))), (1, (.const (.int .i64 65126))), (2, (.const (.int .i64 13)))]) none,
  .mk (some 191) (.build 76 #[(0, (.const (.int .i64 65128))), (1, (.const (.int .i64 65128))), (2, (.const (.int .i64 13)))]) none,
  .mk (some 192) (.build 76 #[(0, (.const (.int .i64 65129))), (1, (.const (.int .i64 65130))), (2, (.const (.int .i64 5)))]) none,
  .mk (some 193) (.build 76 #[(0, (.const (.int .i64 65131))), (1, (.const (.int .i64 65131))), (2, (.const (.int .i64 13)))]) none,
  .mk (some 194) (.build 76 #[(0, (.const (.int .i64 65136))), (1, (.const (.int .i64 65278))), (2, (.const (.int .i64 2)))]) none,
  .mk (some 195) (.build 76 #[(0, (.const (.int .i64 65279))), (1, (.const (.int .i64 65279))), (2, (.const (.int .i64 9)))]) none,
  .mk (some 196) (.build 76 #[(0, (.const (.int .i64 65281))), (1, (.const (.int .i64 65282))), (2, (.const (.int .i64 13)))]) none,
  .mk (some 197) (.build 76 #[(0, (.const (.int .i64 65283))), (1, (.const (.int .i64 65285))), (2, (.const (.int .i64 5)))]) none,
  .mk (some 198) (.build 76 #[(0, (.const (.int .i64 65286))), (1, (.const (.int .i64 65290))), (2, (.const (.int .i64 13)))]) none,
  .mk (some 199) (.build 76 #[(0, (.const (.int .i64 65291))), (1, (.const (.int .i64 65291))), (2, (.const (.int .i64 4)))]) none,
  .mk (some 200) (.build 76 #[(0, (.const (.int .i64 65292))), (1, (.const (.int .i64 65292))), (2, (.const (.int .i64 7)))]) none,
  .mk (some 201) (.build 76 #[(0, (.const (.int .i64 65293))), (1, (.const (.int .i64 65293))), (2, (.const (.int .i64 4)))]) none,
  .mk (some 202) (.build 76 #[(0, (.const (.int .i64 65294))), (1, (.const (.int .i64 65295))), (2, (.const (.int .i64 7)))]) none,
  .mk (some 203) (.build 76 #[(0, (.const (.int .i64 65296))), (1, (.const (.int .i64 65305))), (2, (.const (.int .i64 3)))]) none,
  .mk (some 204) (.build 76 #[(0, (.const (.int .i64 65306))), (1, (.const (.int .i64 65306))), (2, (.const (.int .i64 7)))]) none,
  .mk (some 205) (.build 76 #[(0, (.const (.int .i64 65307))), (1, (.const (.int .i64 65312))), (2, (.const (.int .i64 13)))]) none,
  .mk (some 206) (.build 76 #[(0, (.const (.int .i64 65339))), (1, (.const (.int .i64 65344))), (2, (.const (.int .i64 13)))]) none,
  .mk (some 207) (.build 76 #[(0, (.const (.int .i64 65371))), (1, (.const (.int .i64 65381))), (2, (.const (.int .i64 13)))]) none,
  .mk (some 208) (.build 76 #[(0, (.const (.int .i64 65504))), (1, (.const (.int .i64 65505))), (2, (.const (.int .i64 5)))]) none,
  .mk (some 209) (.build 76 #[(0, (.const (.int .i64 65506))), (1, (.const (.int .i64 65508))), (2, (.const (.int .i64 13)))]) none,
  .mk (some 210) (.build 76 #[(0, (.const (.int .i64 65509))), (1, (.const (.int .i64 65510))), (2, (.const (.int .i64 5)))]) none,
  .mk (some 211) (.build 76 #[(0, (.const (.int .i64 65520))), (1, (.const (.int .i64 65528))), (2, (.const (.int .i64 9)))]) none,
  .mk (some 212) (.build 76 #[(0, (.const (.int .i64 65529))), (1, (.const (.int .i64 65533))), (2, (.const (.int .i64 13)))]) none,
  .mk (some 213) (.build 76 #[(0, (.const (.int .i64 65534))), (1, (.const (.int .i64 65535))), (2, (.const (.int .i64 9)))]) none,
  .mk (some 214) (.build 76 #[(0, (.const (.int .i64 67584))), (1, (.const (.int .i64 68863))), (2, (.const (.int .i64 1)))]) none,
  .mk (some 215) (.build 76 #[(0, (.const (.int .i64 68864))), (1, (.const (.int .i64 68927))), (2, (.const (.int .i64 2)))]) none,
  .mk (some 216) (.build 76 #[(0, (.const (.int .i64 68928))), (1, (.const (.int .i64 69631))), (2, (.const (.int .i64 1)))]) none,
  .mk (some 217) (.build 76 #[(0, (.const (.int .i64 120782))), (1, (.const (.int .i64 120831))), (2, (.const (.int .i64 3)))]) none,
  .mk (some 218) (.build 76 #[(0, (.const (.int .i64 124928))), (1, (.const (.int .i64 126063))), (2, (.const (.int .i64 1)))]) none,
  .mk (some 219) (.build 76 #[(0, (.const (.int .i64 126064))), (1, (.const (.int .i64 126143))), (2, (.const (.int .i64 2)))]) none,
  .mk (some 220) (.build 76 #[(0, (.const (.int .i64 126144))), (1, (.const (.int .i64 126207))), (2, (.const (.int .i64 1)))]) none,
  .mk (some 221) (.build 76 #[(0, (.const (.int .i64 126208))), (1, (.const (.int .i64 126287))), (2, (.const (.int .i64 2)))]) none,
  .mk (some 222) (.build 76 #[(0, (.const (.int .i64 126288))), (1, (.const (.int .i64 126463))), (2, (.const (.int .i64 1)))]) none,
  .mk (some 223) (.build 76 #[(0, (.const (.int .i64 126464))), (1, (.const (.int .i64 126719))), (2, (.const (.int .i64 2)))]) none,
  .mk (some 224) (.build 76 #[(0, (.const (.int .i64 126720))), (1, (.const (.int .i64 126975))), (2, (.const (.int .i64 1)))]) none,
  .mk (some 225) (.build 76 #[(0, (.const (.int .i64 126976))), (1, (.const (.int .i64 127231))), (2, (.const (.int .i64 13)))]) none,
  .mk (some 226) (.build 76 #[(0, (.const (.int .i64 127232))), (1, (.const (.int .i64 127242))), (2, (.const (.int .i64 3)))]) none,
  .mk (some 227) (.build 76 #[(0, (.const (.int .i64 127744))), (1, (.const (.int .i64 128727))), (2, (.const (.int .i64 13)))]) none,
  .mk (some 228) (.build 76 #[(0, (.const (.int .i64 917504))), (1, (.const (.int .i64 917759))), (2, (.const (.int .i64 9)))]) none,
  .mk (some 229) (.build 76 #[(0, (.const (.int .i64 917760))), (1, (.const (.int .i64 917999))), (2, (.const (.int .i64 8)))]) none,
  .mk (some 230) (.build 76 #[(0, (.const (.int .i64 918000))), (1, (.const (.int .i64 921599))), (2, (.const (.int .i64 9)))]) none,
  .mk (some 231) (.buildSlice 49 230 #[(0, (.tmp 1)), (1, (.tmp 2)), (2, (.tmp 3)), (3, (.tmp 4)), (4, (.tmp 5)), (5, (.tmp 6)), (6, (.tmp 7)), (7, (.tmp 8)), (8, (.tmp 9)), (9, (.tmp 10)), (10, (.tmp 11)), (11, (.tmp 12)), (12, (.tmp 13)), (13, (.tmp 14)), (14, (.tmp 15)), (15, (.tmp 16)), (16, (.tmp 17)), (17, (.tmp 18)), (18, (.tmp 19)), (19, (.tmp 20)), (20, (.tmp 21)), (21, (.tmp 22)), (22, (.tmp 23)), (23, (.tmp 24)), (24, (.tmp 25)), (25, (.tmp 26)), (26, (.tmp 27)), (27, (.tmp 28)), (28, (.tmp 29)), (29, (.tmp 30)), (30, (.tmp 31)), (31, (.tmp 32)), (32, (.tmp 33)), (33, (.tmp 34)), (34, (.tmp 35)), (35, (.tmp 36)), (36, (.tmp 37)), (37, (.tmp 38)), (38, (.tmp 39)), (39, (.tmp 40)), (40, (.tmp 41)), (41, (.tmp 42)), (42, (.tmp 43)), (43, (.tmp 44)), (44, (.tmp 45)), (45, (.tmp 46)), (46, (.tmp 47)), (47, (.tmp 48)), (48, (.tmp 49)), (49, (.tmp 50)), (50, (.tmp 51)), (51, (.tmp 52)), (52, (.tmp 53)), (53, (.tmp 54)), (54, (.tmp 55)), (55, (.tmp 56)), (56, (.tmp 57)), (57, (.tmp 58)), (58, (.tmp 59)), (59, (.tmp 60)), (60, (.tmp 61)), (61, (.tmp 62)), (62, (.tmp 63)), (63, (.tmp 64)), (64, (.tmp 65)), (65, (.tmp 66)), (66, (.tmp 67)), (67, (.tmp 68)), (68, (.tmp 69)), (69, (.tmp 70)), (70, (.tmp 71)), (71, (.tmp 72)), (72, (.tmp 73)), (73, (.tmp 74)), (74, (.tmp 75)), (75, (.tmp 76)), (76, (.tmp 77)), (77, (.tmp 78)), (78, (.tmp 79)), (79, (.tmp 80)), (80, (.tmp 81)), (81, (.tmp 82)), (82, (.tmp 83)), (83, (.tmp 84)), (84, (.tmp 85)), (85, (.tmp 86)), (86, (.tmp 87)), (87, (.tmp 88)), (88, (.tmp 89)), (89, (.tmp 90)), (90, (.tmp 91)), (91, (.tmp 92)), (92, (.tmp 93)), (93, (.tmp 94)), (94, (.tmp 95)), (95, (.tmp 96)), (96, (.tmp 97)), (97, (.tmp 98)), (98, (.tmp 99)), (99, (.tmp 100)), (100, (.tmp 101)), (101, (.tmp 102)), (102, (.tmp 103)), (103, (.tmp 104)), (104, (.tmp 105)), (105, (.tmp 106)), (106, (.tmp 107)), (107, (.tmp 108)), (108, (.tmp 109)), (109, (.tmp 110)), (110, (.tmp 111)), (111, (.tmp 112)), (112, (.tmp 113)), (113, (.tmp 114)), (114, (.tmp 115)), (115, (.tmp 116)), (116, (.tmp 117)), (117, (.tmp 118)), (118, (.tmp 119)), (119, (.tmp 120)), (120, (.tmp 121)), (121, (.tmp 122)), (122, (.tmp 123)), (123, (.tmp 124)), (124, (.tmp 125)), (125, (.tmp 126)), (126, (.tmp 127)), (127, (.tmp 128)), (128, (.tmp 129)), (129, (.tmp 130)), (130, (.tmp 131)), (131, (.tmp 132)), (132, (.tmp 133)), (133, (.tmp 134)), (134, (.tmp 135)), (135, (.tmp 136)), (136, (.tmp 137)), (137, (.tmp 138)), (138, (.tmp 139)), (139, (.tmp 140)), (140, (.tmp 141)), (141, (.tmp 142)), (142, (.tmp 143)), (143, (.tmp 144)), (144, (.tmp 145)), (145, (.tmp 146)), (146, (.tmp 147)), (147, (.tmp 148)), (148, (.tmp 149)), (149, (.tmp 150)), (150, (.tmp 151)), (151, (.tmp 152)), (152, (.tmp 153)), (153, (.tmp 154)), (154, (.tmp 155)), (155, (.tmp 156)), (156, (.tmp 157)), (157, (.tmp 158)), (158, (.tmp 159)), (159, (.tmp 160)), (160, (.tmp 161)), (161, (.tmp 162)), (162, (.tmp 163)), (163, (.tmp 164)), (164, (.tmp 165)), (165, (.tmp 166)), (166, (.tmp 167)), (167, (.tmp 168)), (168, (.tmp 169)), (169, (.tmp 170)), (170, (.tmp 171)), (171, (.tmp 172)), (172, (.tmp 173)), (173, (.tmp 174)), (174, (.tmp 175)), (175, (.tmp 176)), (176, (.tmp 177)), (177, (.tmp 178)), (178, (.tmp 179)), (179, (.tmp 180)), (180, (.tmp 181)), (181, (.tmp 182)), (182, (.tmp 183)), (183, (.tmp 184)), (184, (.tmp 185)), (185, (.tmp 186)), (186, (.tmp 187)), (187, (.tmp 188)), (188, (.tmp 189)), (189, (.tmp 190)), (190, (.tmp 191)), (191, (.tmp 192)), (192, (.tmp 193)), (193, (.tmp 194)), (194, (.tmp 195)), (195, (.tmp 196)), (196, (.tmp 197)), (197, (.tmp 198)), (198, (.tmp 199)), (199, (.tmp 200)), (200, (.tmp 201)), (201, (.tmp 202)), (202, (.tmp 203)), (203, (.tmp 204)), (204, (.tmp 205)), (205, (.tmp 206)), (206, (.tmp 207)), (207, (.tmp 208)), (208, (.tmp 209)), (209, (.tmp 210)), (210, (.tmp 211)), (211, (.tmp 212)), (212, (.tmp 213)), (213, (.tmp 214)), (214, (.tmp 215)), (215, (.tmp 216)), (216, (.tmp 217)), (217, (.tmp 218)), (218, (.tmp 219)), (219, (.tmp 220)), (220, (.tmp 221)), (221, (.tmp 222)), (222, (.tmp 223)), (223, (.tmp 224)), (224, (.tmp 225)), (225, (.tmp 226)), (226, (.tmp 227)), (227, (.tmp 228)), (228, (.tmp 229)), (229, (.tmp 230))]) none,
  .mk (some 0) (.assign (.tmp 231)) none]
def c28 : PC := (.seq (.reg false r28_0) (.seq (.reg false r28_1) .ret))
theorem e28 {args : List PV} {h : Heap} {K : PV → Heap → Prop} (hl : args.length = 0) (s : pwp Try.prog [] c28 (fin Try.prog [.tmp 0] h K) (slots0 (olds args)) h) : CanP Try.prog 28 args h K :=
  can_of2 (n := 232) mixed Try.func28 rfl (by kernel_rfl) (by rw [hl]; kernel_rfl) rfl (by kernel_rfl) s
/-! ### naskh.props.New: function 16 -/
def r16_0 : List PS := [.mk (some 0) (.assign (.const (.pointer none))) none]
def r16_1 : List PS := [.mk (some 6) (.call ⟨(.value (.func 28)), #[], #[]⟩) none,
  .mk (some 7) (.call ⟨(.value (.func 27)), #[(.tmp 6), (.const (.int .i64 0))], #[49, 3]⟩) none,
  .mk (some 5) (.move (.tmp 7)) none,
  .mk (some 8) (.extract (.tmp 5) 0) none,
  .mk (some 9) (.extract (.tmp 5) 1) none,
  .mk (some 1) (.assign (.tmp 8)) none,
  .mk (some 2) (.assign (.tmp 9)) none]
def r16_2 : List PS := [.mk (some 11) (.call ⟨(.value (.func 29)), #[], #[]⟩) none,
  .mk (some 12) (.call ⟨(.value (.func 27)), #[(.tmp 11), (.const (.int .i64 0))], #[49, 3]⟩) none,
  .mk (some 10) (.move (.tmp 12)) none,
  .mk (some 13) (.extract (.tmp 10) 0) none,
  .mk (some 14) (.extract (.tmp 10) 1) none,
  .mk (some 3) (.assign (.tmp 13)) none,
  .mk (some 4) (.assign (.tmp 14)) none]
def r16_3 : List PS := [.mk (some 15) (.move (.tmp 2)) none,
  .mk (some 16) (.binOp .neq 46 (.tmp 15) (.const (.int .i64 0)) 46) none,
  .mk (some 17) (.move (.tmp 16)) none,
  .mk (some 18) (.move (.tmp 4)) (some (17, false)),
  .mk (some 19) (.binOp .neq 46 (.tmp 18) (.const (.int .i64 0)) 46) (some (17, false)),
  .mk (some 20) (.pick (.tmp 17) (.const (.bool true)) (.tmp 19)) none]
def r16_4 : List PS := [.mk (some 0) (.assign (.const (.pointer none))) none]
def r16_5 : List PS := [.mk (some 21) (.move (.tmp 1)) none,
  .mk (some 22) (.move (.tmp 3)) none,
  .mk (some 23) (.build 52 #[(0, (.tmp 21)), (1, (.tmp 22))]) none,
  .mk (some 24) (.build 54 #[(0, (.tmp 23))]) none,
  .mk (some 25) (.box 54 (.tmp 24)) none,
  .mk (some 0) (.assign (.tmp 25)) none]
def c16 : PC := (.seq (.reg false r16_0) (.seq (.reg false r16_1) (.seq (.reg false r16_2) (.seq (.seq (.reg false r16_3) (.cond (.tmp 20) (.seq (.reg false r16_4) .ret) .skip)) (.seq (.reg false r16_5) .ret)))))
theorem e16 {args : List PV} {h : Heap} {K : PV → Heap → Prop} (hl : args.length = 0) (s : pwp Try.prog [] c16 (fin Try.prog [.tmp 0] h K) (slots0 (olds args)) h) : CanP Try.prog 16 args h K :=
  can_of2 (n := 26) mixed Try.func16 rfl (by kernel_rfl) (by rw [hl]; kernel_rfl) rfl (by kernel_rfl) s
/-! ### naskh.props.each: function 30 -/
def r30_0 : List PS := [.mk (some 4) (.assign (.const (.slice none 0 0))) none]
def r30_1 : List PS := [.mk (some 8) (.move (.tmp 0)) none,
  .mk (some 9) (.call ⟨(.builtin .len), #[(.tmp 8)], #[22]⟩) none,
  .mk (some 10) (.makeSlice 22 (.tmp 9) (.tmp 9)) none,
  .mk (some 5) (.assign (.tmp 10)) none]
def r30_2 : List PS := [.mk (some 11) (.move (.tmp 0)) none,
  .mk (some 12) (.call ⟨(.builtin .len), #[(.tmp 11)], #[22]⟩) none,
  .mk (some 13) (.move (.const (.int .i64 0))) none]
def r30_3 : List PS := [.mk (some 14) (.binOp .lss 3 (.tmp 13) (.tmp 12) 3) none]
def r30_4 : List PS := [.mk (some 15) (.move (.tmp 13)) none,
  .mk (some 16) (.indexAddr 22 (.tmp 11) (.tmp 13)) none,
  .mk (some 17) (.load 3 (.tmp 16)) none,
  .mk (some 6) (.assign (.tmp 15)) none,
  .mk (some 7) (.assign (.tmp 17)) none]
def r30_5 : List PS := [.mk (some 18) (.move (.tmp 5)) none,
  .mk (some 19) (.move (.tmp 6)) none,
  .mk (some 20) (.move (.tmp 1)) none,
  .mk (some 21) (.move (.tmp 7)) none,
  .mk (some 22) (.call ⟨(.value (.tmp 20)), #[(.tmp 21)], #[3]⟩) none,
  .mk (some 23) (.indexAddr 22 (.tmp 18) (.tmp 19)) none,
  .mk none (.store 3 (.tmp 23) (.tmp 22)) none]
def r30_6 : List PS := [.mk (some 24) (.binOp .add 3 (.tmp 13) (.const (.int .i64 1)) 3) none,
  .mk (some 13) (.move (.tmp 24)) none]
def r30_7 : List PS := [.mk (some 25) (.move (.tmp 5)) none,
  .mk (some 4) (.assign (.tmp 25)) none]
def c30 : PC := (.seq (.reg false r30_0) (.seq (.reg false r30_1) (.seq (.seq (.reg false r30_2) (.block 0 (.loop (.seq (.reg false r30_3) (.seq (.cond (.tmp 14) .skip (.exit 0)) (.seq (.block 1 (.seq (.reg false r30_4) (.reg false r30_5))) (.reg false r30_6))))))) (.seq (.reg false r30_7) .ret))))
theorem e30 {args : List PV} {h : Heap} {K : PV → Heap → Prop} (hl : args.length = 2) (s : pwp Try.prog [] c30 (fin Try.prog [.tmp 4] h K) (slots0 (olds args)) h) : CanP Try.prog 30 args h K :=
  can_of2 (n := 26) mixed Try.func30 rfl (by kernel_rfl) (by rw [hl]; kernel_rfl) rfl (by kernel_rfl) s
/-! ### (*naskh.props.Props).made: function 41 -/
def r41_0 : List PS := [.mk (some 2) (.assign (.const (.bool false))) none]
def r41_1 : List PS := [.mk (some 3) (.move (.tmp 0)) none,
  .mk (some 4) (.binOp .neq 35 (.tmp 3) (.const (.pointer none)) 35) none,
  .mk (some 5) (.move (.tmp 4)) none,
  .mk (some 6) (.move (.tmp 0)) (some (5, true)),
  .mk (some 7) (.nilCheck (.tmp 6)) (some (5, true)),
  .mk (some 8) (.fieldAddr 54 (.tmp 7) 0) (some (5, true)),
  .mk (some 9) (.fieldAddr 52 (.tmp 8) 0) (some (5, true)),
  .mk (some 10) (.load 45 (.tmp 9)) (some (5, true)),
  .mk (some 11) (.binOp .neq 45 (.tmp 10) (.const (.pointer none)) 45) (some (5, true)),
  .mk (some 12) (.pick (.tmp 5) (.tmp 11) (.const (.bool false))) none,
  .mk (some 2) (.assign (.tmp 12)) none]
def c41 : PC := (.seq (.reg false r41_0) (.seq (.reg false r41_1) .ret))
theorem e41 {args : List PV} {h : Heap} {K : PV → Heap → Prop} (hl : args.length = 1) (s : pwp Try.prog [] c41 (fin Try.prog [.tmp 2] h K) (slots0 (olds args)) h) : CanP Try.prog 41 args h K :=
  can_of2 (n := 13) mixed Try.func41 rfl (by kernel_rfl) (by rw [hl]; kernel_rfl) rfl (by kernel_rfl) s
/-! ### (*naskh.trie.Table).has: function 47 -/
def r47_0 : List PS := [.mk (some 4) (.assign (.const (.bool false))) none]
def r47_1 : List PS := [.mk (some 5) (.move (.tmp 0)) none,
  .mk (some 6) (.binOp .neq 45 (.tmp 5) (.const (.pointer none)) 45) none,
  .mk (some 7) (.move (.tmp 6)) none,
  .mk (some 8) (.move (.tmp 0)) (some (7, true)),
  .mk (some 9) (.nilCheck (.tmp 8)) (some (7, true)),
  .mk (some 10) (.fieldAddr 69 (.tmp 9) 2) (some (7, true)),
  .mk (some 11) (.load 4 (.tmp 10)) (some (7, true)),
  .mk (some 12) (.pick (.tmp 7) (.tmp 11) (.const (.bool false))) none,
  .mk (some 13) (.move (.tmp 12)) none,
  .mk (some 14) (.move (.tmp 1)) (some (13, true)),
  .mk (some 15) (.binOp .geq 3 (.tmp 14) (.const (.int .i64 0)) 3) (some (13, true)),
  .mk (some 16) (.pick (.tmp 13) (.tmp 15) (.const (.bool false))) none,
  .mk (some 17) (.move (.tmp 16)) none,
  .mk (some 18) (.move (.tmp 1)) (some (17, true)),
  .mk (some 19) (.binOp .leq 3 (.tmp 18) (.const (.int .i64 1114111)) 3) (some (17, true)),
  .mk (some 20) (.pick (.tmp 17) (.tmp 19) (.const (.bool false))) none,
  .mk (some 4) (.assign (.tmp 20)) none]
def c47 : PC := (.seq (.reg false r47_0) (.seq (.reg false r47_1) .ret))
theorem e47 {args : List PV} {h : Heap} {K : PV → Heap → Prop} (hl : args.length = 2) (s : pwp Try.prog [] c47 (fin Try.prog [.tmp 4] h K) (slots0 (olds args)) h) : CanP Try.prog 47 args h K :=
  can_of2 (n := 21) mixed Try.func47 rfl (by kernel_rfl) (by rw [hl]; kernel_rfl) rfl (by kernel_rfl) s
/-! ### (*naskh.trie.stages).at: function 48 -/
def r48_0 : List PS := [.mk (some 4) (.assign (.const (.int .i64 0))) none]
def r48_1 : List PS := [.mk (some 5) (.move (.tmp 0)) none,
  .mk (some 6) (.nilCheck (.tmp 5)) none,
  .mk (some 7) (.fieldAddr 67 (.tmp 6) 1) none,
  .mk (some 8) (.load 65 (.tmp 7)) none,
  .mk (some 9) (.move (.tmp 0)) none,
  .mk (some 10) (.nilCheck (.tmp 9)) none,
  .mk (some 11) (.fieldAddr 67 (.tmp 10) 0) none,
  .mk (some 12) (.load 22 (.tmp 11)) none,
  .mk (some 13) (.move (.tmp 1)) none,
  .mk (some 14) (.binOp .shr 3 (.tmp 13) (.const (.int .u64 7)) 79) none,
  .mk (some 15) (.indexAddr 22 (.tmp 12) (.tmp 14)) none,
  .mk (some 16) (.load 3 (.tmp 15)) none,
  .mk (some 17) (.move (.tmp 1)) none,
  .mk (some 18) (.binOp .and 3 (.tmp 17) (.const (.int .i64 127)) 3) none,
  .mk (some 19) (.indexAddr 65 (.tmp 8) (.tmp 16)) none,
  .mk (some 20) (.indexAddr 71 (.tmp 19) (.tmp 18)) none,
  .mk (some 21) (.load 3 (.tmp 20)) none,
  .mk (some 4) (.assign (.tmp 21)) none]
def c48 : PC := (.seq (.reg false r48_0) (.seq (.reg true r48_1) .ret))
theorem e48 {args : List PV} {h : Heap} {K : PV → Heap → Prop} (hl : args.length = 2) (s : pwp Try.prog [] c48 (fin Try.prog [.tmp 4] h K) (slots0 (olds args)) h) : CanP Try.prog 48 args h K :=
  can_of2 (n := 22) mixed Try.func48 rfl (by kernel_rfl) (by rw [hl]; kernel_rfl) rfl (by kernel_rfl) s
/-! ### (*naskh.trie.Table).Get: function 42 -/
def r42_0 : List PS := [.mk (some 4) (.assign (.const (.int .i64 0))) none]
def r42_1 : List PS := [.mk (some 6) (.move (.tmp 0)) none,
  .mk (some 7) (.move (.tmp 1)) none,
  .mk (some 8) (.call ⟨(.value (.func 47)), #[(.tmp 6), (.tmp 7)], #[45, 3]⟩) none,
  .mk (some 5) (.assign (.tmp 8)) none]
def r42_2 : List PS := [.mk (some 9) (.move (.tmp 0)) none,
  .mk (some 10) (.nilCheck (.tmp 9)) none,
  .mk (some 11) (.fieldAddr 69 (.tmp 10) 0) none,
  .mk (some 12) (.move (.tmp 1)) none,
  .mk (some 13) (.call ⟨(.value (.func 48)), #[(.tmp 11), (.tmp 12)], #[67, 3]⟩) none,
  .mk (some 4) (.assign (.tmp 13)) none]
def r42_3 : List PS := [.mk (some 15) (.move (.tmp 0)) none,
  .mk (some 16) (.binOp .eql 45 (.tmp 15) (.const (.pointer none)) 45) none,
  .mk (some 14) (.assign (.tmp 16)) none]
def r42_4 : List PS := [.mk (some 4) (.assign (.const (.int .i64 0))) none]
def r42_5 : List PS := [.mk (some 17) (.move (.tmp 0)) none,
  .mk (some 18) (.nilCheck (.tmp 17)) none,
  .mk (some 19) (.fieldAddr 69 (.tmp 18) 1) none,
  .mk (some 20) (.load 3 (.tmp 19)) none,
  .mk (some 4) (.assign (.tmp 20)) none]
def c42 : PC := (.seq (.reg false r42_0) (.seq (.block 0 (.seq (.reg false r42_1) (.cond (.tmp 5) (.seq (.reg false r42_2) .ret) (.seq (.reg false r42_3) (.cond (.tmp 14) (.seq (.reg false r42_4) .ret) .skip))))) (.seq (.reg false r42_5) .ret)))
theorem e42 {args : List PV} {h : Heap} {K : PV → Heap → Prop} (hl : args.length = 2) (s : pwp Try.prog [] c42 (fin Try.prog [.tmp 4] h K) (slots0 (olds args)) h) : CanP Try.prog 42 args h K :=
  can_of2 (n := 21) mixed Try.func42 rfl (by kernel_rfl) (by rw [hl]; kernel_rfl) rfl (by kernel_rfl) s
/-! ### (*naskh.props.Props).Join: function 31 -/
def r31_0 : List PS := [.mk (some 4) (.assign (.const (.int .i64 0))) none]
def r31_1 : List PS := [.mk (some 5) (.move (.tmp 0)) none,
  .mk (some 6) (.call ⟨(.value (.func 41)), #[(.tmp 5)], #[35]⟩) none,
  .mk (some 7) (.unOp .not 4 (.tmp 6)) none]
def r31_2 : List PS := [.mk (some 4) (.assign (.const (.int .i64 0))) none]
def r31_3 : List PS := [.mk (some 8) (.move (.tmp 0)) none,
  .mk (some 9) (.nilCheck (.tmp 8)) none,
  .mk (some 10) (.fieldAddr 54 (.tmp 9) 0) none,
  .mk (some 11) (.fieldAddr 52 (.tmp 10) 1) none,
  .mk (some 12) (.load 45 (.tmp 11)) none,
  .mk (some 13) (.move (.tmp 1)) none,
  .mk (some 14) (.call ⟨(.value (.func 42)), #[(.tmp 12), (.tmp 13)], #[45, 3]⟩) none,
  .mk (some 4) (.assign (.tmp 14)) none]
def c31 : PC := (.seq (.reg false r31_0) (.seq (.seq (.reg false r31_1) (.cond (.tmp 7) (.seq (.reg false r31_2) .ret) .skip)) (.seq (.reg false r31_3) .ret)))
theorem e31 {args : List PV} {h : Heap} {K : PV → Heap → Prop} (hl : args.length = 2) (s : pwp Try.prog [] c31 (fin Try.prog [.tmp 4] h K) (slots0 (olds args)) h) : CanP Try.prog 31 args h K :=
  can_of2 (n := 15) mixed Try.func31 rfl (by kernel_rfl) (by rw [hl]; kernel_rfl) rfl (by kernel_rfl) s
/-! ### (*naskh.props.Props).Joins: function 17 -/
def r17_0 : List PS := [.mk (some 4) (.assign (.const (.slice none 0 0))) none]
def r17_1 : List PS := [.mk (some 5) (.move (.tmp 1)) none,
  .mk (some 6) (.move (.tmp 0)) none,
  .mk (some 7) (.makeFunc (.func 31) #[(.tmp 6)] #[]) none,
  .mk (some 8) (.call ⟨(.value (.func 30)), #[(.tmp 5), (.tmp 7)], #[22, 44]⟩) none,
  .mk (some 4) (.assign (.tmp 8)) none]
def c17 : PC := (.seq (.reg false r17_0) (.seq (.reg false r17_1) .ret))
theorem e17 {args : List PV} {h : Heap} {K : PV → Heap → Prop} (hl : args.length = 2) (s : pwp Try.prog [] c17 (fin Try.prog [.tmp 4] h K) (slots0 (olds args)) h) : CanP Try.prog 17 args h K :=
  can_of2 (n := 9) mixed Try.func17 rfl (by kernel_rfl) (by rw [hl]; kernel_rfl) rfl (by kernel_rfl) s
/-! ### naskh.naskhlaw14.LamalefOnce: function 5 -/
def r5_0 : List PS := [.mk (some 4) (.assign (.const (.bool false))) none]
def r5_1 : List PS := [.mk (some 10) (.move (.tmp 0)) none,
  .mk (some 11) (.call ⟨(.builtin .len), #[(.tmp 10)], #[22]⟩) none,
  .mk (some 12) (.binOp .gtr 3 (.tmp 11) (.const (.int .i64 300)) 3) none]
def r5_2 : List PS := [.mk (some 13) (.call ⟨(.value (.func 6)), #[], #[]⟩) none,
  .mk (some 4) (.assign (.tmp 13)) none]
def r5_3 : List PS := [.mk (some 14) (.call ⟨(.value (.func 16)), #[], #[]⟩) none,
  .mk (some 5) (.assign (.tmp 14)) none]
def r5_4 : List PS := [.mk (some 15) (.move (.tmp 5)) none,
  .mk (some 16) (.move (.tmp 0)) none,
  .mk (some 17) (.call ⟨(.value (.func 17)), #[(.tmp 15), (.tmp 16)], #[35, 22]⟩) none,
  .mk (some 6) (.assign (.tmp 17)) none]
def r5_5 : List PS := [.mk (some 18) (.move (.tmp 0)) none,
  .mk (some 19) (.call ⟨(.builtin .len), #[(.tmp 18)], #[22]⟩) none,
  .mk (some 20) (.makeSlice 37 (.tmp 19) (.tmp 19)) none,
  .mk (some 7) (.assign (.tmp 20)) none]
def r5_6 : List PS := [.mk (some 21) (.move (.tmp 0)) none,
  .mk (some 22) (.move (.tmp 6)) none,
  .mk (some 23) (.move (.tmp 1)) none,
  .mk (some 24) (.call ⟨(.value (.func 14)), #[(.tmp 21), (.tmp 22), (.tmp 23)], #[22, 22, 4]⟩) none,
  .mk (some 25) (.call ⟨(.builtin .len), #[(.tmp 24)], #[23]⟩) none,
  .mk (some 26) (.move (.const (.int .i64 0))) none]
def r5_7 : List PS := [.mk (some 27) (.binOp .lss 3 (.tmp 26) (.tmp 25) 3) none]
def r5_8 : List PS := [.mk (some 28) (.indexAddr 23 (.tmp 24) (.tmp 26)) none,
  .mk (some 29) (.load 26 (.tmp 28)) none,
  .mk (some 9) (.alloc 26) none,
  .mk none (.store 26 (.tmp 9) (.tmp 29)) none,
  .frz 9]
def r5_9 : List PS := [.mk (some 30) (.fieldAddr 26 (.tmp 9) 0) none,
  .mk (some 31) (.load 3 (.tmp 30)) none,
  .mk (some 32) (.binOp .lss 3 (.tmp 31) (.const (.int .i64 0)) 3) none,
  .mk (some 33) (.move (.tmp 32)) none,
  .mk (some 34) (.fieldAddr 26 (.tmp 9) 1) (some (33, false)),
  .mk (some 35) (.load 3 (.tmp 34)) (some (33, false)),
  .mk (some 36) (.move (.tmp 0)) (some (33, false)),
  .mk (some 37) (.call ⟨(.builtin .len), #[(.tmp 36)], #[22]⟩) (some (33, false)),
  .mk (some 38) (.binOp .geq 3 (.tmp 35) (.tmp 37) 3) (some (33, false)),
  .mk (some 39) (.pick (.tmp 33) (.const (.bool true)) (.tmp 38)) none,
  .mk (some 40) (.move (.tmp 39)) none,
  .mk (some 41) (.fieldAddr 26 (.tmp 9) 0) (some (40, false)),
  .mk (some 42) (.load 3 (.tmp 41)) (some (40, false)),
  .mk (some 43) (.fieldAddr 26 (.tmp 9) 1) (some (40, false)),
  .mk (some 44) (.load 3 (.tmp 43)) (some (40, false)),
  .mk (some 45) (.binOp .geq 3 (.tmp 42) (.tmp 44) 3) (some (40, false)),
  .mk (some 46) (.pick (.tmp 40) (.const (.bool true)) (.tmp 45)) none,
  .mk (some 47) (.move (.tmp 46)) none,
  .mk (some 48) (.move (.tmp 7)) (some (47, false)),
  .mk (some 49) (.fieldAddr 26 (.tmp 9) 0) (some (47, false)),
  .mk (some 50) (.load 3 (.tmp 49)) (some (47, false)),
  .mk (some 51) (.indexAddr 37 (.tmp 48) (.tmp 50)) (some (47, false)),
  .mk (some 52) (.load 4 (.tmp 51)) (some (47, false)),
  .mk (some 53) (.pick (.tmp 47) (.const (.bool true)) (.tmp 52)) none,
  .mk (some 54) (.move (.tmp 53)) none,
  .mk (some 55) (.move (.tmp 7)) (some (54, false)),
  .mk (some 56) (.fieldAddr 26 (.tmp 9) 1) (some (54, false)),
  .mk (some 57) (.load 3 (.tmp 56)) (some (54, false)),
  .mk (some 58) (.indexAddr 37 (.tmp 55) (.tmp 57)) (some (54, false)),
  .mk (some 59) (.load 4 (.tmp 58)) (some (54, false)),
  .mk (some 60) (.pick (.tmp 54) (.const (.bool true)) (.tmp 59)) none,
  .mk (some 61) (.move (.tmp 60)) none,
  .mk (some 62) (.move (.tmp 0)) (some (61, false)),
  .mk (some 63) (.fieldAddr 26 (.tmp 9) 0) (some (61, false)),
  .mk (some 64) (.load 3 (.tmp 63)) (some (61, false)),
  .mk (some 65) (.indexAddr 22 (.tmp 62) (.tmp 64)) (some (61, false)),
  .mk (some 66) (.load 3 (.tmp 65)) (some (61, false)),
  .mk (some 67) (.binOp .neq 3 (.tmp 66) (.const (.int .i64 1604)) 3) (some (61, false)),
  .mk (some 68) (.pick (.tmp 61) (.const (.bool true)) (.tmp 67)) none,
  .mk (some 69) (.move (.tmp 68)) none,
  .mk (some 70) (.move (.tmp 0)) (some (69, false)),
  .mk (some 71) (.fieldAddr 26 (.tmp 9) 1) (some (69, false)),
  .mk (some 72) (.load 3 (.tmp 71)) (some (69, false)),
  .mk (some 73) (.indexAddr 22 (.tmp 70) (.tmp 72)) (some (69, false)),
  .mk (some 74) (.load 3 (.tmp 73)) (some (69, false)),
  .mk (some 75) (.call ⟨(.value (.func 7)), #[(.tmp 74)], #[3]⟩) (some (69, false)),
  .mk (some 76) (.unOp .not 4 (.tmp 75)) (some (69, false)),
  .mk (some 77) (.pick (.tmp 69) (.const (.bool true)) (.tmp 76)) none]
def r5_10 : List PS := [.mk (some 4) (.assign (.const (.bool false))) none]
def r5_11 : List PS := [.mk (some 78) (.move (.tmp 7)) none,
  .mk (some 79) (.fieldAddr 26 (.tmp 9) 0) none,
  .mk (some 80) (.load 3 (.tmp 79)) none,
  .mk (some 81) (.move (.tmp 7)) none,
  .mk (some 82) (.fieldAddr 26 (.tmp 9) 1) none,
  .mk (some 83) (.load 3 (.tmp 82)) none,
  .mk (some 84) (.indexAddr 37 (.tmp 78) (.tmp 80)) none,
  .mk none (.store 4 (.tmp 84) (.const (.bool true))) none,
  .mk (some 85) (.indexAddr 37 (.tmp 81) (.tmp 83)) none,
  .mk none (.store 4 (.tmp 85) (.const (.bool true))) none]
def r5_12 : List PS := [.mk (some 86) (.move (.tmp 6)) none,
  .mk (some 87) (.fieldAddr 26 (.tmp 9) 0) none,
  .mk (some 88) (.load 3 (.tmp 87)) none,
  .mk (some 89) (.call ⟨(.value (.func 18)), #[(.tmp 86), (.tmp 88)], #[22, 3]⟩) none,
  .mk (some 90) (.fieldAddr 26 (.tmp 9) 1) none,
  .mk (some 91) (.load 3 (.tmp 90)) none,
  .mk (some 92) (.binOp .neq 3 (.tmp 89) (.tmp 91) 3) none,
  .mk (some 93) (.move (.tmp 92)) none,
  .mk (some 94) (.move (.tmp 1)) (some (93, false)),
  .mk (some 95) (.unOp .not 4 (.tmp 94)) (some (93, false)),
  .mk (some 96) (.move (.tmp 95)) (some (93, false)),
  .mk (some 97) (.fieldAddr 26 (.tmp 9) 1) (some (96, true)),
  .mk (some 98) (.load 3 (.tmp 97)) (some (96, true)),
  .mk (some 99) (.fieldAddr 26 (.tmp 9) 0) (some (96, true)),
  .mk (some 100) (.load 3 (.tmp 99)) (some (96, true)),
  .mk (some 101) (.binOp .add 3 (.tmp 100) (.const (.int .i64 1)) 3) (some (96, true)),
  .mk (some 102) (.binOp .neq 3 (.tmp 98) (.tmp 101) 3) (some (96, true)),
  .mk (some 103) (.pick (.tmp 96) (.tmp 102) (.const (.bool false))) (some (93, false)),
  .mk (some 104) (.pick (.tmp 93) (.const (.bool true)) (.tmp 103)) none]
def r5_13 : List PS := [.mk (some 4) (.assign (.const (.bool false))) none]
def r5_14 : List PS := [.mk (some 105) (.binOp .add 3 (.tmp 26) (.const (.int .i64 1)) 3) none,
  .mk (some 26) (.move (.tmp 105)) none]
def r5_15 : List PS := [.mk (some 106) (.call ⟨(.value (.func 6)), #[], #[]⟩) none,
  .mk (some 4) (.assign (.tmp 106)) none]
def c5 : PC := (.seq (.reg false r5_0) (.seq (.seq (.reg false r5_1) (.cond (.tmp 12) (.seq (.reg false r5_2) .ret) .skip)) (.seq (.reg false r5_3) (.seq (.reg false r5_4) (.seq (.reg false r5_5) (.seq (.seq (.reg false r5_6) (.block 0 (.loop (.seq (.reg false r5_7) (.seq (.cond (.tmp 27) .skip (.exit 0)) (.seq (.block 1 (.seq (.reg false r5_8) (.seq (.seq (.reg false r5_9) (.cond (.tmp 77) (.seq (.reg false r5_10) .ret) .skip)) (.seq (.reg true r5_11) (.seq (.reg true r5_12) (.cond (.tmp 104) (.seq (.reg false r5_13) .ret) .skip)))))) (.reg false r5_14))))))) (.seq (.reg false r5_15) .ret)))))))
theorem e5 {args : List PV} {h : Heap} {K : PV → Heap → Prop} (hl : args.length = 2) (s : pwp Try.prog [9, 83] c5 (fin Try.prog [.tmp 4] h K) (slots0 (olds args)) h) : CanP Try.prog 5 args h K :=
  can_of2 (n := 107) mixed Try.func5 rfl (by kernel_rfl) (by rw [hl]; kernel_rfl) rfl (by kernel_rfl) s
end Go.Proofs.Ytnlpmgofeboieaa
