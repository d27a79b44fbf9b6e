/-
  The functions that the statements of this seat reach, told in short, and facts on their types. Printed by this project's own program.
  Conditions: none.
-/
import Derived.Test.YtdkhfgkcgioidaaPmO
import Derived.Test.YtdkhfgkcgioidaaProg
import Derived.KernelRfl
namespace Go.Proofs.Ytdkhfgkcgioidaa
open Go.Pm
set_option maxRecDepth 100000
set_option linter.unusedVariables false
theorem mixed : Try.prog.follows .mixedOrders = true := by kernel_rfl
theorem tag3 : tag Try.prog 3 = some false := by kernel_rfl
theorem tsz3 : tsz Try.prog 3 = some 1 := by kernel_rfl
theorem und3 : und Try.prog 3 = true := by kernel_rfl
theorem ik3 : ik Try.prog 3 = some .i64 := by kernel_rfl
theorem kd3 : kd Try.prog 3 = none := by kernel_rfl
theorem esz3 : esz Try.prog 3 = none := by kernel_rfl
theorem zc3 : zc Try.prog 3 = some [.int .i64 0] := by kernel_rfl
theorem ars3 : ars Try.prog 3 = none := by kernel_rfl
theorem tag4 : tag Try.prog 4 = some false := by kernel_rfl
theorem tsz4 : tsz Try.prog 4 = some 1 := by kernel_rfl
theorem und4 : und Try.prog 4 = true := by kernel_rfl
theorem ik4 : ik Try.prog 4 = none := by kernel_rfl
theorem kd4 : kd Try.prog 4 = some 3 := by kernel_rfl
theorem esz4 : esz Try.prog 4 = none := by kernel_rfl
theorem zc4 : zc Try.prog 4 = some [.bool false] := by kernel_rfl
theorem ars4 : ars Try.prog 4 = none := by kernel_rfl
theorem tag22 : tag Try.prog 22 = some false := by kernel_rfl
theorem tsz22 : tsz Try.prog 22 = some 1 := by kernel_rfl
theorem und22 : und Try.prog 22 = true := by kernel_rfl
theorem ik22 : ik Try.prog 22 = none := by kernel_rfl
theorem kd22 : kd Try.prog 22 = some 1 := by kernel_rfl
theorem esz22 : esz Try.prog 22 = some 1 := by kernel_rfl
theorem elt22 : elt Try.prog 22 = some 3 := by kernel_rfl
theorem zc22 : zc Try.prog 22 = some [.nils] := by kernel_rfl
theorem ars22 : ars Try.prog 22 = none := by kernel_rfl
theorem eli22 : eli Try.prog 22 = some (1, 8, [.int .i64 0]) := by kernel_rfl
theorem tag24 : tag Try.prog 24 = some false := by kernel_rfl
theorem tsz24 : tsz Try.prog 24 = some 1 := by kernel_rfl
theorem und24 : und Try.prog 24 = true := by kernel_rfl
theorem ik24 : ik Try.prog 24 = none := by kernel_rfl
theorem kd24 : kd Try.prog 24 = some 2 := by kernel_rfl
theorem esz24 : esz Try.prog 24 = none := by kernel_rfl
theorem zc24 : zc Try.prog 24 = some [.nilp] := by kernel_rfl
theorem ars24 : ars Try.prog 24 = none := by kernel_rfl
theorem tag26 : tag Try.prog 26 = some false := by kernel_rfl
theorem tsz26 : tsz Try.prog 26 = some 1 := by kernel_rfl
theorem und26 : und Try.prog 26 = true := by kernel_rfl
theorem ik26 : ik Try.prog 26 = none := by kernel_rfl
theorem kd26 : kd Try.prog 26 = some 2 := by kernel_rfl
theorem esz26 : esz Try.prog 26 = none := by kernel_rfl
theorem zc26 : zc Try.prog 26 = some [.nilp] := by kernel_rfl
theorem ars26 : ars Try.prog 26 = none := by kernel_rfl
theorem tag31 : tag Try.prog 31 = some false := by kernel_rfl
theorem tsz31 : tsz Try.prog 31 = some 1 := by kernel_rfl
theorem und31 : und Try.prog 31 = true := by kernel_rfl
theorem ik31 : ik Try.prog 31 = none := by kernel_rfl
theorem kd31 : kd Try.prog 31 = some 2 := by kernel_rfl
theorem esz31 : esz Try.prog 31 = none := by kernel_rfl
theorem zc31 : zc Try.prog 31 = some [.nilp] := by kernel_rfl
theorem ars31 : ars Try.prog 31 = none := by kernel_rfl
theorem tag33 : tag Try.prog 33 = some true := by kernel_rfl
theorem tsz33 : tsz Try.prog 33 = some 2 := by kernel_rfl
theorem und33 : und Try.prog 33 = true := by kernel_rfl
theorem ik33 : ik Try.prog 33 = none := by kernel_rfl
theorem kd33 : kd Try.prog 33 = none := by kernel_rfl
theorem esz33 : esz Try.prog 33 = none := by kernel_rfl
theorem zc33 : zc Try.prog 33 = some [.nilp, .nilp] := by kernel_rfl
theorem ars33 : ars Try.prog 33 = none := by kernel_rfl
theorem fld33_0 : fld Try.prog 33 0 = some (0, false, 1) := by kernel_rfl
theorem fld33_1 : fld Try.prog 33 1 = some (1, false, 1) := by kernel_rfl
theorem plc33 : plc Try.prog 33 = some fun i => [(0, 1), (1, 1)][i]? := by kernel_rfl
theorem tag35 : tag Try.prog 35 = some true := by kernel_rfl
theorem tsz35 : tsz Try.prog 35 = some 2 := by kernel_rfl
theorem und35 : und Try.prog 35 = true := by kernel_rfl
theorem ik35 : ik Try.prog 35 = none := by kernel_rfl
theorem kd35 : kd Try.prog 35 = none := by kernel_rfl
theorem esz35 : esz Try.prog 35 = none := by kernel_rfl
theorem zc35 : zc Try.prog 35 = some [.nilp, .nilp] := by kernel_rfl
theorem ars35 : ars Try.prog 35 = none := by kernel_rfl
theorem fld35_0 : fld Try.prog 35 0 = some (0, true, 2) := by kernel_rfl
theorem plc35 : plc Try.prog 35 = some fun i => [(0, 2)][i]? := by kernel_rfl
theorem tag42 : tag Try.prog 42 = some false := by kernel_rfl
theorem tsz42 : tsz Try.prog 42 = some 1 := by kernel_rfl
theorem und42 : und Try.prog 42 = true := by kernel_rfl
theorem ik42 : ik Try.prog 42 = some .i64 := by kernel_rfl
theorem kd42 : kd Try.prog 42 = none := by kernel_rfl
theorem esz42 : esz Try.prog 42 = none := by kernel_rfl
theorem zc42 : zc Try.prog 42 = some [.int .i64 0] := by kernel_rfl
theorem ars42 : ars Try.prog 42 = none := by kernel_rfl
theorem tag45 : tag Try.prog 45 = some false := by kernel_rfl
theorem tsz45 : tsz Try.prog 45 = some 1 := by kernel_rfl
theorem und45 : und Try.prog 45 = true := by kernel_rfl
theorem ik45 : ik Try.prog 45 = none := by kernel_rfl
theorem kd45 : kd Try.prog 45 = some 1 := by kernel_rfl
theorem esz45 : esz Try.prog 45 = some 3 := by kernel_rfl
theorem elt45 : elt Try.prog 45 = some 65 := by kernel_rfl
theorem zc45 : zc Try.prog 45 = some [.nils] := by kernel_rfl
theorem ars45 : ars Try.prog 45 = none := by kernel_rfl
theorem eli45 : eli Try.prog 45 = some (3, 24, [.int .i64 0, .int .i64 0, .int .i64 0]) := by kernel_rfl
theorem tag48 : tag Try.prog 48 = some true := by kernel_rfl
theorem tsz48 : tsz Try.prog 48 = some 2 := by kernel_rfl
theorem und48 : und Try.prog 48 = true := by kernel_rfl
theorem ik48 : ik Try.prog 48 = none := by kernel_rfl
theorem kd48 : kd Try.prog 48 = none := by kernel_rfl
theorem esz48 : esz Try.prog 48 = none := by kernel_rfl
theorem zc48 : zc Try.prog 48 = some [.nilp, .nilp] := by kernel_rfl
theorem ars48 : ars Try.prog 48 = none := by kernel_rfl
theorem fld48_0 : fld Try.prog 48 0 = some (0, false, 1) := by kernel_rfl
theorem fld48_1 : fld Try.prog 48 1 = some (1, false, 1) := by kernel_rfl
theorem plc48 : plc Try.prog 48 = some fun i => [(0, 1), (1, 1)][i]? := by kernel_rfl
theorem tag50 : tag Try.prog 50 = some true := by kernel_rfl
theorem tsz50 : tsz Try.prog 50 = some 2 := by kernel_rfl
theorem und50 : und Try.prog 50 = true := by kernel_rfl
theorem ik50 : ik Try.prog 50 = none := by kernel_rfl
theorem kd50 : kd Try.prog 50 = none := by kernel_rfl
theorem esz50 : esz Try.prog 50 = none := by kernel_rfl
theorem zc50 : zc Try.prog 50 = some [.nilp, .nilp] := by kernel_rfl
theorem ars50 : ars Try.prog 50 = none := by kernel_rfl
theorem fld50_0 : fld Try.prog 50 0 = some (0, true, 2) := by kernel_rfl
theorem plc50 : plc Try.prog 50 = some fun i => [(0, 2)][i]? := by kernel_rfl
theorem tag54 : tag Try.prog 54 = some false := by kernel_rfl
theorem tsz54 : tsz Try.prog 54 = some 1 := by kernel_rfl
theorem und54 : und Try.prog 54 = true := by kernel_rfl
theorem ik54 : ik Try.prog 54 = none := by kernel_rfl
theorem kd54 : kd Try.prog 54 = some 1 := by kernel_rfl
theorem esz54 : esz Try.prog 54 = some 128 := by kernel_rfl
theorem elt54 : elt Try.prog 54 = some 60 := by kernel_rfl
theorem zc54 : zc Try.prog 54 = some [.nils] := by kernel_rfl
theorem ars54 : ars Try.prog 54 = none := by kernel_rfl
theorem eli54 : eli Try.prog 54 = some (128, 1024, List.replicate 128 (.int .i64 0)) := by kernel_rfl
theorem tag56 : tag Try.prog 56 = some true := by kernel_rfl
theorem tsz56 : tsz Try.prog 56 = some 2 := by kernel_rfl
theorem und56 : und Try.prog 56 = true := by kernel_rfl
theorem ik56 : ik Try.prog 56 = none := by kernel_rfl
theorem kd56 : kd Try.prog 56 = none := by kernel_rfl
theorem esz56 : esz Try.prog 56 = none := by kernel_rfl
theorem zc56 : zc Try.prog 56 = some [.nils, .nils] := by kernel_rfl
theorem ars56 : ars Try.prog 56 = none := by kernel_rfl
theorem fld56_0 : fld Try.prog 56 0 = some (0, false, 1) := by kernel_rfl
theorem fld56_1 : fld Try.prog 56 1 = some (1, false, 1) := by kernel_rfl
theorem plc56 : plc Try.prog 56 = some fun i => [(0, 1), (1, 1)][i]? := by kernel_rfl
theorem tag58 : tag Try.prog 58 = some true := by kernel_rfl
theorem tsz58 : tsz Try.prog 58 = some 4 := by kernel_rfl
theorem und58 : und Try.prog 58 = true := by kernel_rfl
theorem ik58 : ik Try.prog 58 = none := by kernel_rfl
theorem kd58 : kd Try.prog 58 = none := by kernel_rfl
theorem esz58 : esz Try.prog 58 = none := by kernel_rfl
theorem zc58 : zc Try.prog 58 = some [.nils, .nils, .int .i64 0, .bool false] := by kernel_rfl
theorem ars58 : ars Try.prog 58 = none := by kernel_rfl
theorem fld58_0 : fld Try.prog 58 0 = some (0, true, 2) := by kernel_rfl
theorem fld58_1 : fld Try.prog 58 1 = some (2, false, 1) := by kernel_rfl
theorem fld58_2 : fld Try.prog 58 2 = some (3, false, 1) := by kernel_rfl
theorem plc58 : plc Try.prog 58 = some fun i => [(0, 2), (2, 1), (3, 1)][i]? := by kernel_rfl
theorem tag60 : tag Try.prog 60 = some true := by kernel_rfl
theorem tsz60 : tsz Try.prog 60 = some 128 := by kernel_rfl
theorem und60 : und Try.prog 60 = true := by kernel_rfl
theorem ik60 : ik Try.prog 60 = none := by kernel_rfl
theorem kd60 : kd Try.prog 60 = some 266 := by kernel_rfl
theorem esz60 : esz Try.prog 60 = none := by kernel_rfl
theorem zc60 : zc Try.prog 60 = some (List.replicate 128 (.int .i64 0)) := by kernel_rfl
theorem ars60 : ars Try.prog 60 = some (128, 1, false) := by kernel_rfl
theorem plc60 : plc Try.prog 60 = some fun i => some (i * 1, 1) := by kernel_rfl
theorem tag65 : tag Try.prog 65 = some true := by kernel_rfl
theorem tsz65 : tsz Try.prog 65 = some 3 := by kernel_rfl
theorem und65 : und Try.prog 65 = true := by kernel_rfl
theorem ik65 : ik Try.prog 65 = none := by kernel_rfl
theorem kd65 : kd Try.prog 65 = some 16 := by kernel_rfl
theorem esz65 : esz Try.prog 65 = none := by kernel_rfl
theorem zc65 : zc Try.prog 65 = some [.int .i64 0, .int .i64 0, .int .i64 0] := by kernel_rfl
theorem ars65 : ars Try.prog 65 = none := by kernel_rfl
theorem fld65_0 : fld Try.prog 65 0 = some (0, false, 1) := by kernel_rfl
theorem fld65_1 : fld Try.prog 65 1 = some (1, false, 1) := by kernel_rfl
theorem fld65_2 : fld Try.prog 65 2 = some (2, false, 1) := by kernel_rfl
theorem plc65 : plc Try.prog 65 = some fun i => [(0, 1), (1, 1), (2, 1)][i]? := by kernel_rfl
theorem tag68 : tag Try.prog 68 = some false := by kernel_rfl
theorem tsz68 : tsz Try.prog 68 = some 1 := by kernel_rfl
theorem und68 : und Try.prog 68 = true := by kernel_rfl
theorem ik68 : ik Try.prog 68 = none := by kernel_rfl
theorem kd68 : kd Try.prog 68 = some 2 := by kernel_rfl
theorem esz68 : esz Try.prog 68 = none := by kernel_rfl
theorem zc68 : zc Try.prog 68 = some [.nilp] := by kernel_rfl
theorem ars68 : ars Try.prog 68 = none := by kernel_rfl
theorem ft : (tag Try.prog 3 = some false) ∧
    (tsz Try.prog 3 = some 1) ∧
    (und Try.prog 3 = true) ∧
    (ik Try.prog 3 = some .i64) ∧
    (kd Try.prog 3 = none) ∧
    (esz Try.prog 3 = none) ∧
    (zc Try.prog 3 = some [.int .i64 0]) ∧
    (ars Try.prog 3 = none) ∧
    (tag Try.prog 4 = some false) ∧
    (tsz Try.prog 4 = some 1) ∧
    (und Try.prog 4 = true) ∧
    (ik Try.prog 4 = none) ∧
    (kd Try.prog 4 = some 3) ∧
    (esz Try.prog 4 = none) ∧
    (zc Try.prog 4 = some [.bool false]) ∧
    (ars Try.prog 4 = none) ∧
    (tag Try.prog 22 = some false) ∧
    (tsz Try.prog 22 = some 1) ∧
    (und Try.prog 22 = true) ∧
    (ik Try.prog 22 = none) ∧
    (kd Try.prog 22 = some 1) ∧
    (esz Try.prog 22 = some 1) ∧
    (elt Try.prog 22 = some 3) ∧
    (zc Try.prog 22 = some [.nils]) ∧
    (ars Try.prog 22 = none) ∧
    (eli Try.prog 22 = some (1, 8, [.int .i64 0])) ∧
    (tag Try.prog 24 = some false) ∧
    (tsz Try.prog 24 = some 1) ∧
    (und Try.prog 24 = true) ∧
    (ik Try.prog 24 = none) ∧
    (kd Try.prog 24 = some 2) ∧
    (esz Try.prog 24 = none) ∧
    (zc Try.prog 24 = some [.nilp]) ∧
    (ars Try.prog 24 = none) ∧
    (tag Try.prog 26 = some false) ∧
    (tsz Try.prog 26 = some 1) ∧
    (und Try.prog 26 = true) ∧
    (ik Try.prog 26 = none) ∧
    (kd Try.prog 26 = some 2) ∧
    (esz Try.prog 26 = none) ∧
    (zc Try.prog 26 = some [.nilp]) ∧
    (ars Try.prog 26 = none) ∧
    (tag Try.prog 31 = some false) ∧
    (tsz Try.prog 31 = some 1) ∧
    (und Try.prog 31 = true) ∧
    (ik Try.prog 31 = none) ∧
    (kd Try.prog 31 = some 2) ∧
    (esz Try.prog 31 = none) ∧
    (zc Try.prog 31 = some [.nilp]) ∧
    (ars Try.prog 31 = none) ∧
    (tag Try.prog 33 = some true) ∧
    (tsz Try.prog 33 = some 2) ∧
    (und Try.prog 33 = true) ∧
    (ik Try.prog 33 = none) ∧
    (kd Try.prog 33 = none) ∧
    (esz Try.prog 33 = none) ∧
    (zc Try.prog 33 = some [.nilp, .nilp]) ∧
    (ars Try.prog 33 = none) ∧
    (fld Try.prog 33 0 = some (0, false, 1)) ∧
    (fld Try.prog 33 1 = some (1, false, 1)) ∧
    (plc Try.prog 33 = some fun i => [(0, 1), (1, 1)][i]?) ∧
    (tag Try.prog 35 = some true) ∧
    (tsz Try.prog 35 = some 2) ∧
    (und Try.prog 35 = true) ∧
    (ik Try.prog 35 = none) ∧
    (kd Try.prog 35 = none) ∧
    (esz Try.prog 35 = none) ∧
    (zc Try.prog 35 = some [.nilp, .nilp]) ∧
    (ars Try.prog 35 = none) ∧
    (fld Try.prog 35 0 = some (0, true, 2)) ∧
    (plc Try.prog 35 = some fun i => [(0, 2)][i]?) ∧
    (tag Try.prog 42 = some false) ∧
    (tsz Try.prog 42 = some 1) ∧
    (und Try.prog 42 = true) ∧
    (ik Try.prog 42 = some .i64) ∧
    (kd Try.prog 42 = none) ∧
    (esz Try.prog 42 = none) ∧
    (zc Try.prog 42 = some [.int .i64 0]) ∧
    (ars Try.prog 42 = none) ∧
    (tag Try.prog 45 = some false) ∧
    (tsz Try.prog 45 = some 1) ∧
    (und Try.prog 45 = true) ∧
    (ik Try.prog 45 = none) ∧
    (kd Try.prog 45 = some 1) ∧
    (esz Try.prog 45 = some 3) ∧
    (elt Try.prog 45 = some 65) ∧
    (zc Try.prog 45 = some [.nils]) ∧
    (ars Try.prog 45 = none) ∧
    (eli Try.prog 45 = some (3, 24, [.int .i64 0, .int .i64 0, .int .i64 0])) ∧
    (tag Try.prog 48 = some true) ∧
    (tsz Try.prog 48 = some 2) ∧
    (und Try.prog 48 = true) ∧
    (ik Try.prog 48 = none) ∧
    (kd Try.prog 48 = none) ∧
    (esz Try.prog 48 = none) ∧
    (zc Try.prog 48 = some [.nilp, .nilp]) ∧
    (ars Try.prog 48 = none) ∧
    (fld Try.prog 48 0 = some (0, false, 1)) ∧
    (fld Try.prog 48 1 = some (1, false, 1)) ∧
    (plc Try.prog 48 = some fun i => [(0, 1), (1, 1)][i]?) ∧
    (tag Try.prog 50 = some true) ∧
    (tsz Try.prog 50 = some 2) ∧
    (und Try.prog 50 = true) ∧
    (ik Try.prog 50 = none) ∧
    (kd Try.prog 50 = none) ∧
    (esz Try.prog 50 = none) ∧
    (zc Try.prog 50 = some [.nilp, .nilp]) ∧
    (ars Try.prog 50 = none) ∧
    (fld Try.prog 50 0 = some (0, true, 2)) ∧
    (plc Try.prog 50 = some fun i => [(0, 2)][i]?) ∧
    (tag Try.prog 54 = some false) ∧
    (tsz Try.prog 54 = some 1) ∧
    (und Try.prog 54 = true) ∧
    (ik Try.prog 54 = none) ∧
    (kd Try.prog 54 = some 1) ∧
    (esz Try.prog 54 = some 128) ∧
    (elt Try.prog 54 = some 60) ∧
    (zc Try.prog 54 = some [.nils]) ∧
    (ars Try.prog 54 = none) ∧
    (eli Try.prog 54 = some (128, 1024, List.replicate 128 (.int .i64 0))) ∧
    (tag Try.prog 56 = some true) ∧
    (tsz Try.prog 56 = some 2) ∧
    (und Try.prog 56 = true) ∧
    (ik Try.prog 56 = none) ∧
    (kd Try.prog 56 = none) ∧
    (esz Try.prog 56 = none) ∧
    (zc Try.prog 56 = some [.nils, .nils]) ∧
    (ars Try.prog 56 = none) ∧
    (fld Try.prog 56 0 = some (0, false, 1)) ∧
    (fld Try.prog 56 1 = some (1, false, 1)) ∧
    (plc Try.prog 56 = some fun i => [(0, 1), (1, 1)][i]?) ∧
    (tag Try.prog 58 = some true) ∧
    (tsz Try.prog 58 = some 4) ∧
    (und Try.prog 58 = true) ∧
    (ik Try.prog 58 = none) ∧
    (kd Try.prog 58 = none) ∧
    (esz Try.prog 58 = none) ∧
    (zc Try.prog 58 = some [.nils, .nils, .int .i64 0, .bool false]) ∧
    (ars Try.prog 58 = none) ∧
    (fld Try.prog 58 0 = some (0, true, 2)) ∧
    (fld Try.prog 58 1 = some (2, false, 1)) ∧
    (fld Try.prog 58 2 = some (3, false, 1)) ∧
    (plc Try.prog 58 = some fun i => [(0, 2), (2, 1), (3, 1)][i]?) ∧
    (tag Try.prog 60 = some true) ∧
    (tsz Try.prog 60 = some 128) ∧
    (und Try.prog 60 = true) ∧
    (ik Try.prog 60 = none) ∧
    (kd Try.prog 60 = some 266) ∧
    (esz Try.prog 60 = none) ∧
    (zc Try.prog 60 = some (List.replicate 128 (.int .i64 0))) ∧
    (ars Try.prog 60 = some (128, 1, false)) ∧
    (plc Try.prog 60 = some fun i => some (i * 1, 1)) ∧
    (tag Try.prog 65 = some true) ∧
    (tsz Try.prog 65 = some 3) ∧
    (und Try.prog 65 = true) ∧
    (ik Try.prog 65 = none) ∧
    (kd Try.prog 65 = some 16) ∧
    (esz Try.prog 65 = none) ∧
    (zc Try.prog 65 = some [.int .i64 0, .int .i64 0, .int .i64 0]) ∧
    (ars Try.prog 65 = none) ∧
    (fld Try.prog 65 0 = some (0, false, 1)) ∧
    (fld Try.prog 65 1 = some (1, false, 1)) ∧
    (fld Try.prog 65 2 = some (2, false, 1)) ∧
    (plc Try.prog 65 = some fun i => [(0, 1), (1, 1), (2, 1)][i]?) ∧
    (tag Try.prog 68 = some false) ∧
    (tsz Try.prog 68 = some 1) ∧
    (und Try.prog 68 = true) ∧
    (ik Try.prog 68 = none) ∧
    (kd Try.prog 68 = some 2) ∧
    (esz Try.prog 68 = none) ∧
    (zc Try.prog 68 = some [.nilp]) ∧
    (ars Try.prog 68 = none) :=
  ⟨tag3, tsz3, und3, ik3, kd3, esz3, zc3, ars3, tag4, tsz4, und4, ik4, kd4, esz4, zc4, ars4, tag22, tsz22, und22, ik22, kd22, esz22, elt22, zc22, ars22, eli22, tag24, tsz24, und24, ik24, kd24, esz24, zc24, ars24, tag26, tsz26, und26, ik26, kd26, esz26, zc26, ars26, tag31, tsz31, und31, ik31, kd31, esz31, zc31, ars31, tag33, tsz33, und33, ik33, kd33, esz33, zc33, ars33, fld33_0, fld33_1, plc33, tag35, tsz35, und35, ik35, kd35, esz35, zc35, ars35, fld35_0, plc35, tag42, tsz42, und42, ik42, kd42, esz42, zc42, ars42, tag45, tsz45, und45, ik45, kd45, esz45, elt45, zc45, ars45, eli45, tag48, tsz48, und48, ik48, kd48, esz48, zc48, ars48, fld48_0, fld48_1, plc48, tag50, tsz50, und50, ik50, kd50, esz50, zc50, ars50, fld50_0, plc50, tag54, tsz54, und54, ik54, kd54, esz54, elt54, zc54, ars54, eli54, tag56, tsz56, und56, ik56, kd56, esz56, zc56, ars56, fld56_0, fld56_1, plc56, tag58, tsz58, und58, ik58, kd58, esz58, zc58, ars58, fld58_0, fld58_1, fld58_2, plc58, tag60, tsz60, und60, ik60, kd60, esz60, zc60, ars60, plc60, tag65, tsz65, und65, ik65, kd65, esz65, zc65, ars65, fld65_0, fld65_1, fld65_2, plc65, tag68, tsz68, und68, ik68, kd68, esz68, zc68, ars68⟩
/-! ### naskh.trie.may: function 30 -/
def r30_0 : List PS := [.mk (some 2) (.assign (.const (.int .i64 0))) none]
def r30_1 : List PS := [.mk (some 6) (.move (.tmp 0)) none,
  .mk (some 7) (.call ⟨(.builtin .len), #[(.tmp 6)], #[45]⟩) none,
  .mk (some 8) (.binOp .gtr 3 (.tmp 7) (.const (.int .i64 4096)) 3) none]
def r30_2 : List PS := [.mk (some 2) (.assign (.const (.int .i64 6))) none]
def r30_3 : List PS := [.mk (some 3) (.assign (.const (.int .i64 (-1)))) none]
def r30_4 : List PS := [.mk (some 9) (.move (.tmp 0)) none,
  .mk (some 10) (.call ⟨(.builtin .len), #[(.tmp 9)], #[45]⟩) none,
  .mk (some 11) (.move (.const (.int .i64 0))) none]
def r30_5 : List PS := [.mk (some 12) (.binOp .lss 3 (.tmp 11) (.tmp 10) 3) none]
def r30_6 : List PS := [.mk (some 13) (.indexAddr 45 (.tmp 9) (.tmp 11)) none,
  .mk (some 14) (.load 65 (.tmp 13)) none,
  .mk (some 5) (.alloc 65) none,
  .mk none (.store 65 (.tmp 5) (.tmp 14)) none,
  .frz 5]
def r30_7 : List PS := [.mk (some 15) (.fieldAddr 65 (.tmp 5) 0) none,
  .mk (some 16) (.load 3 (.tmp 15)) none,
  .mk (some 17) (.move (.tmp 3)) none,
  .mk (some 18) (.binOp .leq 3 (.tmp 16) (.tmp 17) 3) none,
  .mk (some 19) (.move (.tmp 18)) none,
  .mk (some 20) (.fieldAddr 65 (.tmp 5) 1) (some (19, false)),
  .mk (some 21) (.load 3 (.tmp 20)) (some (19, false)),
  .mk (some 22) (.fieldAddr 65 (.tmp 5) 0) (some (19, false)),
  .mk (some 23) (.load 3 (.tmp 22)) (some (19, false)),
  .mk (some 24) (.binOp .lss 3 (.tmp 21) (.tmp 23) 3) (some (19, false)),
  .mk (some 25) (.pick (.tmp 19) (.const (.bool true)) (.tmp 24)) none,
  .mk (some 26) (.move (.tmp 25)) none,
  .mk (some 27) (.fieldAddr 65 (.tmp 5) 1) (some (26, false)),
  .mk (some 28) (.load 3 (.tmp 27)) (some (26, false)),
  .mk (some 29) (.binOp .gtr 3 (.tmp 28) (.const (.int .i64 1114111)) 3) (some (26, false)),
  .mk (some 30) (.pick (.tmp 26) (.const (.bool true)) (.tmp 29)) none]
def r30_8 : List PS := [.mk (some 2) (.assign (.const (.int .i64 10))) none]
def r30_9 : List PS := [.mk (some 31) (.fieldAddr 65 (.tmp 5) 1) none,
  .mk (some 32) (.load 3 (.tmp 31)) none,
  .mk (some 3) (.assign (.tmp 32)) none]
def r30_10 : List PS := [.mk (some 33) (.binOp .add 3 (.tmp 11) (.const (.int .i64 1)) 3) none,
  .mk (some 11) (.move (.tmp 33)) none]
def r30_11 : List PS := [.mk (some 2) (.assign (.const (.int .i64 0))) none]
def c30 : PC := (.seq (.reg false r30_0) (.seq (.seq (.reg false r30_1) (.cond (.tmp 8) (.seq (.reg false r30_2) .ret) .skip)) (.seq (.reg false r30_3) (.seq (.seq (.reg false r30_4) (.block 0 (.loop (.seq (.reg false r30_5) (.seq (.cond (.tmp 12) .skip (.exit 0)) (.seq (.block 1 (.seq (.reg false r30_6) (.seq (.seq (.reg false r30_7) (.cond (.tmp 30) (.seq (.reg false r30_8) .ret) .skip)) (.reg false r30_9)))) (.reg false r30_10))))))) (.seq (.reg false r30_11) .ret)))))
theorem e30 {args : List PV} {h : Heap} {K : PV → Heap → Prop} (hl : args.length = 1) (s : pwp Try.prog [5] c30 (fin Try.prog [.tmp 2] h K) (slots0 (olds args)) h) : CanP Try.prog 30 args h K :=
  can_of2 (n := 34) mixed Try.func30 rfl (by kernel_rfl) (by rw [hl]; kernel_rfl) rfl (by kernel_rfl) s
/-! ### naskh.trie.even: function 38 -/
def r38_0 : List PS := [.mk (some 2) (.alloc 60) none]
def r38_1 : List PS := [.mk (some 3) (.alloc 60) none]
def r38_2 : List PS := [.mk (some 5) (.move (.const (.int .i64 0))) none]
def r38_3 : List PS := [.mk (some 6) (.binOp .lss 3 (.tmp 5) (.const (.int .i64 128)) 3) none]
def r38_4 : List PS := [.mk (some 7) (.move (.tmp 5)) none,
  .mk (some 4) (.assign (.tmp 7)) none]
def r38_5 : List PS := [.mk (some 8) (.move (.tmp 4)) none,
  .mk (some 9) (.move (.tmp 0)) none,
  .mk (some 10) (.indexAddr 60 (.tmp 3) (.tmp 8)) none,
  .mk none (.store 3 (.tmp 10) (.tmp 9)) none]
def r38_6 : List PS := [.mk (some 11) (.binOp .add 3 (.tmp 5) (.const (.int .i64 1)) 3) none,
  .mk (some 5) (.move (.tmp 11)) none]
def r38_7 : List PS := [.mk (some 12) (.load 60 (.tmp 3)) none,
  .mk none (.store 60 (.tmp 2) (.tmp 12)) none]
def c38 : PC := (.seq (.reg false r38_0) (.seq (.reg false r38_1) (.seq (.seq (.reg false r38_2) (.block 0 (.loop (.seq (.reg false r38_3) (.seq (.cond (.tmp 6) .skip (.exit 0)) (.seq (.block 1 (.seq (.reg false r38_4) (.reg false r38_5))) (.reg false r38_6))))))) (.seq (.reg false r38_7) .ret))))
theorem e38 {args : List PV} {h : Heap} {K : PV → Heap → Prop} (hl : args.length = 1) (s : pwp Try.prog [2, 3] c38 (fin Try.prog [.cell 2 60] h K) (slots0 (olds args)) h) : CanP Try.prog 38 args h K :=
  can_of2 (n := 13) mixed Try.func38 rfl (by kernel_rfl) (by rw [hl]; kernel_rfl) rfl (by kernel_rfl) s
/-! ### naskh.trie.filled: function 31 -/
def r31_0 : List PS := [.mk (some 8) (.alloc 60) none,
  .mk (some 9) (.assign (.const (.int .i64 0))) none]
def r31_1 : List PS := [.mk (some 14) (.move (.tmp 3)) none,
  .mk (some 15) (.call ⟨(.value (.func 38)), #[(.tmp 14)], #[3]⟩) none,
  .mk (some 10) (.alloc 60) none,
  .mk none (.store 60 (.tmp 10) (.tmp 15)) none]
def r31_2 : List PS := [.mk (some 16) (.move (.tmp 1)) none,
  .mk (some 17) (.binOp .mul 3 (.tmp 16) (.const (.int .i64 128)) 3) none,
  .mk (some 11) (.assign (.tmp 17)) none]
def r31_3 : List PS := [.mk (some 18) (.move (.tmp 2)) none,
  .mk (some 19) (.move (.tmp 0)) none,
  .mk (some 20) (.call ⟨(.builtin .len), #[(.tmp 19)], #[45]⟩) none,
  .mk (some 21) (.binOp .lss 3 (.tmp 18) (.tmp 20) 3) none,
  .mk (some 22) (.move (.tmp 21)) none,
  .mk (some 23) (.move (.tmp 0)) (some (22, true)),
  .mk (some 24) (.move (.tmp 2)) (some (22, true)),
  .mk (some 25) (.indexAddr 45 (.tmp 23) (.tmp 24)) (some (22, true)),
  .mk (some 26) (.fieldAddr 65 (.tmp 25) 0) (some (22, true)),
  .mk (some 27) (.load 3 (.tmp 26)) (some (22, true)),
  .mk (some 28) (.move (.tmp 11)) (some (22, true)),
  .mk (some 29) (.binOp .add 3 (.tmp 28) (.const (.int .i64 128)) 3) (some (22, true)),
  .mk (some 30) (.binOp .lss 3 (.tmp 27) (.tmp 29) 3) (some (22, true)),
  .mk (some 31) (.pick (.tmp 22) (.tmp 30) (.const (.bool false))) none]
def r31_4 : List PS := [.mk (some 34) (.move (.tmp 0)) none,
  .mk (some 35) (.move (.tmp 2)) none,
  .mk (some 36) (.indexAddr 45 (.tmp 34) (.tmp 35)) none,
  .mk (some 37) (.load 65 (.tmp 36)) none,
  .mk (some 12) (.alloc 65) none,
  .mk none (.store 65 (.tmp 12) (.tmp 37)) none,
  .frz 12]
def r31_5 : List PS := [.mk (some 38) (.fieldAddr 65 (.tmp 12) 0) none,
  .mk (some 39) (.load 3 (.tmp 38)) none,
  .mk (some 40) (.move (.tmp 11)) none,
  .mk (some 41) (.call ⟨(.builtin .max), #[(.tmp 39), (.tmp 40)], #[3, 3]⟩) none,
  .mk (some 13) (.assign (.tmp 41)) none]
def r31_6 : List PS := [.mk (some 42) (.move (.tmp 13)) none,
  .mk (some 43) (.fieldAddr 65 (.tmp 12) 1) none,
  .mk (some 44) (.load 3 (.tmp 43)) none,
  .mk (some 45) (.move (.tmp 11)) none,
  .mk (some 46) (.binOp .add 3 (.tmp 45) (.const (.int .i64 128)) 3) none,
  .mk (some 47) (.binOp .sub 3 (.tmp 46) (.const (.int .i64 1)) 3) none,
  .mk (some 48) (.call ⟨(.builtin .min), #[(.tmp 44), (.tmp 47)], #[3, 3]⟩) none,
  .mk (some 49) (.binOp .leq 3 (.tmp 42) (.tmp 48) 3) none]
def r31_7 : List PS := [.mk (some 52) (.move (.tmp 13)) none,
  .mk (some 53) (.move (.tmp 11)) none,
  .mk (some 54) (.binOp .sub 3 (.tmp 52) (.tmp 53) 3) none,
  .mk (some 55) (.fieldAddr 65 (.tmp 12) 2) none,
  .mk (some 56) (.load 3 (.tmp 55)) none,
  .mk (some 57) (.indexAddr 60 (.tmp 10) (.tmp 54)) none,
  .mk none (.store 3 (.tmp 57) (.tmp 56)) none]
def r31_8 : List PS := [.mk (some 50) (.move (.tmp 13)) none,
  .mk (some 51) (.binOp .add 3 (.tmp 50) (.const (.int .i64 1)) 3) none,
  .mk (some 13) (.assign (.tmp 51)) none]
def r31_9 : List PS := [.mk (some 58) (.fieldAddr 65 (.tmp 12) 1) none,
  .mk (some 59) (.load 3 (.tmp 58)) none,
  .mk (some 60) (.move (.tmp 11)) none,
  .mk (some 61) (.binOp .add 3 (.tmp 60) (.const (.int .i64 128)) 3) none,
  .mk (some 62) (.binOp .geq 3 (.tmp 59) (.tmp 61) 3) none]
def r31_10 : List PS := [.mk (some 32) (.move (.tmp 2)) none,
  .mk (some 33) (.binOp .add 3 (.tmp 32) (.const (.int .i64 1)) 3) none,
  .mk (some 2) (.assign (.tmp 33)) none]
def r31_11 : List PS := [.mk (some 63) (.load 60 (.tmp 10)) none,
  .mk (some 64) (.move (.tmp 2)) none,
  .mk none (.store 60 (.tmp 8) (.tmp 63)) none,
  .mk (some 9) (.assign (.tmp 64)) none]
def c31 : PC := (.seq (.reg false r31_0) (.seq (.reg false r31_1) (.seq (.reg false r31_2) (.seq (.block 0 (.loop (.seq (.seq (.reg false r31_3) (.cond (.tmp 31) .skip (.exit 0))) (.seq (.block 1 (.seq (.reg false r31_4) (.seq (.seq (.reg false r31_5) (.block 2 (.loop (.seq (.seq (.reg false r31_6) (.cond (.tmp 49) .skip (.exit 2))) (.seq (.block 3 (.reg false r31_7)) (.reg false r31_8)))))) (.seq (.reg false r31_9) (.cond (.tmp 62) (.exit 0) .skip))))) (.reg false r31_10))))) (.seq (.reg false r31_11) .ret)))))
theorem e31 {args : List PV} {h : Heap} {K : PV → Heap → Prop} (hl : args.length = 4) (s : pwp Try.prog [8, 10, 12] c31 (fin Try.prog [.cell 8 60, .tmp 9] h K) (slots0 (olds args)) h) : CanP Try.prog 31 args h K :=
  can_of2 (n := 65) mixed Try.func31 rfl (by kernel_rfl) (by rw [hl]; kernel_rfl) rfl (by kernel_rfl) s
/-! ### (*naskh.trie.stages).add: function 32 -/
def r32_0 : List PS := [.mk (some 3) (.box 60 (.tmp 1)) none,
  .mk (some 4) (.assign (.const (.int .i64 0))) none]
def r32_1 : List PS := [.mk (some 6) (.move (.tmp 0)) none,
  .mk (some 7) (.nilCheck (.tmp 6)) none,
  .mk (some 8) (.fieldAddr 56 (.tmp 7) 1) none,
  .mk (some 9) (.load 54 (.tmp 8)) none,
  .mk (some 10) (.call ⟨(.builtin .len), #[(.tmp 9)], #[54]⟩) none,
  .mk (some 11) (.move (.const (.int .i64 0))) none]
def r32_2 : List PS := [.mk (some 12) (.binOp .lss 3 (.tmp 11) (.tmp 10) 3) none]
def r32_3 : List PS := [.mk (some 13) (.move (.tmp 11)) none,
  .mk (some 5) (.assign (.tmp 13)) none]
def r32_4 : List PS := [.mk (some 14) (.move (.tmp 0)) none,
  .mk (some 15) (.nilCheck (.tmp 14)) none,
  .mk (some 16) (.fieldAddr 56 (.tmp 15) 1) none,
  .mk (some 17) (.load 54 (.tmp 16)) none,
  .mk (some 18) (.move (.tmp 5)) none,
  .mk (some 19) (.indexAddr 54 (.tmp 17) (.tmp 18)) none,
  .mk (some 20) (.load 60 (.tmp 19)) none,
  .mk (some 21) (.load 60 (.tmp 3)) none,
  .mk (some 22) (.binOp .eql 60 (.tmp 20) (.tmp 21) 60) none]
def r32_5 : List PS := [.mk (some 23) (.move (.tmp 5)) none,
  .mk (some 4) (.assign (.tmp 23)) none]
def r32_6 : List PS := [.mk (some 24) (.binOp .add 3 (.tmp 11) (.const (.int .i64 1)) 3) none,
  .mk (some 11) (.move (.tmp 24)) none]
def r32_7 : List PS := [.mk (some 25) (.move (.tmp 0)) none,
  .mk (some 26) (.move (.tmp 0)) none,
  .mk (some 27) (.nilCheck (.tmp 26)) none,
  .mk (some 28) (.fieldAddr 56 (.tmp 27) 1) none,
  .mk (some 29) (.load 54 (.tmp 28)) none,
  .mk (some 30) (.load 60 (.tmp 3)) none,
  .mk (some 31) (.buildSlice 54 1 #[(0, (.tmp 30))]) none,
  .mk (some 32) (.call ⟨(.builtin .append), #[(.tmp 29), (.tmp 31)], #[54, 54]⟩) none,
  .mk (some 33) (.nilCheck (.tmp 25)) none,
  .mk (some 34) (.fieldAddr 56 (.tmp 33) 1) none,
  .mk none (.store 54 (.tmp 34) (.tmp 32)) none]
def r32_8 : List PS := [.mk (some 35) (.move (.tmp 0)) none,
  .mk (some 36) (.nilCheck (.tmp 35)) none,
  .mk (some 37) (.fieldAddr 56 (.tmp 36) 1) none,
  .mk (some 38) (.load 54 (.tmp 37)) none,
  .mk (some 39) (.call ⟨(.builtin .len), #[(.tmp 38)], #[54]⟩) none,
  .mk (some 40) (.binOp .sub 3 (.tmp 39) (.const (.int .i64 1)) 3) none,
  .mk (some 4) (.assign (.tmp 40)) none]
def c32 : PC := (.seq (.reg false r32_0) (.seq (.seq (.reg false r32_1) (.block 0 (.loop (.seq (.reg false r32_2) (.seq (.cond (.tmp 12) .skip (.exit 0)) (.seq (.block 1 (.seq (.reg false r32_3) (.seq (.reg true r32_4) (.cond (.tmp 22) (.seq (.reg false r32_5) .ret) .skip)))) (.reg false r32_6))))))) (.seq (.reg true r32_7) (.seq (.reg false r32_8) .ret))))
theorem e32 {args : List PV} {h : Heap} {K : PV → Heap → Prop} (hl : args.length = 2) (s : pwp Try.prog [] c32 (fin Try.prog [.tmp 4] h K) (slots0 (olds args)) h) : CanP Try.prog 32 args h K :=
  can_of2 (n := 41) mixed Try.func32 rfl (by kernel_rfl) (by rw [hl]; kernel_rfl) rfl (by kernel_rfl) s
/-! ### naskh.trie.Build: function 20 -/
def r20_0 : List PS := [.mk (some 4) (.assign (.const (.pointer none))) none,
  .mk (some 5) (.assign (.const (.int .i64 0))) none]
def r20_1 : List PS := [.mk (some 13) (.move (.tmp 0)) none,
  .mk (some 14) (.call ⟨(.value (.func 30)), #[(.tmp 13)], #[45]⟩) none,
  .mk (some 6) (.assign (.tmp 14)) none]
def r20_2 : List PS := [.mk (some 15) (.move (.tmp 6)) none,
  .mk (some 16) (.binOp .neq 42 (.tmp 15) (.const (.int .i64 0)) 42) none]
def r20_3 : List PS := [.mk (some 17) (.move (.tmp 6)) none,
  .mk (some 4) (.assign (.const (.pointer none))) none,
  .mk (some 5) (.assign (.tmp 17)) none]
def r20_4 : List PS := [.mk (some 18) (.move (.tmp 1)) none,
  .mk (some 19) (.build 58 #[(1, (.tmp 18)), (2, (.const (.bool true)))]) none,
  .mk (some 20) (.box 58 (.tmp 19)) none,
  .mk (some 7) (.assign (.tmp 20)) none]
def r20_5 : List PS := [.mk (some 21) (.move (.tmp 7)) none,
  .mk (some 22) (.makeSlice 22 (.const (.int .i64 8704)) (.const (.int .i64 8704))) none,
  .mk (some 23) (.nilCheck (.tmp 21)) none,
  .mk (some 24) (.fieldAddr 58 (.tmp 23) 0) none,
  .mk (some 25) (.fieldAddr 56 (.tmp 24) 0) none,
  .mk none (.store 22 (.tmp 25) (.tmp 22)) none]
def r20_6 : List PS := [.mk (some 8) (.assign (.const (.int .i64 0))) none]
def r20_7 : List PS := [.mk (some 26) (.build 60 #[]) none,
  .mk (some 9) (.alloc 60) none,
  .mk none (.store 60 (.tmp 9) (.tmp 26)) none,
  .mk (some 10) (.assign (.const (.int .i64 (-1)))) none]
def r20_8 : List PS := [.mk (some 27) (.move (.const (.int .i64 0))) none]
def r20_9 : List PS := [.mk (some 28) (.binOp .lss 3 (.tmp 27) (.const (.int .i64 8704)) 3) none]
def r20_10 : List PS := [.mk (some 29) (.move (.tmp 27)) none,
  .mk (some 11) (.assign (.tmp 29)) none]
def r20_11 : List PS := [.mk (some 12) (.alloc 60) none]
def r20_12 : List PS := [.mk (some 31) (.move (.tmp 0)) none,
  .mk (some 32) (.move (.tmp 11)) none,
  .mk (some 33) (.move (.tmp 8)) none,
  .mk (some 34) (.move (.tmp 1)) none,
  .mk (some 35) (.call ⟨(.value (.func 31)), #[(.tmp 31), (.tmp 32), (.tmp 33), (.tmp 34)], #[45, 3, 3, 3]⟩) none,
  .mk (some 30) (.move (.tmp 35)) none,
  .mk (some 36) (.extract (.tmp 30) 0) none,
  .mk (some 37) (.extract (.tmp 30) 1) none,
  .mk none (.store 60 (.tmp 12) (.tmp 36)) none,
  .frz 12,
  .mk (some 8) (.assign (.tmp 37)) none]
def r20_13 : List PS := [.mk (some 38) (.move (.tmp 10)) none,
  .mk (some 39) (.binOp .lss 3 (.tmp 38) (.const (.int .i64 0)) 3) none,
  .mk (some 40) (.move (.tmp 39)) none,
  .mk (some 41) (.load 60 (.tmp 12)) (some (40, false)),
  .mk (some 42) (.load 60 (.tmp 9)) (some (40, false)),
  .mk (some 43) (.binOp .neq 60 (.tmp 41) (.tmp 42) 60) (some (40, false)),
  .mk (some 44) (.pick (.tmp 40) (.const (.bool true)) (.tmp 43)) none]
def r20_14 : List PS := [.mk (some 45) (.load 60 (.tmp 12)) none,
  .mk (some 46) (.move (.tmp 7)) none,
  .mk (some 47) (.nilCheck (.tmp 46)) none,
  .mk (some 48) (.fieldAddr 58 (.tmp 47) 0) none,
  .mk (some 49) (.load 60 (.tmp 12)) none,
  .mk (some 50) (.call ⟨(.value (.func 32)), #[(.tmp 48), (.tmp 49)], #[56, 60]⟩) none,
  .mk none (.store 60 (.tmp 9) (.tmp 45)) none,
  .mk (some 10) (.assign (.tmp 50)) none]
def r20_15 : List PS := [.mk (some 51) (.move (.tmp 7)) none,
  .mk (some 52) (.nilCheck (.tmp 51)) none,
  .mk (some 53) (.fieldAddr 58 (.tmp 52) 0) none,
  .mk (some 54) (.fieldAddr 56 (.tmp 53) 0) none,
  .mk (some 55) (.load 22 (.tmp 54)) none,
  .mk (some 56) (.move (.tmp 11)) none,
  .mk (some 57) (.move (.tmp 10)) none,
  .mk (some 58) (.indexAddr 22 (.tmp 55) (.tmp 56)) none,
  .mk none (.store 3 (.tmp 58) (.tmp 57)) none]
def r20_16 : List PS := [.mk (some 59) (.binOp .add 3 (.tmp 27) (.const (.int .i64 1)) 3) none,
  .mk (some 27) (.move (.tmp 59)) none]
def r20_17 : List PS := [.frzc 7 0,
  .frzc 7 1,
  .mk (some 60) (.move (.tmp 7)) none,
  .mk (some 4) (.assign (.tmp 60)) none,
  .mk (some 5) (.assign (.const (.int .i64 0))) none]
def c20 : PC := (.seq (.reg false r20_0) (.seq (.seq (.reg false r20_1) (.seq (.reg false r20_2) (.cond (.tmp 16) (.seq (.reg false r20_3) .ret) .skip))) (.seq (.reg false r20_4) (.seq (.reg false r20_5) (.seq (.reg false r20_6) (.seq (.reg false r20_7) (.seq (.seq (.reg false r20_8) (.block 0 (.loop (.seq (.reg false r20_9) (.seq (.cond (.tmp 28) .skip (.exit 0)) (.seq (.block 1 (.seq (.reg false r20_10) (.seq (.reg false r20_11) (.seq (.reg false r20_12) (.seq (.seq (.reg false r20_13) (.cond (.tmp 44) (.reg true r20_14) .skip)) (.reg false r20_15)))))) (.reg false r20_16))))))) (.seq (.reg false r20_17) .ret))))))))
theorem e20 {args : List PV} {h : Heap} {K : PV → Heap → Prop} (hl : args.length = 2) (s : pwp Try.prog [9, 12, 20, 45, 50] c20 (fin Try.prog [.tmp 4, .tmp 5] h K) (slots0 (olds args)) h) : CanP Try.prog 20 args h K :=
  can_of2 (n := 61) mixed Try.func20 rfl (by kernel_rfl) (by rw [hl]; kernel_rfl) rfl (by kernel_rfl) s
/-! ### naskh.api.Wides: function 21 -/
def r21_0 : List PS := [.mk (some 0) (.assign (.const (.slice none 0 0))) none]
def r21_1 : List PS := [.mk (some 1) (.build 65 #[(0, (.const (.int .i64 4352))), (1, (.const (.int .i64 4447))), (2, (.const (.int .i64 2)))]) none,
  .mk (some 2) (.build 65 #[(0, (.const (.int .i64 8986))), (1, (.const (.int .i64 8987))), (2, (.const (.int .i64 2)))]) none,
  .mk (some 3) (.build 65 #[(0, (.const (.int .i64 9001))), (1, (.const (.int .i64 9002))), (2, (.const (.int .i64 2)))]) none,
  .mk (some 4) (.build 65 #[(0, (.const (.int .i64 9193))), (1, (.const (.int .i64 9196))), (2, (.const (.int .i64 2)))]) none,
  .mk (some 5) (.build 65 #[(0, (.const (.int .i64 9725))), (1, (.const (.int .i64 9726))), (2, (.const (.int .i64 2)))]) none,
  .mk (some 6) (.build 65 #[(0, (.const (.int .i64 9748))), (1, (.const (.int .i64 9749))), (2, (.const (.int .i64 2)))]) none,
  .mk (some 7) (.build 65 #[(0, (.const (.int .i64 9800))), (1, (.const (.int .i64 9811))), (2, (.const (.int .i64 2)))]) none,
  .mk (some 8) (.build 65 #[(0, (.const (.int .i64 11904))), (1, (.const (.int .i64 11929))), (2, (.const (.int .i64 2)))]) none,
  .mk (some 9) (.build 65 #[(0, (.const (.int .i64 11931))), (1, (.const (.int .i64 12019))), (2, (.const (.int .i64 2)))]) none,
  .mk (some 10) (.build 65 #[(0, (.const (.int .i64 12032))), (1, (.const (.int .i64 12245))), (2, (.const (.int .i64 2)))]) none,
  .mk (some 11) (.build 65 #[(0, (.const (.int .i64 12272))), (1, (.const (.int .i64 12350))), (2, (.const (.int .i64 2)))]) none,
  .mk (some 12) (.build 65 #[(0, (.const (.int .i64 12353))), (1, (.const (.int .i64 12438))), (2, (.const (.int .i64 2)))]) none,
  .mk (some 13) (.build 65 #[(0, (.const (.int .i64 12441))), (1, (.const (.int .i64 12543))), (2, (.const (.int .i64 2)))]) none,
  .mk (some 14) (.build 65 #[(0, (.const (.int .i64 12549))), (1, (.const (.int .i64 12591))), (2, (.const (.int .i64 2)))]) none,
  .mk (some 15) (.build 65 #[(0, (.const (.int .i64 12593))), (1, (.const (.int .i64 12686))), (2, (.const (.int .i64 2)))]) none,
  .mk (some 16) (.build 65 #[(0, (.const (.int .i64 12688))), (1, (.const (.int .i64 12771))), (2, (.const (.int .i64 2)))]) none,
  .mk (some 17) (.build 65 #[(0, (.const (.int .i64 12784))), (1, (.const (.int .i64 12830))), (2, (.const (.int .i64 2)))]) none,
  .mk (some 18) (.build 65 #[(0, (.const (.int .i64 12832))), (1, (.const (.int .i64 12871))), (2, (.const (.int .i64 2)))]) none,
  .mk (some 19) (.build 65 #[(0, (.const (.int .i64 12880))), (1, (.const (.int .i64 19903))), (2, (.const (.int .i64 2)))]) none,
  .mk (some 20) (.build 65 #[(0, (.const (.int .i64 19968))), (1, (.const (.int .i64 42124))), (2, (.const (.int .i64 2)))]) none,
  .mk (some 21) (.build 65 #[(0, (.const (.int .i64 42128))), (1, (.const (.int .i64 42182))), (2, (.const (.int .i64 2)))]) none,
  .mk (some 22) (.build 65 #[(0, (.const (.int .i64 43360))), (1, (.const (.int .i64 43388))), (2, (.const (.int .i64 2)))]) none,
  .mk (some 23) (.build 65 #[(0, (.const (.int .i64 44032))), (1, (.const (.int .i64 55203))), (2, (.const (.int .i64 2)))]) none,
  .mk (some 24) (.build 65 #[(0, (.const (.int .i64 63744))), (1, (.const (.int .i64 64255))), (2, (.const (.int .i64 2)))]) none,
  .mk (some 25) (.build 65 #[(0, (.const (.int .i64 65040))), (1, (.const (.int .i64 65049))), (2, (.const (.int .i64 2)))]) none,
  .mk (some 26) (.build 65 #[(0, (.const (.int .i64 65072))), (1, (.const (.int .i64 65106))), (2, (.const (.int .i64 2)))]) none,
  .mk (some 27) (.build 65 #[(0, (.const (.int .i64 65108))), (1, (.const (.int .i64 65126))), (2, (.const (.int .i64 2)))]) none,
  .mk (some 28) (.build 65 #[(0, (.const (.int .i64 65128))), (1, (.const (.int .i64 65131))), (2, (.const (.int .i64 2)))]) none,
  .mk (some 29) (.build 65 #[(0, (.const (.int .i64 65281))), (1, (.const (.int .i64 65376))), (2, (.const (.int .i64 2)))]) none,
  .mk (some 30) (.build 65 #[(0, (.const (.int .i64 65504))), (1, (.const (.int .i64 65510))), (2, (.const (.int .i64 2)))]) none,
  .mk (some 31) (.build 65 #[(0, (.const (.int .i64 127744))), (1, (.const (.int .i64 127776))), (2, (.const (.int .i64 2)))]) none,
  .mk (some 32) (.build 65 #[(0, (.const (.int .i64 127789))), (1, (.const (.int .i64 127797))), (2, (.const (.int .i64 2)))]) none,
  .mk (some 33) (.build 65 #[(0, (.const (.int .i64 127799))), (1, (.const (.int .i64 127868))), (2, (.const (.int .i64 2)))]) none,
  .mk (some 34) (.build 65 #[(0, (.const (.int .i64 127870))), (1, (.const (.int .i64 127891))), (2, (.const (.int .i64 2)))]) none,
  .mk (some 35) (.build 65 #[(0, (.const (.int .i64 127904))), (1, (.const (.int .i64 127946))), (2, (.const (.int .i64 2)))]) none,
  .mk (some 36) (.build 65 #[(0, (.const (.int .i64 128000))), (1, (.const (.int .i64 128062))), (2, (.const (.int .i64 2)))]) none,
  .mk (some 37) (.build 65 #[(0, (.const (.int .i64 128066))), (1, (.const (.int .i64 128252))), (2, (.const (.int .i64 2)))]) none,
  .mk (some 38) (.build 65 #[(0, (.const (.int .i64 128512))), (1, (.const (.int .i64 128591))), (2, (.const (.int .i64 2)))]) none,
  .mk (some 39) (.build 65 #[(0, (.const (.int .i64 128640))), (1, (.const (.int .i64 128709))), (2, (.const (.int .i64 2)))]) none,
  .mk (some 40) (.build 65 #[(0, (.const (.int .i64 131072))), (1, (.const (.int .i64 196605))), (2, (.const (.int .i64 2)))]) none,
  .mk (some 41) (.build 65 #[(0, (.const (.int .i64 196608))), (1, (.const (.int .i64 262141))), (2, (.const (.int .i64 2)))]) none,
  .mk (some 42) (.buildSlice 45 41 #[(0, (.tmp 1)), (1, (.tmp 2)), (2, (.tmp 3)), (3, (.tmp 4)), (4, (.tmp 5)), (5, (.tmp 6)), (6, (.tmp 7)), (7, (.tmp 8)), (8, (.tmp 9)), (9, (.tmp 10)), (10, (.tmp 11)), (11, (.tmp 12)), (12, (.tmp 13)), (13, (.tmp 14)), (14, (.tmp 15)), (15, (.tmp 16)), (16, (.tmp 17)), (17, (.tmp 18)), (18, (.tmp 19)), (19, (.tmp 20)), (20, (.tmp 21)), (21, (.tmp 22)), (22, (.tmp 23)), (23, (.tmp 24)), (24, (.tmp 25)), (25, (.tmp 26)), (26, (.tmp 27)), (27, (.tmp 28)), (28, (.tmp 29)), (29, (.tmp 30)), (30, (.tmp 31)), (31, (.tmp 32)), (32, (.tmp 33)), (33, (.tmp 34)), (34, (.tmp 35)), (35, (.tmp 36)), (36, (.tmp 37)), (37, (.tmp 38)), (38, (.tmp 39)), (39, (.tmp 40)), (40, (.tmp 41))]) none,
  .mk (some 0) (.assign (.tmp 42)) none]
def c21 : PC := (.seq (.reg false r21_0) (.seq (.reg false r21_1) .ret))
theorem e21 {args : List PV} {h : Heap} {K : PV → Heap → Prop} (hl : args.length = 0) (s : pwp Try.prog [] c21 (fin Try.prog [.tmp 0] h K) (slots0 (olds args)) h) : CanP Try.prog 21 args h K :=
  can_of2 (n := 43) mixed Try.func21 rfl (by kernel_rfl) (by rw [hl]; kernel_rfl) rfl (by kernel_rfl) s
/-! ### naskh.width.New: function 8 -/
def r8_0 : List PS := [.mk (some 2) (.assign (.const (.pointer none))) none]
def r8_1 : List PS := [.mk (some 6) (.call ⟨(.value (.func 21)), #[], #[]⟩) none,
  .mk (some 7) (.call ⟨(.value (.func 20)), #[(.tmp 6), (.const (.int .i64 1))], #[45, 3]⟩) none,
  .mk (some 5) (.move (.tmp 7)) none,
  .mk (some 8) (.extract (.tmp 5) 0) none,
  .mk (some 9) (.extract (.tmp 5) 1) none,
  .mk (some 3) (.assign (.tmp 8)) none,
  .mk (some 4) (.assign (.tmp 9)) none]
def r8_2 : List PS := [.mk (some 10) (.move (.tmp 4)) none,
  .mk (some 11) (.binOp .neq 42 (.tmp 10) (.const (.int .i64 0)) 42) none]
def r8_3 : List PS := [.mk (some 2) (.assign (.const (.pointer none))) none]
def r8_4 : List PS := [.mk (some 12) (.move (.tmp 3)) none,
  .mk (some 13) (.move (.tmp 0)) none,
  .mk (some 14) (.build 33 #[(0, (.tmp 12)), (1, (.tmp 13))]) none,
  .mk (some 15) (.build 35 #[(0, (.tmp 14))]) none,
  .mk (some 16) (.box 35 (.tmp 15)) none,
  .mk (some 2) (.assign (.tmp 16)) none]
def c8 : PC := (.seq (.reg false r8_0) (.seq (.reg false r8_1) (.seq (.seq (.reg false r8_2) (.cond (.tmp 11) (.seq (.reg false r8_3) .ret) .skip)) (.seq (.reg false r8_4) .ret))))
theorem e8 {args : List PV} {h : Heap} {K : PV → Heap → Prop} (hl : args.length = 1) (s : pwp Try.prog [] c8 (fin Try.prog [.tmp 2] h K) (slots0 (olds args)) h) : CanP Try.prog 8 args h K :=
  can_of2 (n := 17) mixed Try.func8 rfl (by kernel_rfl) (by rw [hl]; kernel_rfl) rfl (by kernel_rfl) s
/-! ### naskh.api.BidiRanges: function 22 -/
def r22_0 : List PS := [.mk (some 0) (.assign (.const (.slice none 0 0))) none]
def r22_1 : List PS := [.mk (some 1) (.build 65 #[(0, (.const (.int .i64 0))), (1, (.const (.int .i64 8))), (2, (.const (.int .i64 9)))]) none,
  .mk (some 2) (.build 65 #[(0, (.const (.int .i64 9))), (1, (.const (.int .i64 9))), (2, (.const (.int .i64 11)))]) none,
  .mk (some 3) (.build 65 #[(0, (.const (.int .i64 10))), (1, (.const (.int .i64 10))), (2, (.const (.int .i64 10)))]) none,
  .mk (some 4) (.build 65 #[(0, (.const (.int .i64 11))), (1, (.const (.int .i64 11))), (2, (.const (.int .i64 11)))]) none,
  .mk (some 5) (.build 65 #[(0, (.const (.int .i64 12))), (1, (.const (.int .i64 12))), (2, (.const (.int .i64 12)))]) none,
  .mk (some 6) (.build 65 #[(0, (.const (.int .i64 13))), (1, (.const (.int .i64 13))), (2, (.const (.int .i64 10)))]) none,
  .mk (some 7) (.build 65 #[(0, (.const (.int .i64 14))), (1, (.const (.int .i64 27))), (2, (.const (.int .i64 9)))]) none,
  .mk (some 8) (.build 65 #[(0, (.const (.int .i64 28))), (1, (.const (.int .i64 30))), (2, (.const (.int .i64 10)))]) none,
  .mk (some 9) (.build 65 #[(0, (.const (.int .i64 31))), (1, (.const (.int .i64 31))), (2, (.const (.int .i64 11)))]) none,
  .mk (some 10) (.build 65 #[(0, (.const (.int .i64 32))), (1, (.const (.int .i64 32))), (2, (.const (.int .i64 12)))]) none,
  .mk (some 11) (.build 65 #[(0, (.const (.int .i64 33))), (1, (.const (.int .i64 34))), (2, (.const (.int .i64 13)))]) none,
  .mk (some 12) (.build 65 #[(0, (.const (.int .i64 35))), (1, (.const (.int .i64 37))), (2, (.const (.int .i64 5)))]) none,
  .mk (some 13) (.build 65 #[(0, (.const (.int .i64 38))), (1, (.const (.int .i64 42))), (2, (.const (.int .i64 13)))]) none,
  .mk (some 14) (.build 65 #[(0, (.const (.int .i64 43))), (1, (.const (.int .i64 43))), (2, (.const (.int .i64 4)))]) none,
  .mk (some 15) (.build 65 #[(0, (.const (.int .i64 44))), (1, (.const (.int .i64 44))), (2, (.const (.int .i64 7)))]) none,
  .mk (some 16) (.build 65 #[(0, (.const (.int .i64 45))), (1, (.const (.int .i64 45))), (2, (.const (.int .i64 4)))]) none,
  .mk (some 17) (.build 65 #[(0, (.const (.int .i64 46))), (1, (.const (.int .i64 47))), (2, (.const (.int .i64 7)))]) none,
  .mk (some 18) (.build 65 #[(0, (.const (.int .i64 48))), (1, (.const (.int .i64 57))), (2, (.const (.int .i64 3)))]) none,
  .mk (some 19) (.build 65 #[(0, (.const (.int .i64 58))), (1, (.const (.int .i64 58))), (2, (.const (.int .i64 7)))]) none,
  .mk (some 20) (.build 65 #[(0, (.const (.int .i64 59))), (1, (.const (.int .i64 64))), (2, (.const (.int .i64 13)))]) none,
  .mk (some 21) (.build 65 #[(0, (.const (.int .i64 91))), (1, (.const (.int .i64 96))), (2, (.const (.int .i64 13)))]) none,
  .mk (some 22) (.build 65 #[(0, (.const (.int .i64 123))), (1, (.const (.int .i64 126))), (2, (.const (.int .i64 13)))]) none,
  .mk (some 23) (.build 65 #[(0, (.const (.int .i64 127))), (1, (.const (.int .i64 132))), (2, (.const (.int .i64 9)))]) none,
  .mk (some 24) (.build 65 #[(0, (.const (.int .i64 133))), (1, (.const (.int .i64 133))), (2, (.const (.int .i64 10)))]) none,
  .mk (some 25) (.build 65 #[(0, (.const (.int .i64 134))), (1, (.const (.int .i64 159))), (2, (.const (.int .i64 9)))]) none,
  .mk (some 26) (.build 65 #[(0, (.const (.int .i64 160))), (1, (.const (.int .i64 160))), (2, (.const (.int .i64 7)))]) none,
  .mk (some 27) (.build 65 #[(0, (.const (.int .i64 161))), (1, (.const (.int .i64 161))), (2, (.const (.int .i64 13)))]) none,
  .mk (some 28) (.build 65 #[(0, (.const (.int .i64 162))), (1, (.const (.int .i64 165))), (2, (.const (.int .i64 5)))]) none,
  .mk (some 29) (.build 65 #[(0, (.const (.int .i64 166))), (1, (.const (.int .i64 169))), (2, (.const (.int .i64 13)))]) none,
  .mk (some 30) (.build 65 #[(0, (.const (.int .i64 171))), (1, (.const (.int .i64 172))), (2, (.const (.int .i64 13)))]) none,
  .mk (some 31) (.build 65 #[(0, (.const (.int .i64 173))), (1, (.const (.int .i64 173))), (2, (.const (.int .i64 9)))]) none,
  .mk (some 32) (.build 65 #[(0, (.const (.int .i64 174))), (1, (.const (.int .i64 175))), (2, (.const (.int .i64 13)))]) none,
  .mk (some 33) (.build 65 #[(0, (.const (.int .i64 176))), (1, (.const (.int .i64 177))), (2, (.const (.int .i64 5)))]) none,
  .mk (some 34) (.build 65 #[(0, (.const (.int .i64 178))), (1, (.const (.int .i64 179))), (2, (.const (.int .i64 3)))]) none,
  .mk (some 35) (.build 65 #[(0, (.const (.int .i64 180))), (1, (.const (.int .i64 180))), (2, (.const (.int .i64 13)))]) none,
  .mk (some 36) (.build 65 #[(0, (.const (.int .i64 182))), (1, (.const (.int .i64 184))), (2, (.const (.int .i64 13)))]) none,
  .mk (some 37) (.build 65 #[(0, (.const (.int .i64 185))), (1, (.const (.int .i64 185))), (2, (.const (.int .i64 3)))]) none,
  .mk (some 38) (.build 65 #[(0, (.const (.int .i64 187))), (1, (.const (.int .i64 191))), (2, (.const (.int .i64 13)))]) none,
  .mk (some 39) (.build 65 #[(0, (.const (.int .i64 215))), (1, (.const (.int .i64 215))), (2, (.const (.int .i64 13)))]) none,
  .mk (some 40) (.build 65 #[(0, (.const (.int .i64 247))), (1, (.const (.int .i64 247))), (2, (.const (.int .i64 13)))]) none,
  .mk (some 41) (.build 65 #[(0, (.const (.int .i64 697))), (1, (.const (.int .i64 698))), (2, (.const (.int .i64 13)))]) none,
  .mk (some 42) (.build 65 #[(0, (.const (.int .i64 706))), (1, (.const (.int .i64 719))), (2, (.const (.int .i64 13)))]) none,
  .mk (some 43) (.build 65 #[(0, (.const (.int .i64 722))), (1, (.const (.int .i64 735))), (2, (.const (.int .i64 13)))]) none,
  .mk (some 44) (.build 65 #[(0, (.const (.int .i64 768))), (1, (.const (.int .i64 879))), (2, (.const (.int .i64 8)))]) none,
  .mk (some 45) (.build 65 #[(0, (.const (.int .i64 1424))), (1, (.const (.int .i64 1424))), (2, (.const (.int .i64 1)))]) none,
  .mk (some 46) (.build 65 #[(0, (.const (.int .i64 1425))), (1, (.const (.int .i64 1469))), (2, (.const (.int .i64 8)))]) none,
  .mk (some 47) (.build 65 #[(0, (.const (.int .i64 1470))), (1, (.const (.int .i64 1470))), (2, (.const (.int .i64 1)))]) none,
  .mk (some 48) (.build 65 #[(0, (.const (.int .i64 1471))), (1, (.const (.int .i64 1471))), (2, (.const (.int .i64 8)))]) none,
  .mk (some 49) (.build 65 #[(0, (.const (.int .i64 1472))), (1, (.const (.int .i64 1472))), (2, (.const (.int .i64 1)))]) none,
  .mk (some 50) (.build 65 #[(0, (.const (.int .i64 1473))), (1, (.const (.int .i64 1474))), (2, (.const (.int .i64 8)))]) none,
  .mk (some 51) (.build 65 #[(0, (.const (.int .i64 1475))), (1, (.const (.int .i64 1475))), (2, (.const (.int .i64 1)))]) none,
  .mk (some 52) (.build 65 #[(0, (.const (.int .i64 1476))), (1, (.const (.int .i64 1477))), (2, (.const (.int .i64 8)))]) none,
  .mk (some 53) (.build 65 #[(0, (.const (.int .i64 1478))), (1, (.const (.int .i64 1478))), (2, (.const (.int .i64 1)))]) none,
  .mk (some 54) (.build 65 #[(0, (.const (.int .i64 1479))), (1, (.const (.int .i64 1479))), (2, (.const (.int .i64 8)))]) none,
  .mk (some 55) (.build 65 #[(0, (.const (.int .i64 1480))), (1, (.const (.int .i64 1535))), (2, (.const (.int .i64 1)))]) none,
  .mk (some 56) (.build 65 #[(0, (.const (.int .i64 1536))), (1, (.const (.int .i64 1541))), (2, (.const (.int .i64 6)))]) none,
  .mk (some 57) (.build 65 #[(0, (.const (.int .i64 1542))), (1, (.const (.int .i64 1543))), (2, (.const (.int .i64 13)))]) none,
  .mk (some 58) (.build 65 #[(0, (.const (.int .i64 1544))), (1, (.const (.int .i64 1544))), (2, (.const (.int .i64 2)))]) none,
  .mk (some 59) (.build 65 #[(0, (.const (.int .i64 1545))), (1, (.const (.int .i64 1546))), (2, (.const (.int .i64 5)))]) none,
  .mk (some 60) (.build 65 #[(0, (.const (.int .i64 1547))), (1, (.const (.int .i64 1547))), (2, (.const (.int .i64 2)))]) none,
  .mk (some 61) (.build 65 #[(0, (.const (.int .i64 1548))), (1, (.const (.int .i64 1548))), (2, (.const (.int .i64 7)))]) none,
  .mk (some 62) (.build 65 #[(0, (.const (.int .i64 1549))), (1, (.const (.int .i64 1549))), (2, (.const (.int .i64 2)))]) none,
  .mk (some 63) (.build 65 #[(0, (.const (.int .i64 1550))), (1, (.const (.int .i64 1551))), (2, (.const (.int .i64 13)))]) none,
  .mk (some 64) (.build 65 #[(0, (.const (.int .i64 1552))), (1, (.const (.int .i64 1562))), (2, (.const (.int .i64 8)))]) none,
  .mk (some 65) (.build 65 #[(0, (.const (.int .i64 1563))), (1, (.const (.int .i64 1610))), (2, (.const (.int .i64 2)))]) none,
  .mk (some 66) (.build 65 #[(0, (.const (.int .i64 1611))), (1, (.const (.int .i64 1631))), (2, (.const (.int .i64 8)))]) none,
  .mk (some 67) (.build 65 #[(0, (.const (.int .i64 1632))), (1, (.const (.int .i64 1641))), (2, (.const (.int .i64 6)))]) none,
  .mk (some 68) (.build 65 #[(0, (.const (.int .i64 1642))), (1, (.const (.int .i64 1642))), (2, (.const (.int .i64 5)))]) none,
  .mk (some 69) (.build 65 #[(0, (.const (.int .i64 1643))), (1, (.const (.int .i64 1644))), (2, (.const (.int .i64 6)))]) none,
  .mk (some 70) (.build 65 #[(0, (.const (.int .i64 1645))), (1, (.const (.int .i64 1647))), (2, (.const (.int .i64 2)))]) none,
  .mk (some 71) (.build 65 #[(0, (.const (.int .i64 1648))), (1, (.const (.int .i64 1648))), (2, (.const (.int .i64 8)))]) none,
  .mk (some 72) (.build 65 #[(0, (.const (.int .i64 1649))), (1, (.const (.int .i64 1749))), (2, (.const (.int .i64 2)))]) none,
  .mk (some 73) (.build 65 #[(0, (.const (.int .i64 1750))), (1, (.const (.int .i64 1756))), (2, (.const (.int .i64 8)))]) none,
  .mk (some 74) (.build 65 #[(0, (.const (.int .i64 1757))), (1, (.const (.int .i64 1757))), (2, (.const (.int .i64 6)))]) none,
  .mk (some 75) (.build 65 #[(0, (.const (.int .i64 1758))), (1, (.const (.int .i64 1758))), (2, (.const (.int .i64 13)))]) none,
  .mk (some 76) (.build 65 #[(0, (.const (.int .i64 1759))), (1, (.const (.int .i64 1764))), (2, (.const (.int .i64 8)))]) none,
  .mk (some 77) (.build 65 #[(0, (.const (.int .i64 1765))), (1, (.const (.int .i64 1766))), (2, (.const (.int .i64 2)))]) none,
  .mk (some 78) (.build 65 #[(0, (.const (.int .i64 1767))), (1, (.const (.int .i64 1768))), (2, (.const (.int .i64 8)))]) none,
  .mk (some 79) (.build 65 #[(0, (.const (.int .i64 1769))), (1, (.const (.int .i64 1769))), (2, (.const (.int .i64 13)))]) none,
  .mk (some 80) (.build 65 #[(0, (.const (.int .i64 1770))), (1, (.const (.int .i64 1773))), (2, (.const (.int .i64 8)))]) none,
  .mk (some 81) (.build 65 #[(0, (.const (.int .i64 1774))), (1, (.const (.int .i64 1775))), (2, (.const (.int .i64 2)))]) none,
  .mk (some 82) (.build 65 #[(0, (.const (.int .i64 1776))), (1, (.const (.int .i64 1785))), (2, (.const (.int .i64 3)))]) none,
  .mk (some 83) (.build 65 #[(0, (.const (.int .i64 1786))), (1, (.const (.int .i64 1808))), (2, (.const (.int .i64 2)))]) none,
  .mk (some 84) (.build 65 #[(0, (.const (.int .i64 1809))), (1, (.const (.int .i64 1809))), (2, (.const (.int .i64 8)))]) none,
  .mk (some 85) (.build 65 #[(0, (.const (.int .i64 1810))), (1, (.const (.int .i64 1839))), (2, (.const (.int .i64 2)))]) none,
  .mk (some 86) (.build 65 #[(0, (.const (.int .i64 1840))), (1, (.const (.int .i64 1866))), (2, (.const (.int .i64 8)))]) none,
  .mk (some 87) (.build 65 #[(0, (.const (.int .i64 1867))), (1, (.const (.int .i64 1957))), (2, (.const (.int .i64 2)))]) none,
  .mk (some 88) (.build 65 #[(0, (.const (.int .i64 1958))), (1, (.const (.int .i64 1968))), (2, (.const (.int .i64 8)))]) none,
  .mk (some 89) (.build 65 #[(0, (.const (.int .i64 1969))), (1, (.const (.int .i64 1983))), (2, (.const (.int .i64 2)))]) none,
  .mk (some 90) (.build 65 #[(0, (.const (.int .i64 1984))), (1, (.const (.int .i64 2026))), (2, (.const (.int .i64 1)))]) none,
  .mk (some 91) (.build 65 #[(0, (.const (.int .i64 2027))), (1, (.const (.int .i64 2035))), (2, (.const (.int .i64 8)))]) none,
  .mk (some 92) (.build 65 #[(0, (.const (.int .i64 2036))), (1, (.const (.int .i64 2037))), (2, (.const (.int .i64 1)))]) none,
  .mk (some 93) (.build 65 #[(0, (.const (.int .i64 2038))), (1, (.const (.int .i64 2041))), (2, (.const (.int .i64 13)))]) none,
  .mk (some 94) (.build 65 #[(0, (.const (.int .i64 2042))), (1, (.const (.int .i64 2044))), (2, (.const (.int .i64 1)))]) none,
  .mk (some 95) (.build 65 #[(0, (.const (.int .i64 2045))), (1, (.const (.int .i64 2045))), (2, (.const (.int .i64 8)))]) none,
  .mk (some 96) (.build 65 #[(0, (.const (.int .i64 2046))), (1, (.const (.int .i64 2069))), (2, (.const (.int .i64 1)))]) none,
  .mk (some 97) (.build 65 #[(0, (.const (.int .i64 2070))), (1, (.const (.int .i64 2073))), (2, (.const (.int .i64 8)))]) none,
  .mk (some 98) (.build 65 #[(0, (.const (.int .i64 2074))), (1, (.const (.int .i64 2074))), (2, (.const (.int .i64 1)))]) none,
  .mk (some 99) (.build 65 #[(0, (.const (.int .i64 2075))), (1, (.const (.int .i64 2083))), (2, (.const (.int .i64 8)))]) none,
  .mk (some 100) (.build 65 #[(0, (.const (.int .i64 2084))), (1, (.const (.int .i64 2084))), (2, (.const (.int .i64 1)))]) none,
  .mk (some 101) (.build 65 #[(0, (.const (.int .i64 2085))), (1, (.const (.int .i64 2087))), (2, (.const (.int .i64 8)))]) none,
  .mk (some 102) (.build 65 #[(0, (.const (.int .i64 2088))), (1, (.const (.int .i64 2088))), (2, (.const (.int .i64 1)))]) none,
  .mk (some 103) (.build 65 #[(0, (.const (.int .i64 2089))), (1, (.const (.int .i64 2093))), (2, (.const (.int .i64 8)))]) none,
  .mk (some 104) (.build 65 #[(0, (.const (.int .i64 2094))), (1, (.const (.int .i64 2136))), (2, (.const (.int .i64 1)))]) none,
  .mk (some 105) (.build 65 #[(0, (.const (.int .i64 2137))), (1, (.const (.int .i64 2139))), (2, (.const (.int .i64 8)))]) none,
  .mk (some 106) (.build 65 #[(0, (.const (.int .i64 2140))), (1, (.const (.int .i64 2143))), (2, (.const (.int .i64 1)))]) none,
  .mk (some 107) (.build 65 #[(0, (.const (.int .i64 2144))), (1, (.const (.int .i64 2191))), (2, (.const (.int .i64 2)))]) none,
  .mk (some 108) (.build 65 #[(0, (.const (.int .i64 2192))), (1, (.const (.int .i64 2193))), (2, (.const (.int .i64 6)))]) none,
  .mk (some 109) (.build 65 #[(0, (.const (.int .i64 2194))), (1, (.const (.int .i64 2199))), (2, (.const (.int .i64 2)))]) none,
  .mk (some 110) (.build 65 #[(0, (.const (.int .i64 2200))), (1, (.const (.int .i64 2207))), (2, (.const (.int .i64 8)))]) none,
  .mk (some 111) (.build 65 #[(0, (.const (.int .i64 2208))), (1, (.const (.int .i64 2249))), (2, (.const (.int .i64 2)))]) none,
  .mk (some 112) (.build 65 #[(0, (.const (.int .i64 2250))), (1, (.const (.int .i64 2273))), (2, (.const (.int .i64 8)))]) none,
  .mk (some 113) (.build 65 #[(0, (.const (.int .i64 2274))), (1, (.const (.int .i64 2274))), (2, (.const (.int .i64 6)))]) none,
  .mk (some 114) (.build 65 #[(0, (.const (.int .i64 2275))), (1, (.const (.int .i64 2306))), (2, (.const (.int .i64 8)))]) none,
  .mk (some 115) (.build 65 #[(0, (.const (.int .i64 8192))), (1, (.const (.int .i64 8202))), (2, (.const (.int .i64 12)))]) none,
  .mk (some 116) (.build 65 #[(0, (.const (.int .i64 8203))), (1, (.const (.int .i64 8205))), (2, (.const (.int .i64 9)))]) none,
  .mk (some 117) (.build 65 #[(0, (.const (.int .i64 8207))), (1, (.const (.int .i64 8207))), (2, (.const (.int .i64 1)))]) none,
  .mk (some 118) (.build 65 #[(0, (.const (.int .i64 8208))), (1, (.const (.int .i64 8231))), (2, (.const (.int .i64 13)))]) none,
  .mk (some 119) (.build 65 #[(0, (.const (.int .i64 8232))), (1, (.const (.int .i64 8232))), (2, (.const (.int .i64 12)))]) none,
  .mk (some 120) (.build 65 #[(0, (.const (.int .i64 8233))), (1, (.const (.int .i64 8233))), (2, (.const (.int .i64 10)))]) none,
  .mk (some 121) (.build 65 #[(0, (.const (.int .i64 8234))), (1, (.const (.int .i64 8234))), (2, (.const (.int .i64 14)))]) none,
  .mk (some 122) (.build 65 #[(0, (.const (.int .i64 8235))), (1, (.const (.int .i64 8235))), (2, (.const (.int .i64 16)))]) none,
  .mk (some 123) (.build 65 #[(0, (.const (.int .i64 8236))), (1, (.const (.int .i64 8236))), (2, (.const (.int .i64 18)))]) none,
  .mk (some 124) (.build 65 #[(0, (.const (.int .i64 8237))), (1, (.const (.int .i64 8237))), (2, (.const (.int .i64 15)))]) none,
  .mk (some 125) (.build 65 #[(0, (.const (.int .i64 8238))), (1, (.const (.int .i64 8238))), (2, (.const (.int .i64 17)))]) none,
  .mk (some 126) (.build 65 #[(0, (.const (.int .i64 8239))), (1, (.const (.int .i64 8239))), (2, (.const (.int .i64 7)))]) none,
  .mk (some 127) (.build 65 #[(0, (.const (.int .i64 8240))), (1, (.const (.int .i64 8244))), (2, (.const (.int .i64 5)))]) none,
  .mk (some 128) (.build 65 #[(0, (.const (.int .i64 8245))), (1, (.const (.int .i64 8259))), (2, (.const (.int .i64 13)))]) none,
  .mk (some 129) (.build 65 #[(0, (.const (.int .i64 8260))), (1, (.const (.int .i64 8260))), (2, (.const (.int .i64 7)))]) none,
  .mk (some 130) (.build 65 #[(0, (.const (.int .i64 8261))), (1, (.const (.int .i64 8286))), (2, (.const (.int .i64 13)))]) none,
  .mk (some 131) (.build 65 #[(0, (.const (.int .i64 8287))), (1, (.const (.int .i64 8287))), (2, (.const (.int .i64 12)))]) none,
  .mk (some 132) (.build 65 #[(0, (.const (.int .i64 8288))), (1, (.const (.int .i64 8293))), (2, (.const (.int .i64 9)))]) none,
  .mk (some 133) (.build 65 #[(0, (.const (.int .i64 8294))), (1, (.const (.int .i64 8294))), (2, (.const (.int .i64 19)))]) none,
  .mk (some 134) (.build 65 #[(0, (.const (.int .i64 8295))), (1, (.const (.int .i64 8295))), (2, (.const (.int .i64 20)))]) none,
  .mk (some 135) (.build 65 #[(0, (.const (.int .i64 8296))), (1, (.const (.int .i64 8296))), (2, (.const (.int .i64 21)))]) none,
  .mk (some 136) (.build 65 #[(0, (.const (.int .i64 8297))), (1, (.const (.int .i64 8297))), (2, (.const (.int .i64 22)))]) none,
  .mk (some 137) (.build 65 #[(0, (.const (.int .i64 8298))), (1, (.const (.int .i64 8303))), (2, (.const (.int .i64 9)))]) none,
  .mk (some 138) (.build 65 #[(0, (.const (.int .i64 8304))), (1, (.const (.int .i64 8304))), (2, (.const (.int .i64 3)))]) none,
  .mk (some 139) (.build 65 #[(0, (.const (.int .i64 8308))), (1, (.const (.int .i64 8313))), (2, (.const (.int .i64 3)))]) none,
  .mk (some 140) (.build 65 #[(0, (.const (.int .i64 8314))), (1, (.const (.int .i64 8315))), (2, (.const (.int .i64 4)))]) none,
  .mk (some 141) (.build 65 #[(0, (.const (.int .i64 8316))), (1, (.const (.int .i64 8318))), (2, (.const (.int .i64 13)))]) none,
  .mk (some 142) (.build 65 #[(0, (.const (.int .i64 8320))), (1, (.const (.int .i64 8329))), (2, (.const (.int .i64 3)))]) none,
  .mk (some 143) (.build 65 #[(0, (.const (.int .i64 8330))), (1, (.const (.int .i64 8331))), (2, (.const (.int .i64 4)))]) none,
  .mk (some 144) (.build 65 #[(0, (.const (.int .i64 8332))), (1, (.const (.int .i64 8334))), (2, (.const (.int .i64 13)))]) none,
  .mk (some 145) (.build 65 #[(0, (.const (.int .i64 8352))), (1, (.const (.int .i64 8399))), (2, (.const (.int .i64 5)))]) none,
  .mk (some 146) (.build 65 #[(0, (.const (.int .i64 8400))), (1, (.const (.int .i64 8432))), (2, (.const (.int .i64 8)))]) none,
  .mk (some 147) (.build 65 #[(0, (.const (.int .i64 8592))), (1, (.const (.int .i64 8721))), (2, (.const (.int .i64 13)))]) none,
  .mk (some 148) (.build 65 #[(0, (.const (.int .i64 8722))), (1, (.const (.int .i64 8722))), (2, (.const (.int .i64 4)))]) none,
  .mk (some 149) (.build 65 #[(0, (.const (.int .i64 8723))), (1, (.const (.int .i64 8723))), (2, (.const (.int .i64 5)))]) none,
  .mk (some 150) (.build 65 #[(0, (.const (.int .i64 8724))), (1, (.const (.int .i64 9013))), (2, (.const (.int .i64 13)))]) none,
  .mk (some 151) (.build 65 #[(0, (.const (.int .i64 9083))), (1, (.const (.int .i64 9108))), (2, (.const (.int .i64 13)))]) none,
  .mk (some 152) (.build 65 #[(0, (.const (.int .i64 9110))), (1, (.const (.int .i64 9254))), (2, (.const (.int .i64 13)))]) none,
  .mk (some 153) (.build 65 #[(0, (.const (.int .i64 9280))), (1, (.const (.int .i64 9290))), (2, (.const (.int .i64 13)))]) none,
  .mk (some 154) (.build 65 #[(0, (.const (.int .i64 9312))), (1, (.const (.int .i64 9351))), (2, (.const (.int .i64 13)))]) none,
  .mk (some 155) (.build 65 #[(0, (.const (.int .i64 9352))), (1, (.const (.int .i64 9371))), (2, (.const (.int .i64 3)))]) none,
  .mk (some 156) (.build 65 #[(0, (.const (.int .i64 9450))), (1, (.const (.int .i64 9899))), (2, (.const (.int .i64 13)))]) none,
  .mk (some 157) (.build 65 #[(0, (.const (.int .i64 9901))), (1, (.const (.int .i64 10239))), (2, (.const (.int .i64 13)))]) none,
  .mk (some 158) (.build 65 #[(0, (.const (.int .i64 10496))), (1, (.const (.int .i64 11123))), (2, (.const (.int .i64 13)))]) none,
  .mk (some 159) (.build 65 #[(0, (.const (.int .i64 11776))), (1, (.const (.int .i64 11869))), (2, (.const (.int .i64 13)))]) none,
  .mk (some 160) (.build 65 #[(0, (.const (.int .i64 12288))), (1, (.const (.int .i64 12288))), (2, (.const (.int .i64 12)))]) none,
  .mk (some 161) (.build 65 #[(0, (.const (.int .i64 12289))), (1, (.const (.int .i64 12292))), (2, (.const (.int .i64 13)))]) none,
  .mk (some 162) (.build 65 #[(0, (.const (.int .i64 12296))), (1, (.const (.int .i64 12320))), (2, (.const (.int .i64 13)))]) none,
  .mk (some 163) (.build 65 #[(0, (.const (.int .i64 12330))), (1, (.const (.int .i64 12333))), (2, (.const (.int .i64 8)))]) none,
  .mk (some 164) (.build 65 #[(0, (.const (.int .i64 12336))), (1, (.const (.int .i64 12336))), (2, (.const (.int .i64 13)))]) none,
  .mk (some 165) (.build 65 #[(0, (.const (.int .i64 64285))), (1, (.const (.int .i64 64285))), (2, (.const (.int .i64 1)))]) none,
  .mk (some 166) (.build 65 #[(0, (.const (.int .i64 64286))), (1, (.const (.int .i64 64286))), (2, (.const (.int .i64 8)))]) none,
  .mk (some 167) (.build 65 #[(0, (.const (.int .i64 64287))), (1, (.const (.int .i64 64296))), (2, (.const (.int .i64 1)))]) none,
  .mk (some 168) (.build 65 #[(0, (.const (.int .i64 64297))), (1, (.const (.int .i64 64297))), (2, (.const (.int .i64 4)))]) none,
  .mk (some 169) (.build 65 #[(0, (.const (.int .i64 64298))), (1, (.const (.int .i64 64335))), (2, (.const (.int .i64 1)))]) none,
  .mk (some 170) (.build 65 #[(0, (.const (.int .i64 64336))), (1, (.const (.int .i64 64829))), (2, (.const (.int .i64 2)))]) none,
  .mk (some 171) (.build 65 #[(0, (.const (.int .i64 64830))), (1, (.const (.int .i64 64847))), (2, (.const (.int .i64 13)))]) none,
  .mk (some 172) (.build 65 #[(0, (.const (.int .i64 64848))), (1, (.const (.int .i64 64974))), (2, (.const (.int .i64 2)))]) none,
  .mk (some 173) (.build 65 #[(0, (.const (.int .i64 64975))), (1, (.const (.int .i64 64975))), (2, (.const (.int .i64 13)))]) none,
  .mk (some 174) (.build 65 #[(0, (.const (.int .i64 64976))), (1, (.const (.int .i64 65007))), (2, (.const (.int .i64 9)))]) none,
  .mk (some 175) (.build 65 #[(0, (.const (.int .i64 65008))), (1, (.const (.int .i64 65020))), (2, (.const (.int .i64 2)))]) none,
  .mk (some 176) (.build 65 #[(0, (.const (.int .i64 65021))), (1, (.const (.int .i64 65023))), (2, (.const (.int .i64 13)))]) none,
  .mk (some 177) (.build 65 #[(0, (.const (.int .i64 65024))), (1, (.const (.int .i64 65039))), (2, (.const (.int .i64 8)))]) none,
  .mk (some 178) (.build 65 #[(0, (.const (.int .i64 65040))), (1, (.const (.int .i64 65049))), (2, (.const (.int .i64 13)))]) none,
  .mk (some 179) (.build 65 #[(0, (.const (.int .i64 65056))), (1, (.const (.int .i64 65071))), (2, (.const (.int .i64 8)))]) none,
  .mk (some 180) (.build 65 #[(0, (.const (.int .i64 65072))), (1, (.const (.int .i64 65103))), (2, (.const (.int .i64 13)))]) none,
  .mk (some 181) (.build 65 #[(0, (.const (.int .i64 65104))), (1, (.const (.int .i64 65104))), (2, (.const (.int .i64 7)))]) none,
  .mk (some 182) (.build 65 #[(0, (.const (.int .i64 65105))), (1, (.const (.int .i64 65105))), (2, (.const (.int .i64 13)))]) none,
  .mk (some 183) (.build 65 #[(0, (.const (.int .i64 65106))), (1, (.const (.int .i64 65106))), (2, (.const (.int .i64 7)))]) none,
  .mk (some 184) (.build 65 #[(0, (.const (.int .i64 65108))), (1, (.const (.int .i64 65108))), (2, (.const (.int .i64 13)))]) none,
  .mk (some 185) (.build 65 #[(0, (.const (.int .i64 65109))), (1, (.const (.int .i64 65109))), (2, (.const (.int .i64 7)))]) none,
  .mk (some 186) (.build 65 #[(0, (.const (.int .i64 65110))), (1, (.const (.int .i64 65118))), (2, (.const (.int .i64 13)))]) none,
  .mk (some 187) (.build 65 #[(0, (.const (.int .i64 65119))), (1, (.const (.int .i64 65119))), (2, (.const (.int .i64 5)))]) none,
  .mk (some 188) (.build 65 #[(0, (.const (.int .i64 65120))), (1, (.const (.int .i64 65121))), (2, (.const (.int .i64 13)))]) none,
  .mk (some 189) (.build 65 #[(0, (.const (.int .i64 65122))), (1, (.const (.int .i64 65123))), (2, (.const (.int .i64 4)))]) none,
  .mk (some 190) (.build 65 #[(0, (.const (.int .i64 65124))), (1, (.const (.int .i64 65126))), (2, (.const (.int .i64 13)))]) none,
  .mk (some 191) (.build 65 #[(0, (.const (.int .i64 65128))), (1, (.const (.int .i64 65128))), (2, (.const (.int .i64 13)))]) none,
  .mk (some 192) (.build 65 #[(0, (.const (.int .i64 65129))), (1, (.const (.int .i64 65130))), (2, (.const (.int .i64 5)))]) none,
  .mk (some 193) (.build 65 #[(0, (.const (.int .i64 65131))), (1, (.const (.int .i64 65131))), (2, (.const (.int .i64 13)))]) none,
  .mk (some 194) (.build 65 #[(0, (.const (.int .i64 65136))), (1, (.const (.int .i64 65278))), (2, (.const (.int .i64 2)))]) none,
  .mk (some 195) (.build 65 #[(0, (.const (.int .i64 65279))), (1, (.const (.int .i64 65279))), (2, (.const (.int .i64 9)))]) none,
  .mk (some 196) (.build 65 #[(0, (.const (.int .i64 65281))), (1, (.const (.int .i64 65282))), (2, (.const (.int .i64 13)))]) none,
  .mk (some 197) (.build 65 #[(0, (.const (.int .i64 65283))), (1, (.const (.int .i64 65285))), (2, (.const (.int .i64 5)))]) none,
  .mk (some 198) (.build 65 #[(0, (.const (.int .i64 65286))), (1, (.const (.int .i64 65290))), (2, (.const (.int .i64 13)))]) none,
  .mk (some 199) (.build 65 #[(0, (.const (.int .i64 65291))), (1, (.const (.int .i64 65291))), (2, (.const (.int .i64 4)))]) none,
  .mk (some 200) (.build 65 #[(0, (.const (.int .i64 65292))), (1, (.const (.int .i64 65292))), (2, (.const (.int .i64 7)))]) none,
  .mk (some 201) (.build 65 #[(0, (.const (.int .i64 65293))), (1, (.const (.int .i64 65293))), (2, (.const (.int .i64 4)))]) none,
  .mk (some 202) (.build 65 #[(0, (.const (.int .i64 65294))), (1, (.const (.int .i64 65295))), (2, (.const (.int .i64 7)))]) none,
  .mk (some 203) (.build 65 #[(0, (.const (.int .i64 65296))), (1, (.const (.int .i64 65305))), (2, (.const (.int .i64 3)))]) none,
  .mk (some 204) (.build 65 #[(0, (.const (.int .i64 65306))), (1, (.const (.int .i64 65306))), (2, (.const (.int .i64 7)))]) none,
  .mk (some 205) (.build 65 #[(0, (.const (.int .i64 65307))), (1, (.const (.int .i64 65312))), (2, (.const (.int .i64 13)))]) none,
  .mk (some 206) (.build 65 #[(0, (.const (.int .i64 65339))), (1, (.const (.int .i64 65344))), (2, (.const (.int .i64 13)))]) none,
  .mk (some 207) (.build 65 #[(0, (.const (.int .i64 65371))), (1, (.const (.int .i64 65381))), (2, (.const (.int .i64 13)))]) none,
  .mk (some 208) (.build 65 #[(0, (.const (.int .i64 65504))), (1, (.const (.int .i64 65505))), (2, (.const (.int .i64 5)))]) none,
  .mk (some 209) (.build 65 #[(0, (.const (.int .i64 65506))), (1, (.const (.int .i64 65508))), (2, (.const (.int .i64 13)))]) none,
  .mk (some 210) (.build 65 #[(0, (.const (.int .i64 65509))), (1, (.const (.int .i64 65510))), (2, (.const (.int .i64 5)))]) none,
  .mk (some 211) (.build 65 #[(0, (.const (.int .i64 65520))), (1, (.const (.int .i64 65528))), (2, (.const (.int .i64 9)))]) none,
  .mk (some 212) (.build 65 #[(0, (.const (.int .i64 65529))), (1, (.const (.int .i64 65533))), (2, (.const (.int .i64 13)))]) none,
  .mk (some 213) (.build 65 #[(0, (.const (.int .i64 65534))), (1, (.const (.int .i64 65535))), (2, (.const (.int .i64 9)))]) none,
  .mk (some 214) (.build 65 #[(0, (.const (.int .i64 67584))), (1, (.const (.int .i64 68863))), (2, (.const (.int .i64 1)))]) none,
  .mk (some 215) (.build 65 #[(0, (.const (.int .i64 68864))), (1, (.const (.int .i64 68927))), (2, (.const (.int .i64 2)))]) none,
  .mk (some 216) (.build 65 #[(0, (.const (.int .i64 68928))), (1, (.const (.int .i64 69631))), (2, (.const (.int .i64 1)))]) none,
  .mk (some 217) (.build 65 #[(0, (.const (.int .i64 120782))), (1, (.const (.int .i64 120831))), (2, (.const (.int .i64 3)))]) none,
  .mk (some 218) (.build 65 #[(0, (.const (.int .i64 124928))), (1, (.const (.int .i64 126063))), (2, (.const (.int .i64 1)))]) none,
  .mk (some 219) (.build 65 #[(0, (.const (.int .i64 126064))), (1, (.const (.int .i64 126143))), (2, (.const (.int .i64 2)))]) none,
  .mk (some 220) (.build 65 #[(0, (.const (.int .i64 126144))), (1, (.const (.int .i64 126207))), (2, (.const (.int .i64 1)))]) none,
  .mk (some 221) (.build 65 #[(0, (.const (.int .i64 126208))), (1, (.const (.int .i64 126287))), (2, (.const (.int .i64 2)))]) none,
  .mk (some 222) (.build 65 #[(0, (.const (.int .i64 126288))), (1, (.const (.int .i64 126463))), (2, (.const (.int .i64 1)))]) none,
  .mk (some 223) (.build 65 #[(0, (.const (.int .i64 126464))), (1, (.const (.int .i64 126719))), (2, (.const (.int .i64 2)))]) none,
  .mk (some 224) (.build 65 #[(0, (.const (.int .i64 126720))), (1, (.const (.int .i64 126975))), (2, (.const (.int .i64 1)))]) none,
  .mk (some 225) (.build 65 #[(0, (.const (.int .i64 126976))), (1, (.const (.int .i64 127231))), (2, (.const (.int .i64 13)))]) none,
  .mk (some 226) (.build 65 #[(0, (.const (.int .i64 127232))), (1, (.const (.int .i64 127242))), (2, (.const (.int .i64 3)))]) none,
  .mk (some 227) (.build 65 #[(0, (.const (.int .i64 127744))), (1, (.const (.int .i64 128727))), (2, (.const (.int .i64 13)))]) none,
  .mk (some 228) (.build 65 #[(0, (.const (.int .i64 917504))), (1, (.const (.int .i64 917759))), (2, (.const (.int .i64 9)))]) none,
  .mk (some 229) (.build 65 #[(0, (.const (.int .i64 917760))), (1, (.const (.int .i64 917999))), (2, (.const (.int .i64 8)))]) none,
  .mk (some 230) (.build 65 #[(0, (.const (.int .i64 918000))), (1, (.const (.int .i64 921599))), (2, (.const (.int .i64 9)))]) none,
  .mk (some 231) (.buildSlice 45 230 #[(0, (.tmp 1)), (1, (.tmp 2)), (2, (.tmp 3)), (3, (.tmp 4)), (4, (.tmp 5)), (5, (.tmp 6)), (6, (.tmp 7)), (7, (.tmp 8)), (8, (.tmp 9)), (9, (.tmp 10)), (10, (.tmp 11)), (11, (.tmp 12)), (12, (.tmp 13)), (13, (.tmp 14)), (14, (.tmp 15)), (15, (.tmp 16)), (16, (.tmp 17)), (17, (.tmp 18)), (18, (.tmp 19)), (19, (.tmp 20)), (20, (.tmp 21)), (21, (.tmp 22)), (22, (.tmp 23)), (23, (.tmp 24)), (24, (.tmp 25)), (25, (.tmp 26)), (26, (.tmp 27)), (27, (.tmp 28)), (28, (.tmp 29)), (29, (.tmp 30)), (30, (.tmp 31)), (31, (.tmp 32)), (32, (.tmp 33)), (33, (.tmp 34)), (34, (.tmp 35)), (35, (.tmp 36)), (36, (.tmp 37)), (37, (.tmp 38)), (38, (.tmp 39)), (39, (.tmp 40)), (40, (.tmp 41)), (41, (.tmp 42)), (42, (.tmp 43)), (43, (.tmp 44)), (44, (.tmp 45)), (45, (.tmp 46)), (46, (.tmp 47)), (47, (.tmp 48)), (48, (.tmp 49)), (49, (.tmp 50)), (50, (.tmp 51)), (51, (.tmp 52)), (52, (.tmp 53)), (53, (.tmp 54)), (54, (.tmp 55)), (55, (.tmp 56)), (56, (.tmp 57)), (57, (.tmp 58)), (58, (.tmp 59)), (59, (.tmp 60)), (60, (.tmp 61)), (61, (.tmp 62)), (62, (.tmp 63)), (63, (.tmp 64)), (64, (.tmp 65)), (65, (.tmp 66)), (66, (.tmp 67)), (67, (.tmp 68)), (68, (.tmp 69)), (69, (.tmp 70)), (70, (.tmp 71)), (71, (.tmp 72)), (72, (.tmp 73)), (73, (.tmp 74)), (74, (.tmp 75)), (75, (.tmp 76)), (76, (.tmp 77)), (77, (.tmp 78)), (78, (.tmp 79)), (79, (.tmp 80)), (80, (.tmp 81)), (81, (.tmp 82)), (82, (.tmp 83)), (83, (.tmp 84)), (84, (.tmp 85)), (85, (.tmp 86)), (86, (.tmp 87)), (87, (.tmp 88)), (88, (.tmp 89)), (89, (.tmp 90)), (90, (.tmp 91)), (91, (.tmp 92)), (92, (.tmp 93)), (93, (.tmp 94)), (94, (.tmp 95)), (95, (.tmp 96)), (96, (.tmp 97)), (97, (.tmp 98)), (98, (.tmp 99)), (99, (.tmp 100)), (100, (.tmp 101)), (101, (.tmp 102)), (102, (.tmp 103)), (103, (.tmp 104)), (104, (.tmp 105)), (105, (.tmp 106)), (106, (.tmp 107)), (107, (.tmp 108)), (108, (.tmp 109)), (109, (.tmp 110)), (110, (.tmp 111)), (111, (.tmp 112)), (112, (.tmp 113)), (113, (.tmp 114)), (114, (.tmp 115)), (115, (.tmp 116)), (116, (.tmp 117)), (117, (.tmp 118)), (118, (.tmp 119)), (119, (.tmp 120)), (120, (.tmp 121)), (121, (.tmp 122)), (122, (.tmp 123)), (123, (.tmp 124)), (124, (.tmp 125)), (125, (.tmp 126)), (126, (.tmp 127)), (127, (.tmp 128)), (128, (.tmp 129)), (129, (.tmp 130)), (130, (.tmp 131)), (131, (.tmp 132)), (132, (.tmp 133)), (133, (.tmp 134)), (134, (.tmp 135)), (135, (.tmp 136)), (136, (.tmp 137)), (137, (.tmp 138)), (138, (.tmp 139)), (139, (.tmp 140)), (140, (.tmp 141)), (141, (.tmp 142)), (142, (.tmp 143)), (143, (.tmp 144)), (144, (.tmp 145)), (145, (.tmp 146)), (146, (.tmp 147)), (147, (.tmp 148)), (148, (.tmp 149)), (149, (.tmp 150)), (150, (.tmp 151)), (151, (.tmp 152)), (152, (.tmp 153)), (153, (.tmp 154)), (154, (.tmp 155)), (155, (.tmp 156)), (156, (.tmp 157)), (157, (.tmp 158)), (158, (.tmp 159)), (159, (.tmp 160)), (160, (.tmp 161)), (161, (.tmp 162)), (162, (.tmp 163)), (163, (.tmp 164)), (164, (.tmp 165)), (165, (.tmp 166)), (166, (.tmp 167)), (167, (.tmp 168)), (168, (.tmp 169)), (169, (.tmp 170)), (170, (.tmp 171)), (171, (.tmp 172)), (172, (.tmp 173)), (173, (.tmp 174)), (174, (.tmp 175)), (175, (.tmp 176)), (176, (.tmp 177)), (177, (.tmp 178)), (178, (.tmp 179)), (179, (.tmp 180)), (180, (.tmp 181)), (181, (.tmp 182)), (182, (.tmp 183)), (183, (.tmp 184)), (184, (.tmp 185)), (185, (.tmp 186)), (186, (.tmp 187)), (187, (.tmp 188)), (188, (.tmp 189)), (189, (.tmp 190)), (190, (.tmp 191)), (191, (.tmp 192)), (192, (.tmp 193)), (193, (.tmp 194)), (194, (.tmp 195)), (195, (.tmp 196)), (196, (.tmp 197)), (197, (.tmp 198)), (198, (.tmp 199)), (199, (.tmp 200)), (200, (.tmp 201)), (201, (.tmp 202)), (202, (.tmp 203)), (203, (.tmp 204)), (204, (.tmp 205)), (205, (.tmp 206)), (206, (.tmp 207)), (207, (.tmp 208)), (208, (.tmp 209)), (209, (.tmp 210)), (210, (.tmp 211)), (211, (.tmp 212)), (212, (.tmp 213)), (213, (.tmp 214)), (214, (.tmp 215)), (215, (.tmp 216)), (216, (.tmp 217)), (217, (.tmp 218)), (218, (.tmp 219)), (219, (.tmp 220)), (220, (.tmp 221)), (221, (.tmp 222)), (222, (.tmp 223)), (223, (.tmp 224)), (224, (.tmp 225)), (225, (.tmp 226)), (226, (.tmp 227)), (227, (.tmp 228)), (228, (.tmp 229)), (229, (.tmp 230))]) none,
  .mk (some 0) (.assign (.tmp 231)) none]
def c22 : PC := (.seq (.reg false r22_0) (.seq (.reg false r22_1) .ret))
theorem e22 {args : List PV} {h : Heap} {K : PV → Heap → Prop} (hl : args.length = 0) (s : pwp Try.prog [] c22 (fin Try.prog [.tmp 0] h K) (slots0 (olds args)) h) : CanP Try.prog 22 args h K :=
  can_of2 (n := 232) mixed Try.func22 rfl (by kernel_rfl) (by rw [hl]; kernel_rfl) rfl (by kernel_rfl) s
/-! ### naskh.api.JoinRanges: function 23 -/
def r23_0 : List PS := [.mk (some 0) (.assign (.const (.slice none 0 0))) none]
def r23_1 : List PS := [.mk (some 1) (.build 65 #[(0, (.const (.int .i64 768))), (1, (.const (.int .i64 879))), (2, (.const (.int .i64 1)))]) none,
  .mk (some 2) (.build 65 #[(0, (.const (.int .i64 1155))), (1, (.const (.int .i64 1161))), (2, (.const (.int .i64 1)))]) none,
  .mk (some 3) (.build 65 #[(0, (.const (.int .i64 1425))), (1, (.const (.int .i64 1469))), (2, (.const (.int .i64 1)))]) none,
  .mk (some 4) (.build 65 #[(0, (.const (.int .i64 1471))), (1, (.const (.int .i64 1471))), (2, (.const (.int .i64 1)))]) none,
  .mk (some 5) (.build 65 #[(0, (.const (.int .i64 1473))), (1, (.const (.int .i64 1474))), (2, (.const (.int .i64 1)))]) none,
  .mk (some 6) (.build 65 #[(0, (.const (.int .i64 1476))), (1, (.const (.int .i64 1477))), (2, (.const (.int .i64 1)))]) none,
  .mk (some 7) (.build 65 #[(0, (.const (.int .i64 1479))), (1, (.const (.int .i64 1479))), (2, (.const (.int .i64 1)))]) none,
  .mk (some 8) (.build 65 #[(0, (.const (.int .i64 1552))), (1, (.const (.int .i64 1562))), (2, (.const (.int .i64 1)))]) none,
  .mk (some 9) (.build 65 #[(0, (.const (.int .i64 1564))), (1, (.const (.int .i64 1564))), (2, (.const (.int .i64 1)))]) none,
  .mk (some 10) (.build 65 #[(0, (.const (.int .i64 1568))), (1, (.const (.int .i64 1568))), (2, (.const (.int .i64 3)))]) none,
  .mk (some 11) (.build 65 #[(0, (.const (.int .i64 1570))), (1, (.const (.int .i64 1573))), (2, (.const (.int .i64 2)))]) none,
  .mk (some 12) (.build 65 #[(0, (.const (.int .i64 1574))), (1, (.const (.int .i64 1574))), (2, (.const (.int .i64 3)))]) none,
  .mk (some 13) (.build 65 #[(0, (.const (.int .i64 1575))), (1, (.const (.int .i64 1575))), (2, (.const (.int .i64 2)))]) none,
  .mk (some 14) (.build 65 #[(0, (.const (.int .i64 1576))), (1, (.const (.int .i64 1576))), (2, (.const (.int .i64 3)))]) none,
  .mk (some 15) (.build 65 #[(0, (.const (.int .i64 1577))), (1, (.const (.int .i64 1577))), (2, (.const (.int .i64 2)))]) none,
  .mk (some 16) (.build 65 #[(0, (.const (.int .i64 1578))), (1, (.const (.int .i64 1582))), (2, (.const (.int .i64 3)))]) none,
  .mk (some 17) (.build 65 #[(0, (.const (.int .i64 1583))), (1, (.const (.int .i64 1586))), (2, (.const (.int .i64 2)))]) none,
  .mk (some 18) (.build 65 #[(0, (.const (.int .i64 1587))), (1, (.const (.int .i64 1599))), (2, (.const (.int .i64 3)))]) none,
  .mk (some 19) (.build 65 #[(0, (.const (.int .i64 1600))), (1, (.const (.int .i64 1600))), (2, (.const (.int .i64 5)))]) none,
  .mk (some 20) (.build 65 #[(0, (.const (.int .i64 1601))), (1, (.const (.int .i64 1607))), (2, (.const (.int .i64 3)))]) none,
  .mk (some 21) (.build 65 #[(0, (.const (.int .i64 1608))), (1, (.const (.int .i64 1608))), (2, (.const (.int .i64 2)))]) none,
  .mk (some 22) (.build 65 #[(0, (.const (.int .i64 1609))), (1, (.const (.int .i64 1610))), (2, (.const (.int .i64 3)))]) none,
  .mk (some 23) (.build 65 #[(0, (.const (.int .i64 1611))), (1, (.const (.int .i64 1631))), (2, (.const (.int .i64 1)))]) none,
  .mk (some 24) (.build 65 #[(0, (.const (.int .i64 1646))), (1, (.const (.int .i64 1647))), (2, (.const (.int .i64 3)))]) none,
  .mk (some 25) (.build 65 #[(0, (.const (.int .i64 1648))), (1, (.const (.int .i64 1648))), (2, (.const (.int .i64 1)))]) none,
  .mk (some 26) (.build 65 #[(0, (.const (.int .i64 1649))), (1, (.const (.int .i64 1651))), (2, (.const (.int .i64 2)))]) none,
  .mk (some 27) (.build 65 #[(0, (.const (.int .i64 1653))), (1, (.const (.int .i64 1655))), (2, (.const (.int .i64 2)))]) none,
  .mk (some 28) (.build 65 #[(0, (.const (.int .i64 1656))), (1, (.const (.int .i64 1671))), (2, (.const (.int .i64 3)))]) none,
  .mk (some 29) (.build 65 #[(0, (.const (.int .i64 1672))), (1, (.const (.int .i64 1689))), (2, (.const (.int .i64 2)))]) none,
  .mk (some 30) (.build 65 #[(0, (.const (.int .i64 1690))), (1, (.const (.int .i64 1727))), (2, (.const (.int .i64 3)))]) none,
  .mk (some 31) (.build 65 #[(0, (.const (.int .i64 1728))), (1, (.const (.int .i64 1728))), (2, (.const (.int .i64 2)))]) none,
  .mk (some 32) (.build 65 #[(0, (.const (.int .i64 1729))), (1, (.const (.int .i64 1730))), (2, (.const (.int .i64 3)))]) none,
  .mk (some 33) (.build 65 #[(0, (.const (.int .i64 1731))), (1, (.const (.int .i64 1739))), (2, (.const (.int .i64 2)))]) none,
  .mk (some 34) (.build 65 #[(0, (.const (.int .i64 1740))), (1, (.const (.int .i64 1740))), (2, (.const (.int .i64 3)))]) none,
  .mk (some 35) (.build 65 #[(0, (.const (.int .i64 1741))), (1, (.const (.int .i64 1741))), (2, (.const (.int .i64 2)))]) none,
  .mk (some 36) (.build 65 #[(0, (.const (.int .i64 1742))), (1, (.const (.int .i64 1742))), (2, (.const (.int .i64 3)))]) none,
  .mk (some 37) (.build 65 #[(0, (.const (.int .i64 1743))), (1, (.const (.int .i64 1743))), (2, (.const (.int .i64 2)))]) none,
  .mk (some 38) (.build 65 #[(0, (.const (.int .i64 1744))), (1, (.const (.int .i64 1745))), (2, (.const (.int .i64 3)))]) none,
  .mk (some 39) (.build 65 #[(0, (.const (.int .i64 1746))), (1, (.const (.int .i64 1747))), (2, (.const (.int .i64 2)))]) none,
  .mk (some 40) (.build 65 #[(0, (.const (.int .i64 1749))), (1, (.const (.int .i64 1749))), (2, (.const (.int .i64 2)))]) none,
  .mk (some 41) (.build 65 #[(0, (.const (.int .i64 1750))), (1, (.const (.int .i64 1756))), (2, (.const (.int .i64 1)))]) none,
  .mk (some 42) (.build 65 #[(0, (.const (.int .i64 1759))), (1, (.const (.int .i64 1764))), (2, (.const (.int .i64 1)))]) none,
  .mk (some 43) (.build 65 #[(0, (.const (.int .i64 1767))), (1, (.const (.int .i64 1768))), (2, (.const (.int .i64 1)))]) none,
  .mk (some 44) (.build 65 #[(0, (.const (.int .i64 1770))), (1, (.const (.int .i64 1773))), (2, (.const (.int .i64 1)))]) none,
  .mk (some 45) (.build 65 #[(0, (.const (.int .i64 1774))), (1, (.const (.int .i64 1775))), (2, (.const (.int .i64 2)))]) none,
  .mk (some 46) (.build 65 #[(0, (.const (.int .i64 1786))), (1, (.const (.int .i64 1788))), (2, (.const (.int .i64 3)))]) none,
  .mk (some 47) (.build 65 #[(0, (.const (.int .i64 1791))), (1, (.const (.int .i64 1791))), (2, (.const (.int .i64 3)))]) none,
  .mk (some 48) (.build 65 #[(0, (.const (.int .i64 1840))), (1, (.const (.int .i64 1866))), (2, (.const (.int .i64 1)))]) none,
  .mk (some 49) (.build 65 #[(0, (.const (.int .i64 1958))), (1, (.const (.int .i64 1968))), (2, (.const (.int .i64 1)))]) none,
  .mk (some 50) (.build 65 #[(0, (.const (.int .i64 1994))), (1, (.const (.int .i64 2026))), (2, (.const (.int .i64 3)))]) none,
  .mk (some 51) (.build 65 #[(0, (.const (.int .i64 2027))), (1, (.const (.int .i64 2035))), (2, (.const (.int .i64 1)))]) none,
  .mk (some 52) (.build 65 #[(0, (.const (.int .i64 2042))), (1, (.const (.int .i64 2042))), (2, (.const (.int .i64 5)))]) none,
  .mk (some 53) (.build 65 #[(0, (.const (.int .i64 2200))), (1, (.const (.int .i64 2207))), (2, (.const (.int .i64 1)))]) none,
  .mk (some 54) (.build 65 #[(0, (.const (.int .i64 2250))), (1, (.const (.int .i64 2273))), (2, (.const (.int .i64 1)))]) none,
  .mk (some 55) (.build 65 #[(0, (.const (.int .i64 2275))), (1, (.const (.int .i64 2306))), (2, (.const (.int .i64 1)))]) none,
  .mk (some 56) (.build 65 #[(0, (.const (.int .i64 8203))), (1, (.const (.int .i64 8203))), (2, (.const (.int .i64 1)))]) none,
  .mk (some 57) (.build 65 #[(0, (.const (.int .i64 8205))), (1, (.const (.int .i64 8205))), (2, (.const (.int .i64 5)))]) none,
  .mk (some 58) (.build 65 #[(0, (.const (.int .i64 8206))), (1, (.const (.int .i64 8207))), (2, (.const (.int .i64 1)))]) none,
  .mk (some 59) (.build 65 #[(0, (.const (.int .i64 8234))), (1, (.const (.int .i64 8238))), (2, (.const (.int .i64 1)))]) none,
  .mk (some 60) (.build 65 #[(0, (.const (.int .i64 8288))), (1, (.const (.int .i64 8292))), (2, (.const (.int .i64 1)))]) none,
  .mk (some 61) (.build 65 #[(0, (.const (.int .i64 8298))), (1, (.const (.int .i64 8303))), (2, (.const (.int .i64 1)))]) none,
  .mk (some 62) (.build 65 #[(0, (.const (.int .i64 8400))), (1, (.const (.int .i64 8432))), (2, (.const (.int .i64 1)))]) none,
  .mk (some 63) (.build 65 #[(0, (.const (.int .i64 43072))), (1, (.const (.int .i64 43121))), (2, (.const (.int .i64 3)))]) none,
  .mk (some 64) (.build 65 #[(0, (.const (.int .i64 43122))), (1, (.const (.int .i64 43122))), (2, (.const (.int .i64 4)))]) none,
  .mk (some 65) (.build 65 #[(0, (.const (.int .i64 65024))), (1, (.const (.int .i64 65039))), (2, (.const (.int .i64 1)))]) none,
  .mk (some 66) (.build 65 #[(0, (.const (.int .i64 65056))), (1, (.const (.int .i64 65071))), (2, (.const (.int .i64 1)))]) none,
  .mk (some 67) (.build 65 #[(0, (.const (.int .i64 65279))), (1, (.const (.int .i64 65279))), (2, (.const (.int .i64 1)))]) none,
  .mk (some 68) (.build 65 #[(0, (.const (.int .i64 917760))), (1, (.const (.int .i64 917999))), (2, (.const (.int .i64 1)))]) none,
  .mk (some 69) (.buildSlice 45 68 #[(0, (.tmp 1)), (1, (.tmp 2)), (2, (.tmp 3)), (3, (.tmp 4)), (4, (.tmp 5)), (5, (.tmp 6)), (6, (.tmp 7)), (7, (.tmp 8)), (8, (.tmp 9)), (9, (.tmp 10)), (10, (.tmp 11)), (11, (.tmp 12)), (12, (.tmp 13)), (13, (.tmp 14)), (14, (.tmp 15)), (15, (.tmp 16)), (16, (.tmp 17)), (17, (.tmp 18)), (18, (.tmp 19)), (19, (.tmp 20)), (20, (.tmp 21)), (21, (.tmp 22)), (22, (.tmp 23)), (23, (.tmp 24)), (24, (.tmp 25)), (25, (.tmp 26)), (26, (.tmp 27)), (27, (.tmp 28)), (28, (.tmp 29)), (29, (.tmp 30)), (30, (.tmp 31)), (31, (.tmp 32)), (32, (.tmp 33)), (33, (.tmp 34)), (34, (.tmp 35)), (35, (.tmp 36)), (36, (.tmp 37)), (37, (.tmp 38)), (38, (.tmp 39)), (39, (.tmp 40)), (40, (.tmp 41)), (41, (.tmp 42)), (42, (.tmp 43)), (43, (.tmp 44)), (44, (.tmp 45)), (45, (.tmp 46)), (46, (.tmp 47)), (47, (.tmp 48)), (48, (.tmp 49)), (49, (.tmp 50)), (50, (.tmp 51)), (51, (.tmp 52)), (52, (.tmp 53)), (53, (.tmp 54)), (54, (.tmp 55)), (55, (.tmp 56)), (56, (.tmp 57)), (57, (.tmp 58)), (58, (.tmp 59)), (59, (.tmp 60)), (60, (.tmp 61)), (61, (.tmp 62)), (62, (.tmp 63)), (63, (.tmp 64)), (64, (.tmp 65)), (65, (.tmp 66)), (66, (.tmp 67)), (67, (.tmp 68))]) none,
  .mk (some 0) (.assign (.tmp 69)) none]
def c23 : PC := (.seq (.reg false r23_0) (.seq (.reg false r23_1) .ret))
theorem e23 {args : List PV} {h : Heap} {K : PV → Heap → Prop} (hl : args.length = 0) (s : pwp Try.prog [] c23 (fin Try.prog [.tmp 0] h K) (slots0 (olds args)) h) : CanP Try.prog 23 args h K :=
  can_of2 (n := 70) mixed Try.func23 rfl (by kernel_rfl) (by rw [hl]; kernel_rfl) rfl (by kernel_rfl) s
/-! ### naskh.props.New: function 9 -/
def r9_0 : List PS := [.mk (some 0) (.assign (.const (.pointer none))) none]
def r9_1 : List PS := [.mk (some 6) (.call ⟨(.value (.func 22)), #[], #[]⟩) none,
  .mk (some 7) (.call ⟨(.value (.func 20)), #[(.tmp 6), (.const (.int .i64 0))], #[45, 3]⟩) none,
  .mk (some 5) (.move (.tmp 7)) none,
  .mk (some 8) (.extract (.tmp 5) 0) none,
  .mk (some 9) (.extract (.tmp 5) 1) none,
  .mk (some 1) (.assign (.tmp 8)) none,
  .mk (some 2) (.assign (.tmp 9)) none]
def r9_2 : List PS := [.mk (some 11) (.call ⟨(.value (.func 23)), #[], #[]⟩) none,
  .mk (some 12) (.call ⟨(.value (.func 20)), #[(.tmp 11), (.const (.int .i64 0))], #[45, 3]⟩) none,
  .mk (some 10) (.move (.tmp 12)) none,
  .mk (some 13) (.extract (.tmp 10) 0) none,
  .mk (some 14) (.extract (.tmp 10) 1) none,
  .mk (some 3) (.assign (.tmp 13)) none,
  .mk (some 4) (.assign (.tmp 14)) none]
def r9_3 : List PS := [.mk (some 15) (.move (.tmp 2)) none,
  .mk (some 16) (.binOp .neq 42 (.tmp 15) (.const (.int .i64 0)) 42) none,
  .mk (some 17) (.move (.tmp 16)) none,
  .mk (some 18) (.move (.tmp 4)) (some (17, false)),
  .mk (some 19) (.binOp .neq 42 (.tmp 18) (.const (.int .i64 0)) 42) (some (17, false)),
  .mk (some 20) (.pick (.tmp 17) (.const (.bool true)) (.tmp 19)) none]
def r9_4 : List PS := [.mk (some 0) (.assign (.const (.pointer none))) none]
def r9_5 : List PS := [.mk (some 21) (.move (.tmp 1)) none,
  .mk (some 22) (.move (.tmp 3)) none,
  .mk (some 23) (.build 48 #[(0, (.tmp 21)), (1, (.tmp 22))]) none,
  .mk (some 24) (.build 50 #[(0, (.tmp 23))]) none,
  .mk (some 25) (.box 50 (.tmp 24)) none,
  .mk (some 0) (.assign (.tmp 25)) none]
def c9 : PC := (.seq (.reg false r9_0) (.seq (.reg false r9_1) (.seq (.reg false r9_2) (.seq (.seq (.reg false r9_3) (.cond (.tmp 20) (.seq (.reg false r9_4) .ret) .skip)) (.seq (.reg false r9_5) .ret)))))
theorem e9 {args : List PV} {h : Heap} {K : PV → Heap → Prop} (hl : args.length = 0) (s : pwp Try.prog [] c9 (fin Try.prog [.tmp 0] h K) (slots0 (olds args)) h) : CanP Try.prog 9 args h K :=
  can_of2 (n := 26) mixed Try.func9 rfl (by kernel_rfl) (by rw [hl]; kernel_rfl) rfl (by kernel_rfl) s
/-! ### (*naskh.props.Props).made: function 34 -/
def r34_0 : List PS := [.mk (some 2) (.assign (.const (.bool false))) none]
def r34_1 : List PS := [.mk (some 3) (.move (.tmp 0)) none,
  .mk (some 4) (.binOp .neq 26 (.tmp 3) (.const (.pointer none)) 26) none,
  .mk (some 5) (.move (.tmp 4)) none,
  .mk (some 6) (.move (.tmp 0)) (some (5, true)),
  .mk (some 7) (.nilCheck (.tmp 6)) (some (5, true)),
  .mk (some 8) (.fieldAddr 50 (.tmp 7) 0) (some (5, true)),
  .mk (some 9) (.fieldAddr 48 (.tmp 8) 0) (some (5, true)),
  .mk (some 10) (.load 31 (.tmp 9)) (some (5, true)),
  .mk (some 11) (.binOp .neq 31 (.tmp 10) (.const (.pointer none)) 31) (some (5, true)),
  .mk (some 12) (.pick (.tmp 5) (.tmp 11) (.const (.bool false))) none,
  .mk (some 2) (.assign (.tmp 12)) none]
def c34 : PC := (.seq (.reg false r34_0) (.seq (.reg false r34_1) .ret))
theorem e34 {args : List PV} {h : Heap} {K : PV → Heap → Prop} (hl : args.length = 1) (s : pwp Try.prog [] c34 (fin Try.prog [.tmp 2] h K) (slots0 (olds args)) h) : CanP Try.prog 34 args h K :=
  can_of2 (n := 13) mixed Try.func34 rfl (by kernel_rfl) (by rw [hl]; kernel_rfl) rfl (by kernel_rfl) s
/-! ### (*naskh.trie.Table).has: function 35 -/
def r35_0 : List PS := [.mk (some 4) (.assign (.const (.bool false))) none]
def r35_1 : List PS := [.mk (some 5) (.move (.tmp 0)) none,
  .mk (some 6) (.binOp .neq 31 (.tmp 5) (.const (.pointer none)) 31) none,
  .mk (some 7) (.move (.tmp 6)) none,
  .mk (some 8) (.move (.tmp 0)) (some (7, true)),
  .mk (some 9) (.nilCheck (.tmp 8)) (some (7, true)),
  .mk (some 10) (.fieldAddr 58 (.tmp 9) 2) (some (7, true)),
  .mk (some 11) (.load 4 (.tmp 10)) (some (7, true)),
  .mk (some 12) (.pick (.tmp 7) (.tmp 11) (.const (.bool false))) none,
  .mk (some 13) (.move (.tmp 12)) none,
  .mk (some 14) (.move (.tmp 1)) (some (13, true)),
  .mk (some 15) (.binOp .geq 3 (.tmp 14) (.const (.int .i64 0)) 3) (some (13, true)),
  .mk (some 16) (.pick (.tmp 13) (.tmp 15) (.const (.bool false))) none,
  .mk (some 17) (.move (.tmp 16)) none,
  .mk (some 18) (.move (.tmp 1)) (some (17, true)),
  .mk (some 19) (.binOp .leq 3 (.tmp 18) (.const (.int .i64 1114111)) 3) (some (17, true)),
  .mk (some 20) (.pick (.tmp 17) (.tmp 19) (.const (.bool false))) none,
  .mk (some 4) (.assign (.tmp 20)) none]
def c35 : PC := (.seq (.reg false r35_0) (.seq (.reg false r35_1) .ret))
theorem e35 {args : List PV} {h : Heap} {K : PV → Heap → Prop} (hl : args.length = 2) (s : pwp Try.prog [] c35 (fin Try.prog [.tmp 4] h K) (slots0 (olds args)) h) : CanP Try.prog 35 args h K :=
  can_of2 (n := 21) mixed Try.func35 rfl (by kernel_rfl) (by rw [hl]; kernel_rfl) rfl (by kernel_rfl) s
/-! ### (*naskh.trie.stages).at: function 36 -/
def r36_0 : List PS := [.mk (some 4) (.assign (.const (.int .i64 0))) none]
def r36_1 : List PS := [.mk (some 5) (.move (.tmp 0)) none,
  .mk (some 6) (.nilCheck (.tmp 5)) none,
  .mk (some 7) (.fieldAddr 56 (.tmp 6) 1) none,
  .mk (some 8) (.load 54 (.tmp 7)) none,
  .mk (some 9) (.move (.tmp 0)) none,
  .mk (some 10) (.nilCheck (.tmp 9)) none,
  .mk (some 11) (.fieldAddr 56 (.tmp 10) 0) none,
  .mk (some 12) (.load 22 (.tmp 11)) none,
  .mk (some 13) (.move (.tmp 1)) none,
  .mk (some 14) (.binOp .shr 3 (.tmp 13) (.const (.int .u64 7)) 69) none,
  .mk (some 15) (.indexAddr 22 (.tmp 12) (.tmp 14)) none,
  .mk (some 16) (.load 3 (.tmp 15)) none,
  .mk (some 17) (.move (.tmp 1)) none,
  .mk (some 18) (.binOp .and 3 (.tmp 17) (.const (.int .i64 127)) 3) none,
  .mk (some 19) (.indexAddr 54 (.tmp 8) (.tmp 16)) none,
  .mk (some 20) (.indexAddr 60 (.tmp 19) (.tmp 18)) none,
  .mk (some 21) (.load 3 (.tmp 20)) none,
  .mk (some 4) (.assign (.tmp 21)) none]
def c36 : PC := (.seq (.reg false r36_0) (.seq (.reg true r36_1) .ret))
theorem e36 {args : List PV} {h : Heap} {K : PV → Heap → Prop} (hl : args.length = 2) (s : pwp Try.prog [] c36 (fin Try.prog [.tmp 4] h K) (slots0 (olds args)) h) : CanP Try.prog 36 args h K :=
  can_of2 (n := 22) mixed Try.func36 rfl (by kernel_rfl) (by rw [hl]; kernel_rfl) rfl (by kernel_rfl) s
/-! ### (*naskh.trie.Table).Get: function 26 -/
def r26_0 : List PS := [.mk (some 4) (.assign (.const (.int .i64 0))) none]
def r26_1 : List PS := [.mk (some 6) (.move (.tmp 0)) none,
  .mk (some 7) (.move (.tmp 1)) none,
  .mk (some 8) (.call ⟨(.value (.func 35)), #[(.tmp 6), (.tmp 7)], #[31, 3]⟩) none,
  .mk (some 5) (.assign (.tmp 8)) none]
def r26_2 : List PS := [.mk (some 9) (.move (.tmp 0)) none,
  .mk (some 10) (.nilCheck (.tmp 9)) none,
  .mk (some 11) (.fieldAddr 58 (.tmp 10) 0) none,
  .mk (some 12) (.move (.tmp 1)) none,
  .mk (some 13) (.call ⟨(.value (.func 36)), #[(.tmp 11), (.tmp 12)], #[56, 3]⟩) none,
  .mk (some 4) (.assign (.tmp 13)) none]
def r26_3 : List PS := [.mk (some 15) (.move (.tmp 0)) none,
  .mk (some 16) (.binOp .eql 31 (.tmp 15) (.const (.pointer none)) 31) none,
  .mk (some 14) (.assign (.tmp 16)) none]
def r26_4 : List PS := [.mk (some 4) (.assign (.const (.int .i64 0))) none]
def r26_5 : List PS := [.mk (some 17) (.move (.tmp 0)) none,
  .mk (some 18) (.nilCheck (.tmp 17)) none,
  .mk (some 19) (.fieldAddr 58 (.tmp 18) 1) none,
  .mk (some 20) (.load 3 (.tmp 19)) none,
  .mk (some 4) (.assign (.tmp 20)) none]
def c26 : PC := (.seq (.reg false r26_0) (.seq (.block 0 (.seq (.reg false r26_1) (.cond (.tmp 5) (.seq (.reg false r26_2) .ret) (.seq (.reg false r26_3) (.cond (.tmp 14) (.seq (.reg false r26_4) .ret) .skip))))) (.seq (.reg false r26_5) .ret)))
theorem e26 {args : List PV} {h : Heap} {K : PV → Heap → Prop} (hl : args.length = 2) (s : pwp Try.prog [] c26 (fin Try.prog [.tmp 4] h K) (slots0 (olds args)) h) : CanP Try.prog 26 args h K :=
  can_of2 (n := 21) mixed Try.func26 rfl (by kernel_rfl) (by rw [hl]; kernel_rfl) rfl (by kernel_rfl) s
/-! ### naskh.props.code: function 40 -/
def r40_0 : List PS := [.mk (some 2) (.assign (.const (.bool false))) none]
def r40_1 : List PS := [.mk (some 3) (.move (.tmp 0)) none,
  .mk (some 4) (.binOp .geq 3 (.tmp 3) (.const (.int .i64 0)) 3) none,
  .mk (some 5) (.move (.tmp 4)) none,
  .mk (some 6) (.move (.tmp 0)) (some (5, true)),
  .mk (some 7) (.binOp .leq 3 (.tmp 6) (.const (.int .i64 1114111)) 3) (some (5, true)),
  .mk (some 8) (.pick (.tmp 5) (.tmp 7) (.const (.bool false))) none,
  .mk (some 2) (.assign (.tmp 8)) none]
def c40 : PC := (.seq (.reg false r40_0) (.seq (.reg false r40_1) .ret))
theorem e40 {args : List PV} {h : Heap} {K : PV → Heap → Prop} (hl : args.length = 1) (s : pwp Try.prog [] c40 (fin Try.prog [.tmp 2] h K) (slots0 (olds args)) h) : CanP Try.prog 40 args h K :=
  can_of2 (n := 9) mixed Try.func40 rfl (by kernel_rfl) (by rw [hl]; kernel_rfl) rfl (by kernel_rfl) s
/-! ### (*naskh.props.Props).Class: function 39 -/
def r39_0 : List PS := [.mk (some 4) (.assign (.const (.int .i64 0))) none]
def r39_1 : List PS := [.mk (some 5) (.move (.tmp 0)) none,
  .mk (some 6) (.call ⟨(.value (.func 34)), #[(.tmp 5)], #[26]⟩) none,
  .mk (some 7) (.unOp .not 4 (.tmp 6)) none,
  .mk (some 8) (.move (.tmp 7)) none,
  .mk (some 9) (.move (.tmp 1)) (some (8, false)),
  .mk (some 10) (.call ⟨(.value (.func 40)), #[(.tmp 9)], #[3]⟩) (some (8, false)),
  .mk (some 11) (.unOp .not 4 (.tmp 10)) (some (8, false)),
  .mk (some 12) (.pick (.tmp 8) (.const (.bool true)) (.tmp 11)) none]
def r39_2 : List PS := [.mk (some 4) (.assign (.const (.int .i64 13))) none]
def r39_3 : List PS := [.mk (some 13) (.move (.tmp 0)) none,
  .mk (some 14) (.nilCheck (.tmp 13)) none,
  .mk (some 15) (.fieldAddr 50 (.tmp 14) 0) none,
  .mk (some 16) (.fieldAddr 48 (.tmp 15) 0) none,
  .mk (some 17) (.load 31 (.tmp 16)) none,
  .mk (some 18) (.move (.tmp 1)) none,
  .mk (some 19) (.call ⟨(.value (.func 26)), #[(.tmp 17), (.tmp 18)], #[31, 3]⟩) none,
  .mk (some 4) (.assign (.tmp 19)) none]
def c39 : PC := (.seq (.reg false r39_0) (.seq (.seq (.reg false r39_1) (.cond (.tmp 12) (.seq (.reg false r39_2) .ret) .skip)) (.seq (.reg false r39_3) .ret)))
theorem e39 {args : List PV} {h : Heap} {K : PV → Heap → Prop} (hl : args.length = 2) (s : pwp Try.prog [] c39 (fin Try.prog [.tmp 4] h K) (slots0 (olds args)) h) : CanP Try.prog 39 args h K :=
  can_of2 (n := 20) mixed Try.func39 rfl (by kernel_rfl) (by rw [hl]; kernel_rfl) rfl (by kernel_rfl) s
/-! ### (*naskh.props.Props).is: function 33 -/
def r33_0 : List PS := [.mk (some 6) (.assign (.const (.bool false))) none]
def r33_1 : List PS := [.mk (some 10) (.move (.tmp 0)) none,
  .mk (some 11) (.call ⟨(.value (.func 34)), #[(.tmp 10)], #[26]⟩) none,
  .mk (some 12) (.unOp .not 4 (.tmp 11)) none]
def r33_2 : List PS := [.mk (some 6) (.assign (.const (.bool false))) none]
def r33_3 : List PS := [.mk (some 13) (.move (.tmp 0)) none,
  .mk (some 14) (.move (.tmp 1)) none,
  .mk (some 15) (.call ⟨(.value (.func 39)), #[(.tmp 13), (.tmp 14)], #[26, 3]⟩) none,
  .mk (some 7) (.assign (.tmp 15)) none]
def r33_4 : List PS := [.mk (some 16) (.move (.tmp 2)) none,
  .mk (some 17) (.call ⟨(.builtin .len), #[(.tmp 16)], #[22]⟩) none,
  .mk (some 18) (.move (.const (.int .i64 0))) none]
def r33_5 : List PS := [.mk (some 19) (.binOp .lss 3 (.tmp 18) (.tmp 17) 3) none]
def r33_6 : List PS := [.mk (some 20) (.indexAddr 22 (.tmp 16) (.tmp 18)) none,
  .mk (some 21) (.load 3 (.tmp 20)) none,
  .mk (some 9) (.assign (.tmp 21)) none]
def r33_7 : List PS := [.mk (some 22) (.move (.tmp 7)) none,
  .mk (some 23) (.move (.tmp 9)) none,
  .mk (some 24) (.binOp .eql 3 (.tmp 22) (.tmp 23) 3) none]
def r33_8 : List PS := [.mk (some 6) (.assign (.const (.bool true))) none]
def r33_9 : List PS := [.mk (some 25) (.binOp .add 3 (.tmp 18) (.const (.int .i64 1)) 3) none,
  .mk (some 18) (.move (.tmp 25)) none]
def r33_10 : List PS := [.mk (some 6) (.assign (.const (.bool false))) none]
def c33 : PC := (.seq (.reg false r33_0) (.seq (.seq (.reg false r33_1) (.cond (.tmp 12) (.seq (.reg false r33_2) .ret) .skip)) (.seq (.reg false r33_3) (.seq (.seq (.reg false r33_4) (.block 0 (.loop (.seq (.reg false r33_5) (.seq (.cond (.tmp 19) .skip (.exit 0)) (.seq (.block 1 (.seq (.reg false r33_6) (.seq (.reg false r33_7) (.cond (.tmp 24) (.seq (.reg false r33_8) .ret) .skip)))) (.reg false r33_9))))))) (.seq (.reg false r33_10) .ret)))))
theorem e33 {args : List PV} {h : Heap} {K : PV → Heap → Prop} (hl : args.length = 3) (s : pwp Try.prog [] c33 (fin Try.prog [.tmp 6] h K) (slots0 (olds args)) h) : CanP Try.prog 33 args h K :=
  can_of2 (n := 26) mixed Try.func33 rfl (by kernel_rfl) (by rw [hl]; kernel_rfl) rfl (by kernel_rfl) s
/-! ### (*naskh.props.Props).Mark: function 24 -/
def r24_0 : List PS := [.mk (some 4) (.assign (.const (.bool false))) none]
def r24_1 : List PS := [.mk (some 5) (.move (.tmp 0)) none,
  .mk (some 6) (.move (.tmp 1)) none,
  .mk (some 7) (.buildSlice 22 1 #[(0, (.const (.int .i64 8)))]) none,
  .mk (some 8) (.call ⟨(.value (.func 33)), #[(.tmp 5), (.tmp 6), (.tmp 7)], #[26, 3, 22]⟩) none,
  .mk (some 4) (.assign (.tmp 8)) none]
def c24 : PC := (.seq (.reg false r24_0) (.seq (.reg false r24_1) .ret))
theorem e24 {args : List PV} {h : Heap} {K : PV → Heap → Prop} (hl : args.length = 2) (s : pwp Try.prog [] c24 (fin Try.prog [.tmp 4] h K) (slots0 (olds args)) h) : CanP Try.prog 24 args h K :=
  can_of2 (n := 9) mixed Try.func24 rfl (by kernel_rfl) (by rw [hl]; kernel_rfl) rfl (by kernel_rfl) s
/-! ### (*naskh.props.Props).Control: function 25 -/
def r25_0 : List PS := [.mk (some 4) (.assign (.const (.bool false))) none]
def r25_1 : List PS := [.mk (some 5) (.move (.tmp 1)) none]
def r25_2 : List PS := [.mk (some 7) (.binOp .eql 3 (.tmp 5) (.const (.int .i64 8206)) 3) none,
  .mk (some 6) (.assign (.tmp 7)) none]
def r25_3 : List PS := [.mk (some 8) (.binOp .eql 3 (.tmp 5) (.const (.int .i64 8207)) 3) none,
  .mk (some 6) (.assign (.tmp 8)) none]
def r25_4 : List PS := [.mk (some 9) (.binOp .eql 3 (.tmp 5) (.const (.int .i64 1564)) 3) none,
  .mk (some 6) (.assign (.tmp 9)) none]
def r25_5 : List PS := [.mk (some 10) (.move (.tmp 0)) none,
  .mk (some 11) (.call ⟨(.value (.func 34)), #[(.tmp 10)], #[26]⟩) none,
  .mk (some 4) (.assign (.tmp 11)) none]
def r25_6 : List PS := [.mk (some 12) (.move (.tmp 0)) none,
  .mk (some 13) (.move (.tmp 1)) none,
  .mk (some 14) (.buildSlice 22 10 #[(0, (.const (.int .i64 9))), (1, (.const (.int .i64 14))), (2, (.const (.int .i64 15))), (3, (.const (.int .i64 16))), (4, (.const (.int .i64 17))), (5, (.const (.int .i64 18))), (6, (.const (.int .i64 19))), (7, (.const (.int .i64 20))), (8, (.const (.int .i64 21))), (9, (.const (.int .i64 22)))]) none,
  .mk (some 15) (.call ⟨(.value (.func 33)), #[(.tmp 12), (.tmp 13), (.tmp 14)], #[26, 3, 22]⟩) none,
  .mk (some 4) (.assign (.tmp 15)) none]
def c25 : PC := (.seq (.reg false r25_0) (.seq (.seq (.reg false r25_1) (.block 0 (.seq (.seq (.reg false r25_2) (.cond (.tmp 6) .skip (.seq (.reg false r25_3) (.cond (.tmp 6) .skip (.reg false r25_4))))) (.cond (.tmp 6) (.seq (.reg false r25_5) .ret) .skip)))) (.seq (.reg false r25_6) .ret)))
theorem e25 {args : List PV} {h : Heap} {K : PV → Heap → Prop} (hl : args.length = 2) (s : pwp Try.prog [] c25 (fin Try.prog [.tmp 4] h K) (slots0 (olds args)) h) : CanP Try.prog 25 args h K :=
  can_of2 (n := 16) mixed Try.func25 rfl (by kernel_rfl) (by rw [hl]; kernel_rfl) rfl (by kernel_rfl) s
/-! ### (*naskh.width.Meter).Width: function 12 -/
def r12_0 : List PS := [.mk (some 4) (.assign (.const (.int .i64 0))) none]
def r12_1 : List PS := [.mk (some 5) (.move (.tmp 0)) none,
  .mk (some 6) (.binOp .eql 24 (.tmp 5) (.const (.pointer none)) 24) none,
  .mk (some 7) (.move (.tmp 6)) none,
  .mk (some 8) (.move (.tmp 0)) (some (7, false)),
  .mk (some 9) (.nilCheck (.tmp 8)) (some (7, false)),
  .mk (some 10) (.fieldAddr 35 (.tmp 9) 0) (some (7, false)),
  .mk (some 11) (.fieldAddr 33 (.tmp 10) 0) (some (7, false)),
  .mk (some 12) (.load 31 (.tmp 11)) (some (7, false)),
  .mk (some 13) (.binOp .eql 31 (.tmp 12) (.const (.pointer none)) 31) (some (7, false)),
  .mk (some 14) (.pick (.tmp 7) (.const (.bool true)) (.tmp 13)) none]
def r12_2 : List PS := [.mk (some 4) (.assign (.const (.int .i64 1))) none]
def r12_3 : List PS := [.mk (some 15) (.move (.tmp 0)) none,
  .mk (some 16) (.nilCheck (.tmp 15)) none,
  .mk (some 17) (.fieldAddr 35 (.tmp 16) 0) none,
  .mk (some 18) (.fieldAddr 33 (.tmp 17) 1) none,
  .mk (some 19) (.load 26 (.tmp 18)) none,
  .mk (some 20) (.move (.tmp 1)) none,
  .mk (some 21) (.call ⟨(.value (.func 24)), #[(.tmp 19), (.tmp 20)], #[26, 3]⟩) none,
  .mk (some 22) (.move (.tmp 21)) none,
  .mk (some 23) (.move (.tmp 0)) (some (22, false)),
  .mk (some 24) (.nilCheck (.tmp 23)) (some (22, false)),
  .mk (some 25) (.fieldAddr 35 (.tmp 24) 0) (some (22, false)),
  .mk (some 26) (.fieldAddr 33 (.tmp 25) 1) (some (22, false)),
  .mk (some 27) (.load 26 (.tmp 26)) (some (22, false)),
  .mk (some 28) (.move (.tmp 1)) (some (22, false)),
  .mk (some 29) (.call ⟨(.value (.func 25)), #[(.tmp 27), (.tmp 28)], #[26, 3]⟩) (some (22, false)),
  .mk (some 30) (.pick (.tmp 22) (.const (.bool true)) (.tmp 29)) none]
def r12_4 : List PS := [.mk (some 4) (.assign (.const (.int .i64 0))) none]
def r12_5 : List PS := [.mk (some 31) (.move (.tmp 0)) none,
  .mk (some 32) (.nilCheck (.tmp 31)) none,
  .mk (some 33) (.fieldAddr 35 (.tmp 32) 0) none,
  .mk (some 34) (.fieldAddr 33 (.tmp 33) 0) none,
  .mk (some 35) (.load 31 (.tmp 34)) none,
  .mk (some 36) (.move (.tmp 1)) none,
  .mk (some 37) (.call ⟨(.value (.func 26)), #[(.tmp 35), (.tmp 36)], #[31, 3]⟩) none,
  .mk (some 4) (.assign (.tmp 37)) none]
def c12 : PC := (.seq (.reg false r12_0) (.seq (.seq (.reg false r12_1) (.cond (.tmp 14) (.seq (.reg false r12_2) .ret) .skip)) (.seq (.seq (.reg false r12_3) (.cond (.tmp 30) (.seq (.reg false r12_4) .ret) .skip)) (.seq (.reg false r12_5) .ret))))
theorem e12 {args : List PV} {h : Heap} {K : PV → Heap → Prop} (hl : args.length = 2) (s : pwp Try.prog [] c12 (fin Try.prog [.tmp 4] h K) (slots0 (olds args)) h) : CanP Try.prog 12 args h K :=
  can_of2 (n := 38) mixed Try.func12 rfl (by kernel_rfl) (by rw [hl]; kernel_rfl) rfl (by kernel_rfl) s
/-! ### (*naskh.width.Meter).Fit: function 10 -/
def r10_0 : List PS := [.mk (some 6) (.assign (.const (.int .i64 0))) none]
def r10_1 : List PS := [.mk (some 11) (.move (.tmp 2)) none,
  .mk (some 12) (.binOp .lss 3 (.tmp 11) (.const (.int .i64 0)) 3) none]
def r10_2 : List PS := [.mk (some 6) (.assign (.const (.int .i64 0))) none]
def r10_3 : List PS := [.mk (some 13) (.move (.tmp 2)) none,
  .mk (some 7) (.assign (.tmp 13)) none]
def r10_4 : List PS := [.mk (some 14) (.move (.tmp 1)) none,
  .mk (some 15) (.call ⟨(.builtin .len), #[(.tmp 14)], #[22]⟩) none,
  .mk (some 16) (.move (.const (.int .i64 0))) none]
def r10_5 : List PS := [.mk (some 17) (.binOp .lss 3 (.tmp 16) (.tmp 15) 3) none]
def r10_6 : List PS := [.mk (some 18) (.move (.tmp 16)) none,
  .mk (some 19) (.indexAddr 22 (.tmp 14) (.tmp 16)) none,
  .mk (some 20) (.load 3 (.tmp 19)) none,
  .mk (some 8) (.assign (.tmp 18)) none,
  .mk (some 9) (.assign (.tmp 20)) none]
def r10_7 : List PS := [.mk (some 21) (.move (.tmp 0)) none,
  .mk (some 22) (.move (.tmp 9)) none,
  .mk (some 23) (.call ⟨(.value (.func 12)), #[(.tmp 21), (.tmp 22)], #[24, 3]⟩) none,
  .mk (some 10) (.assign (.tmp 23)) none]
def r10_8 : List PS := [.mk (some 24) (.move (.tmp 10)) none,
  .mk (some 25) (.move (.tmp 7)) none,
  .mk (some 26) (.binOp .gtr 3 (.tmp 24) (.tmp 25) 3) none]
def r10_9 : List PS := [.mk (some 27) (.move (.tmp 8)) none,
  .mk (some 6) (.assign (.tmp 27)) none]
def r10_10 : List PS := [.mk (some 28) (.move (.tmp 7)) none,
  .mk (some 29) (.move (.tmp 10)) none,
  .mk (some 30) (.binOp .sub 3 (.tmp 28) (.tmp 29) 3) none,
  .mk (some 7) (.assign (.tmp 30)) none]
def r10_11 : List PS := [.mk (some 31) (.binOp .add 3 (.tmp 16) (.const (.int .i64 1)) 3) none,
  .mk (some 16) (.move (.tmp 31)) none]
def r10_12 : List PS := [.mk (some 32) (.move (.tmp 1)) none,
  .mk (some 33) (.call ⟨(.builtin .len), #[(.tmp 32)], #[22]⟩) none,
  .mk (some 6) (.assign (.tmp 33)) none]
def c10 : PC := (.seq (.reg false r10_0) (.seq (.seq (.reg false r10_1) (.cond (.tmp 12) (.seq (.reg false r10_2) .ret) .skip)) (.seq (.reg false r10_3) (.seq (.seq (.reg false r10_4) (.block 0 (.loop (.seq (.reg false r10_5) (.seq (.cond (.tmp 17) .skip (.exit 0)) (.seq (.block 1 (.seq (.reg false r10_6) (.seq (.reg false r10_7) (.seq (.seq (.reg false r10_8) (.cond (.tmp 26) (.seq (.reg false r10_9) .ret) .skip)) (.reg false r10_10))))) (.reg false r10_11))))))) (.seq (.reg false r10_12) .ret)))))
theorem e10 {args : List PV} {h : Heap} {K : PV → Heap → Prop} (hl : args.length = 3) (s : pwp Try.prog [] c10 (fin Try.prog [.tmp 6] h K) (slots0 (olds args)) h) : CanP Try.prog 10 args h K :=
  can_of2 (n := 34) mixed Try.func10 rfl (by kernel_rfl) (by rw [hl]; kernel_rfl) rfl (by kernel_rfl) s
/-! ### (*naskh.width.Meter).Text: function 11 -/
def r11_0 : List PS := [.mk (some 4) (.assign (.const (.int .i64 0))) none]
def r11_1 : List PS := [.mk (some 5) (.assign (.const (.int .i64 0))) none]
def r11_2 : List PS := [.mk (some 8) (.move (.tmp 1)) none,
  .mk (some 9) (.call ⟨(.builtin .len), #[(.tmp 8)], #[22]⟩) none,
  .mk (some 10) (.move (.const (.int .i64 0))) none]
def r11_3 : List PS := [.mk (some 11) (.binOp .lss 3 (.tmp 10) (.tmp 9) 3) none]
def r11_4 : List PS := [.mk (some 12) (.indexAddr 22 (.tmp 8) (.tmp 10)) none,
  .mk (some 13) (.load 3 (.tmp 12)) none,
  .mk (some 7) (.assign (.tmp 13)) none]
def r11_5 : List PS := [.mk (some 14) (.move (.tmp 5)) none,
  .mk (some 15) (.move (.tmp 0)) none,
  .mk (some 16) (.move (.tmp 7)) none,
  .mk (some 17) (.call ⟨(.value (.func 12)), #[(.tmp 15), (.tmp 16)], #[24, 3]⟩) none,
  .mk (some 18) (.binOp .add 3 (.tmp 14) (.tmp 17) 3) none,
  .mk (some 5) (.assign (.tmp 18)) none]
def r11_6 : List PS := [.mk (some 19) (.binOp .add 3 (.tmp 10) (.const (.int .i64 1)) 3) none,
  .mk (some 10) (.move (.tmp 19)) none]
def r11_7 : List PS := [.mk (some 20) (.move (.tmp 5)) none,
  .mk (some 4) (.assign (.tmp 20)) none]
def c11 : PC := (.seq (.reg false r11_0) (.seq (.reg false r11_1) (.seq (.seq (.reg false r11_2) (.block 0 (.loop (.seq (.reg false r11_3) (.seq (.cond (.tmp 11) .skip (.exit 0)) (.seq (.block 1 (.seq (.reg false r11_4) (.reg false r11_5))) (.reg false r11_6))))))) (.seq (.reg false r11_7) .ret))))
theorem e11 {args : List PV} {h : Heap} {K : PV → Heap → Prop} (hl : args.length = 2) (s : pwp Try.prog [] c11 (fin Try.prog [.tmp 4] h K) (slots0 (olds args)) h) : CanP Try.prog 11 args h K :=
  can_of2 (n := 21) mixed Try.func11 rfl (by kernel_rfl) (by rw [hl]; kernel_rfl) rfl (by kernel_rfl) s
/-! ### naskh.naskhlaw41.awake: function 7 -/
def r7_0 : List PS := [.mk (some 0) (.assign (.const (.bool false))) none]
def r7_1 : List PS := [.mk (some 2) (.call ⟨(.value (.func 9)), #[], #[]⟩) none,
  .mk (some 3) (.call ⟨(.value (.func 8)), #[(.tmp 2)], #[26]⟩) none,
  .mk (some 1) (.assign (.tmp 3)) none]
def r7_2 : List PS := [.mk (some 4) (.move (.tmp 1)) none,
  .mk (some 5) (.buildSlice 22 3 #[(0, (.const (.int .i64 97))), (1, (.const (.int .i64 1614))), (2, (.const (.int .i64 19968)))]) none,
  .mk (some 6) (.call ⟨(.value (.func 11)), #[(.tmp 4), (.tmp 5)], #[24, 22]⟩) none,
  .mk (some 7) (.binOp .eql 3 (.tmp 6) (.const (.int .i64 3)) 3) none,
  .mk (some 8) (.move (.tmp 7)) none,
  .mk (some 9) (.move (.tmp 1)) (some (8, true)),
  .mk (some 10) (.buildSlice 22 3 #[(0, (.const (.int .i64 97))), (1, (.const (.int .i64 1614))), (2, (.const (.int .i64 19968)))]) (some (8, true)),
  .mk (some 11) (.call ⟨(.value (.func 10)), #[(.tmp 9), (.tmp 10), (.const (.int .i64 2))], #[24, 22, 3]⟩) (some (8, true)),
  .mk (some 12) (.binOp .eql 3 (.tmp 11) (.const (.int .i64 2)) 3) (some (8, true)),
  .mk (some 13) (.pick (.tmp 8) (.tmp 12) (.const (.bool false))) none,
  .mk (some 0) (.assign (.tmp 13)) none]
def c7 : PC := (.seq (.reg false r7_0) (.seq (.reg false r7_1) (.seq (.reg false r7_2) .ret)))
theorem e7 {args : List PV} {h : Heap} {K : PV → Heap → Prop} (hl : args.length = 0) (s : pwp Try.prog [] c7 (fin Try.prog [.tmp 0] h K) (slots0 (olds args)) h) : CanP Try.prog 7 args h K :=
  can_of2 (n := 14) mixed Try.func7 rfl (by kernel_rfl) (by rw [hl]; kernel_rfl) rfl (by kernel_rfl) s
/-! ### naskh.naskhlaw41.WidthFits: function 3 -/
def r3_0 : List PS := [.mk (some 4) (.assign (.const (.bool false))) none]
def r3_1 : List PS := [.mk (some 7) (.move (.tmp 0)) none,
  .mk (some 8) (.call ⟨(.builtin .len), #[(.tmp 7)], #[22]⟩) none,
  .mk (some 9) (.binOp .gtr 3 (.tmp 8) (.const (.int .i64 300)) 3) none,
  .mk (some 10) (.move (.tmp 9)) none,
  .mk (some 11) (.move (.tmp 1)) (some (10, false)),
  .mk (some 12) (.binOp .lss 3 (.tmp 11) (.const (.int .i64 0)) 3) (some (10, false)),
  .mk (some 13) (.pick (.tmp 10) (.const (.bool true)) (.tmp 12)) none]
def r3_2 : List PS := [.mk (some 14) (.call ⟨(.value (.func 7)), #[], #[]⟩) none,
  .mk (some 4) (.assign (.tmp 14)) none]
def r3_3 : List PS := [.mk (some 15) (.call ⟨(.value (.func 9)), #[], #[]⟩) none,
  .mk (some 16) (.call ⟨(.value (.func 8)), #[(.tmp 15)], #[26]⟩) none,
  .mk (some 5) (.assign (.tmp 16)) none]
def r3_4 : List PS := [.mk (some 17) (.move (.tmp 5)) none,
  .mk (some 18) (.move (.tmp 0)) none,
  .mk (some 19) (.move (.tmp 1)) none,
  .mk (some 20) (.call ⟨(.value (.func 10)), #[(.tmp 17), (.tmp 18), (.tmp 19)], #[24, 22, 3]⟩) none,
  .mk (some 6) (.assign (.tmp 20)) none]
def r3_5 : List PS := [.mk (some 21) (.move (.tmp 6)) none,
  .mk (some 22) (.binOp .lss 3 (.tmp 21) (.const (.int .i64 0)) 3) none,
  .mk (some 23) (.move (.tmp 22)) none,
  .mk (some 24) (.move (.tmp 6)) (some (23, false)),
  .mk (some 25) (.move (.tmp 0)) (some (23, false)),
  .mk (some 26) (.call ⟨(.builtin .len), #[(.tmp 25)], #[22]⟩) (some (23, false)),
  .mk (some 27) (.binOp .gtr 3 (.tmp 24) (.tmp 26) 3) (some (23, false)),
  .mk (some 28) (.pick (.tmp 23) (.const (.bool true)) (.tmp 27)) none,
  .mk (some 29) (.move (.tmp 28)) none,
  .mk (some 30) (.move (.tmp 5)) (some (29, false)),
  .mk (some 31) (.move (.tmp 0)) (some (29, false)),
  .mk (some 32) (.move (.tmp 6)) (some (29, false)),
  .mk (some 33) (.slice 22 (.tmp 31) none (some (.tmp 32)) none) (some (29, false)),
  .mk (some 34) (.call ⟨(.value (.func 11)), #[(.tmp 30), (.tmp 33)], #[24, 22]⟩) (some (29, false)),
  .mk (some 35) (.move (.tmp 1)) (some (29, false)),
  .mk (some 36) (.binOp .gtr 3 (.tmp 34) (.tmp 35) 3) (some (29, false)),
  .mk (some 37) (.pick (.tmp 29) (.const (.bool true)) (.tmp 36)) none,
  .mk (some 38) (.move (.tmp 37)) none,
  .mk (some 39) (.move (.tmp 6)) (some (38, false)),
  .mk (some 40) (.move (.tmp 0)) (some (38, false)),
  .mk (some 41) (.call ⟨(.builtin .len), #[(.tmp 40)], #[22]⟩) (some (38, false)),
  .mk (some 42) (.binOp .lss 3 (.tmp 39) (.tmp 41) 3) (some (38, false)),
  .mk (some 43) (.move (.tmp 42)) (some (38, false)),
  .mk (some 44) (.move (.tmp 5)) (some (43, true)),
  .mk (some 45) (.move (.tmp 0)) (some (43, true)),
  .mk (some 46) (.move (.tmp 6)) (some (43, true)),
  .mk (some 47) (.binOp .add 3 (.tmp 46) (.const (.int .i64 1)) 3) (some (43, true)),
  .mk (some 48) (.slice 22 (.tmp 45) none (some (.tmp 47)) none) (some (43, true)),
  .mk (some 49) (.call ⟨(.value (.func 11)), #[(.tmp 44), (.tmp 48)], #[24, 22]⟩) (some (43, true)),
  .mk (some 50) (.move (.tmp 1)) (some (43, true)),
  .mk (some 51) (.binOp .leq 3 (.tmp 49) (.tmp 50) 3) (some (43, true)),
  .mk (some 52) (.pick (.tmp 43) (.tmp 51) (.const (.bool false))) (some (38, false)),
  .mk (some 53) (.pick (.tmp 38) (.const (.bool true)) (.tmp 52)) none]
def r3_6 : List PS := [.mk (some 4) (.assign (.const (.bool false))) none]
def r3_7 : List PS := [.mk (some 54) (.move (.tmp 5)) none,
  .mk (some 55) (.move (.tmp 0)) none,
  .mk (some 56) (.move (.tmp 5)) none,
  .mk (some 57) (.move (.tmp 0)) none,
  .mk (some 58) (.call ⟨(.value (.func 11)), #[(.tmp 56), (.tmp 57)], #[24, 22]⟩) none,
  .mk (some 59) (.call ⟨(.value (.func 10)), #[(.tmp 54), (.tmp 55), (.tmp 58)], #[24, 22, 3]⟩) none,
  .mk (some 60) (.move (.tmp 0)) none,
  .mk (some 61) (.call ⟨(.builtin .len), #[(.tmp 60)], #[22]⟩) none,
  .mk (some 62) (.binOp .eql 3 (.tmp 59) (.tmp 61) 3) none,
  .mk (some 63) (.move (.tmp 62)) none,
  .mk (some 64) (.call ⟨(.value (.func 7)), #[], #[]⟩) (some (63, true)),
  .mk (some 65) (.pick (.tmp 63) (.tmp 64) (.const (.bool false))) none,
  .mk (some 4) (.assign (.tmp 65)) none]
def c3 : PC := (.seq (.reg false r3_0) (.seq (.seq (.reg false r3_1) (.cond (.tmp 13) (.seq (.reg false r3_2) .ret) .skip)) (.seq (.reg false r3_3) (.seq (.reg false r3_4) (.seq (.seq (.reg false r3_5) (.cond (.tmp 53) (.seq (.reg false r3_6) .ret) .skip)) (.seq (.reg false r3_7) .ret))))))
theorem e3 {args : List PV} {h : Heap} {K : PV → Heap → Prop} (hl : args.length = 2) (s : pwp Try.prog [] c3 (fin Try.prog [.tmp 4] h K) (slots0 (olds args)) h) : CanP Try.prog 3 args h K :=
  can_of2 (n := 66) mixed Try.func3 rfl (by kernel_rfl) (by rw [hl]; kernel_rfl) rfl (by kernel_rfl) s
/-! ### naskh.naskhlaw41.WidthNobody: function 4 -/
def r4_0 : List PS := [.mk (some 4) (.assign (.const (.bool false))) none]
def r4_1 : List PS := [.mk (some 7) (.move (.tmp 0)) none,
  .mk (some 8) (.call ⟨(.builtin .len), #[(.tmp 7)], #[22]⟩) none,
  .mk (some 9) (.binOp .gtr 3 (.tmp 8) (.const (.int .i64 200)) 3) none]
def r4_2 : List PS := [.mk (some 10) (.call ⟨(.value (.func 7)), #[], #[]⟩) none,
  .mk (some 4) (.assign (.tmp 10)) none]
def r4_3 : List PS := [.mk (some 5) (.assign (.const (.pointer none))) none]
def r4_4 : List PS := [.mk (some 6) (.alloc 35) none]
def r4_5 : List PS := [.mk (some 11) (.move (.tmp 5)) none,
  .mk (some 12) (.move (.tmp 1)) none,
  .mk (some 13) (.call ⟨(.value (.func 12)), #[(.tmp 11), (.tmp 12)], #[24, 3]⟩) none,
  .mk (some 14) (.binOp .eql 3 (.tmp 13) (.const (.int .i64 1)) 3) none,
  .mk (some 15) (.move (.tmp 14)) none,
  .mk (some 16) (.move (.tmp 1)) (some (15, true)),
  .mk (some 17) (.call ⟨(.value (.func 12)), #[(.tmp 6), (.tmp 16)], #[35, 3]⟩) (some (15, true)),
  .mk (some 18) (.binOp .eql 3 (.tmp 17) (.const (.int .i64 1)) 3) (some (15, true)),
  .mk (some 19) (.pick (.tmp 15) (.tmp 18) (.const (.bool false))) none,
  .mk (some 20) (.move (.tmp 19)) none,
  .mk (some 21) (.move (.tmp 5)) (some (20, true)),
  .mk (some 22) (.move (.tmp 0)) (some (20, true)),
  .mk (some 23) (.call ⟨(.value (.func 11)), #[(.tmp 21), (.tmp 22)], #[24, 22]⟩) (some (20, true)),
  .mk (some 24) (.move (.tmp 0)) (some (20, true)),
  .mk (some 25) (.call ⟨(.builtin .len), #[(.tmp 24)], #[22]⟩) (some (20, true)),
  .mk (some 26) (.binOp .eql 3 (.tmp 23) (.tmp 25) 3) (some (20, true)),
  .mk (some 27) (.pick (.tmp 20) (.tmp 26) (.const (.bool false))) none,
  .mk (some 28) (.move (.tmp 27)) none,
  .mk (some 29) (.move (.tmp 0)) (some (28, true)),
  .mk (some 30) (.move (.tmp 0)) (some (28, true)),
  .mk (some 31) (.call ⟨(.builtin .len), #[(.tmp 30)], #[22]⟩) (some (28, true)),
  .mk (some 32) (.call ⟨(.value (.func 10)), #[(.tmp 6), (.tmp 29), (.tmp 31)], #[35, 22, 3]⟩) (some (28, true)),
  .mk (some 33) (.move (.tmp 0)) (some (28, true)),
  .mk (some 34) (.call ⟨(.builtin .len), #[(.tmp 33)], #[22]⟩) (some (28, true)),
  .mk (some 35) (.binOp .eql 3 (.tmp 32) (.tmp 34) 3) (some (28, true)),
  .mk (some 36) (.pick (.tmp 28) (.tmp 35) (.const (.bool false))) none,
  .mk (some 37) (.move (.tmp 36)) none,
  .mk (some 38) (.call ⟨(.value (.func 7)), #[], #[]⟩) (some (37, true)),
  .mk (some 39) (.pick (.tmp 37) (.tmp 38) (.const (.bool false))) none,
  .mk (some 4) (.assign (.tmp 39)) none]
def c4 : PC := (.seq (.reg false r4_0) (.seq (.seq (.reg false r4_1) (.cond (.tmp 9) (.seq (.reg false r4_2) .ret) .skip)) (.seq (.reg false r4_3) (.seq (.reg false r4_4) (.seq (.reg false r4_5) .ret)))))
theorem e4 {args : List PV} {h : Heap} {K : PV → Heap → Prop} (hl : args.length = 2) (s : pwp Try.prog [] c4 (fin Try.prog [.tmp 4] h K) (slots0 (olds args)) h) : CanP Try.prog 4 args h K :=
  can_of2 (n := 40) mixed Try.func4 rfl (by kernel_rfl) (by rw [hl]; kernel_rfl) rfl (by kernel_rfl) s
/-! ### slices.Clone[[]int,int]: function 13 -/
def r13_0 : List PS := [.mk (some 2) (.assign (.const (.slice none 0 0))) none]
def r13_1 : List PS := [.mk (some 3) (.move (.tmp 0)) none,
  .mk (some 4) (.binOp .eql 22 (.tmp 3) (.const (.slice none 0 0)) 22) none]
def r13_2 : List PS := [.mk (some 2) (.assign (.const (.slice none 0 0))) none]
def r13_3 : List PS := [.mk (some 5) (.buildSlice 22 0 #[]) none,
  .mk (some 6) (.move (.tmp 0)) none,
  .mk (some 7) (.call ⟨(.builtin .append), #[(.tmp 5), (.tmp 6)], #[22, 22]⟩) none,
  .mk (some 2) (.assign (.tmp 7)) none]
def c13 : PC := (.seq (.reg false r13_0) (.seq (.seq (.reg false r13_1) (.cond (.tmp 4) (.seq (.reg false r13_2) .ret) .skip)) (.seq (.reg false r13_3) .ret)))
theorem e13 {args : List PV} {h : Heap} {K : PV → Heap → Prop} (hl : args.length = 1) (s : pwp Try.prog [5] c13 (fin Try.prog [.tmp 2] h K) (slots0 (olds args)) h) : CanP Try.prog 13 args h K :=
  can_of2 (n := 8) mixed Try.func13 rfl (by kernel_rfl) (by rw [hl]; kernel_rfl) rfl (by kernel_rfl) s
/-! ### naskh.naskhlaw41.WidthAdds: function 5 -/
def r5_0 : List PS := [.mk (some 4) (.assign (.const (.bool false))) none]
def r5_1 : List PS := [.mk (some 6) (.move (.tmp 0)) none,
  .mk (some 7) (.call ⟨(.builtin .len), #[(.tmp 6)], #[22]⟩) none,
  .mk (some 8) (.binOp .gtr 3 (.tmp 7) (.const (.int .i64 200)) 3) none,
  .mk (some 9) (.move (.tmp 8)) none,
  .mk (some 10) (.move (.tmp 1)) (some (9, false)),
  .mk (some 11) (.call ⟨(.builtin .len), #[(.tmp 10)], #[22]⟩) (some (9, false)),
  .mk (some 12) (.binOp .gtr 3 (.tmp 11) (.const (.int .i64 200)) 3) (some (9, false)),
  .mk (some 13) (.pick (.tmp 9) (.const (.bool true)) (.tmp 12)) none]
def r5_2 : List PS := [.mk (some 14) (.call ⟨(.value (.func 7)), #[], #[]⟩) none,
  .mk (some 4) (.assign (.tmp 14)) none]
def r5_3 : List PS := [.mk (some 15) (.call ⟨(.value (.func 9)), #[], #[]⟩) none,
  .mk (some 16) (.call ⟨(.value (.func 8)), #[(.tmp 15)], #[26]⟩) none,
  .mk (some 5) (.assign (.tmp 16)) none]
def r5_4 : List PS := [.mk (some 17) (.move (.tmp 5)) none,
  .mk (some 18) (.move (.tmp 0)) none,
  .mk (some 19) (.call ⟨(.value (.func 13)), #[(.tmp 18)], #[22]⟩) none,
  .mk (some 20) (.move (.tmp 1)) none,
  .mk (some 21) (.call ⟨(.builtin .append), #[(.tmp 19), (.tmp 20)], #[22, 22]⟩) none,
  .frz 21,
  .mk (some 22) (.call ⟨(.value (.func 11)), #[(.tmp 17), (.tmp 21)], #[24, 22]⟩) none,
  .mk (some 23) (.move (.tmp 5)) none,
  .mk (some 24) (.move (.tmp 0)) none,
  .mk (some 25) (.call ⟨(.value (.func 11)), #[(.tmp 23), (.tmp 24)], #[24, 22]⟩) none,
  .mk (some 26) (.move (.tmp 5)) none,
  .mk (some 27) (.move (.tmp 1)) none,
  .mk (some 28) (.call ⟨(.value (.func 11)), #[(.tmp 26), (.tmp 27)], #[24, 22]⟩) none,
  .mk (some 29) (.binOp .add 3 (.tmp 25) (.tmp 28) 3) none,
  .mk (some 30) (.binOp .eql 3 (.tmp 22) (.tmp 29) 3) none,
  .mk (some 31) (.move (.tmp 30)) none,
  .mk (some 32) (.call ⟨(.value (.func 7)), #[], #[]⟩) (some (31, true)),
  .mk (some 33) (.pick (.tmp 31) (.tmp 32) (.const (.bool false))) none,
  .mk (some 4) (.assign (.tmp 33)) none]
def c5 : PC := (.seq (.reg false r5_0) (.seq (.seq (.reg false r5_1) (.cond (.tmp 13) (.seq (.reg false r5_2) .ret) .skip)) (.seq (.reg false r5_3) (.seq (.reg false r5_4) .ret))))
theorem e5 {args : List PV} {h : Heap} {K : PV → Heap → Prop} (hl : args.length = 2) (s : pwp Try.prog [] c5 (fin Try.prog [.tmp 4] h K) (slots0 (olds args)) h) : CanP Try.prog 5 args h K :=
  can_of2 (n := 34) mixed Try.func5 rfl (by kernel_rfl) (by rw [hl]; kernel_rfl) rfl (by kernel_rfl) s
/-! ### naskh.naskhref06.Get: function 29 -/
def r29_0 : List PS := [.mk (some 6) (.assign (.const (.int .i64 0))) none]
def r29_1 : List PS := [.mk (some 7) (.assign (.const (.int .i64 0))) none]
def r29_2 : List PS := [.mk (some 8) (.move (.tmp 7)) none,
  .mk (some 9) (.move (.tmp 0)) none,
  .mk (some 10) (.call ⟨(.builtin .len), #[(.tmp 9)], #[45]⟩) none,
  .mk (some 11) (.binOp .lss 3 (.tmp 8) (.tmp 10) 3) none]
def r29_3 : List PS := [.mk (some 14) (.move (.tmp 2)) none,
  .mk (some 15) (.move (.tmp 0)) none,
  .mk (some 16) (.move (.tmp 7)) none,
  .mk (some 17) (.indexAddr 45 (.tmp 15) (.tmp 16)) none,
  .mk (some 18) (.fieldAddr 65 (.tmp 17) 0) none,
  .mk (some 19) (.load 3 (.tmp 18)) none,
  .mk (some 20) (.binOp .geq 3 (.tmp 14) (.tmp 19) 3) none,
  .mk (some 21) (.move (.tmp 20)) none,
  .mk (some 22) (.move (.tmp 2)) (some (21, true)),
  .mk (some 23) (.move (.tmp 0)) (some (21, true)),
  .mk (some 24) (.move (.tmp 7)) (some (21, true)),
  .mk (some 25) (.indexAddr 45 (.tmp 23) (.tmp 24)) (some (21, true)),
  .mk (some 26) (.fieldAddr 65 (.tmp 25) 1) (some (21, true)),
  .mk (some 27) (.load 3 (.tmp 26)) (some (21, true)),
  .mk (some 28) (.binOp .leq 3 (.tmp 22) (.tmp 27) 3) (some (21, true)),
  .mk (some 29) (.pick (.tmp 21) (.tmp 28) (.const (.bool false))) none]
def r29_4 : List PS := [.mk (some 30) (.move (.tmp 0)) none,
  .mk (some 31) (.move (.tmp 7)) none,
  .mk (some 32) (.indexAddr 45 (.tmp 30) (.tmp 31)) none,
  .mk (some 33) (.fieldAddr 65 (.tmp 32) 2) none,
  .mk (some 34) (.load 3 (.tmp 33)) none,
  .mk (some 6) (.assign (.tmp 34)) none]
def r29_5 : List PS := [.mk (some 12) (.move (.tmp 7)) none,
  .mk (some 13) (.binOp .add 3 (.tmp 12) (.const (.int .i64 1)) 3) none,
  .mk (some 7) (.assign (.tmp 13)) none]
def r29_6 : List PS := [.mk (some 35) (.move (.tmp 1)) none,
  .mk (some 6) (.assign (.tmp 35)) none]
def c29 : PC := (.seq (.reg false r29_0) (.seq (.seq (.reg false r29_1) (.block 0 (.loop (.seq (.seq (.reg false r29_2) (.cond (.tmp 11) .skip (.exit 0))) (.seq (.block 1 (.seq (.reg false r29_3) (.cond (.tmp 29) (.seq (.reg false r29_4) .ret) .skip))) (.reg false r29_5)))))) (.seq (.reg false r29_6) .ret)))
theorem e29 {args : List PV} {h : Heap} {K : PV → Heap → Prop} (hl : args.length = 3) (s : pwp Try.prog [] c29 (fin Try.prog [.tmp 6] h K) (slots0 (olds args)) h) : CanP Try.prog 29 args h K :=
  can_of2 (n := 36) mixed Try.func29 rfl (by kernel_rfl) (by rw [hl]; kernel_rfl) rfl (by kernel_rfl) s
/-! ### naskh.naskhref07.Class: function 37 -/
def r37_0 : List PS := [.mk (some 2) (.assign (.const (.int .i64 0))) none]
def r37_1 : List PS := [.mk (some 3) (.move (.tmp 0)) none,
  .mk (some 4) (.binOp .lss 3 (.tmp 3) (.const (.int .i64 0)) 3) none,
  .mk (some 5) (.move (.tmp 4)) none,
  .mk (some 6) (.move (.tmp 0)) (some (5, false)),
  .mk (some 7) (.binOp .gtr 3 (.tmp 6) (.const (.int .i64 1114111)) 3) (some (5, false)),
  .mk (some 8) (.pick (.tmp 5) (.const (.bool true)) (.tmp 7)) none]
def r37_2 : List PS := [.mk (some 2) (.assign (.const (.int .i64 13))) none]
def r37_3 : List PS := [.mk (some 9) (.call ⟨(.value (.func 22)), #[], #[]⟩) none,
  .mk (some 10) (.move (.tmp 0)) none,
  .mk (some 11) (.call ⟨(.value (.func 29)), #[(.tmp 9), (.const (.int .i64 0)), (.tmp 10)], #[45, 3, 3]⟩) none,
  .mk (some 2) (.assign (.tmp 11)) none]
def c37 : PC := (.seq (.reg false r37_0) (.seq (.seq (.reg false r37_1) (.cond (.tmp 8) (.seq (.reg false r37_2) .ret) .skip)) (.seq (.reg false r37_3) .ret)))
theorem e37 {args : List PV} {h : Heap} {K : PV → Heap → Prop} (hl : args.length = 1) (s : pwp Try.prog [] c37 (fin Try.prog [.tmp 2] h K) (slots0 (olds args)) h) : CanP Try.prog 37 args h K :=
  can_of2 (n := 12) mixed Try.func37 rfl (by kernel_rfl) (by rw [hl]; kernel_rfl) rfl (by kernel_rfl) s
/-! ### naskh.naskhref07.Mark: function 27 -/
def r27_0 : List PS := [.mk (some 2) (.assign (.const (.bool false))) none]
def r27_1 : List PS := [.mk (some 3) (.move (.tmp 0)) none,
  .mk (some 4) (.call ⟨(.value (.func 37)), #[(.tmp 3)], #[3]⟩) none,
  .mk (some 5) (.binOp .eql 3 (.tmp 4) (.const (.int .i64 8)) 3) none,
  .mk (some 2) (.assign (.tmp 5)) none]
def c27 : PC := (.seq (.reg false r27_0) (.seq (.reg false r27_1) .ret))
theorem e27 {args : List PV} {h : Heap} {K : PV → Heap → Prop} (hl : args.length = 1) (s : pwp Try.prog [] c27 (fin Try.prog [.tmp 2] h K) (slots0 (olds args)) h) : CanP Try.prog 27 args h K :=
  can_of2 (n := 6) mixed Try.func27 rfl (by kernel_rfl) (by rw [hl]; kernel_rfl) rfl (by kernel_rfl) s
/-! ### naskh.naskhref07.Control: function 28 -/
def r28_0 : List PS := [.mk (some 2) (.assign (.const (.bool false))) none]
def r28_1 : List PS := [.mk (some 4) (.move (.tmp 0)) none,
  .mk (some 5) (.call ⟨(.value (.func 37)), #[(.tmp 4)], #[3]⟩) none,
  .mk (some 3) (.assign (.tmp 5)) none]
def r28_2 : List PS := [.mk (some 6) (.move (.tmp 0)) none,
  .mk (some 7) (.binOp .eql 3 (.tmp 6) (.const (.int .i64 8206)) 3) none,
  .mk (some 8) (.move (.tmp 7)) none,
  .mk (some 9) (.move (.tmp 0)) (some (8, false)),
  .mk (some 10) (.binOp .eql 3 (.tmp 9) (.const (.int .i64 8207)) 3) (some (8, false)),
  .mk (some 11) (.pick (.tmp 8) (.const (.bool true)) (.tmp 10)) none,
  .mk (some 12) (.move (.tmp 11)) none,
  .mk (some 13) (.move (.tmp 0)) (some (12, false)),
  .mk (some 14) (.binOp .eql 3 (.tmp 13) (.const (.int .i64 1564)) 3) (some (12, false)),
  .mk (some 15) (.pick (.tmp 12) (.const (.bool true)) (.tmp 14)) none,
  .mk (some 16) (.move (.tmp 15)) none,
  .mk (some 17) (.move (.tmp 3)) (some (16, false)),
  .mk (some 18) (.binOp .eql 3 (.tmp 17) (.const (.int .i64 9)) 3) (some (16, false)),
  .mk (some 19) (.pick (.tmp 16) (.const (.bool true)) (.tmp 18)) none,
  .mk (some 20) (.move (.tmp 19)) none,
  .mk (some 21) (.move (.tmp 3)) (some (20, false)),
  .mk (some 22) (.binOp .geq 3 (.tmp 21) (.const (.int .i64 14)) 3) (some (20, false)),
  .mk (some 23) (.move (.tmp 22)) (some (20, false)),
  .mk (some 24) (.move (.tmp 3)) (some (23, true)),
  .mk (some 25) (.binOp .leq 3 (.tmp 24) (.const (.int .i64 22)) 3) (some (23, true)),
  .mk (some 26) (.pick (.tmp 23) (.tmp 25) (.const (.bool false))) (some (20, false)),
  .mk (some 27) (.pick (.tmp 20) (.const (.bool true)) (.tmp 26)) none,
  .mk (some 2) (.assign (.tmp 27)) none]
def c28 : PC := (.seq (.reg false r28_0) (.seq (.reg false r28_1) (.seq (.reg false r28_2) .ret)))
theorem e28 {args : List PV} {h : Heap} {K : PV → Heap → Prop} (hl : args.length = 1) (s : pwp Try.prog [] c28 (fin Try.prog [.tmp 2] h K) (slots0 (olds args)) h) : CanP Try.prog 28 args h K :=
  can_of2 (n := 28) mixed Try.func28 rfl (by kernel_rfl) (by rw [hl]; kernel_rfl) rfl (by kernel_rfl) s
/-! ### naskh.naskhref41.Width: function 14 -/
def r14_0 : List PS := [.mk (some 2) (.assign (.const (.int .i64 0))) none]
def r14_1 : List PS := [.mk (some 3) (.move (.tmp 0)) none,
  .mk (some 4) (.call ⟨(.value (.func 27)), #[(.tmp 3)], #[3]⟩) none,
  .mk (some 5) (.move (.tmp 4)) none,
  .mk (some 6) (.move (.tmp 0)) (some (5, false)),
  .mk (some 7) (.call ⟨(.value (.func 28)), #[(.tmp 6)], #[3]⟩) (some (5, false)),
  .mk (some 8) (.pick (.tmp 5) (.const (.bool true)) (.tmp 7)) none]
def r14_2 : List PS := [.mk (some 2) (.assign (.const (.int .i64 0))) none]
def r14_3 : List PS := [.mk (some 9) (.call ⟨(.value (.func 21)), #[], #[]⟩) none,
  .mk (some 10) (.move (.tmp 0)) none,
  .mk (some 11) (.call ⟨(.value (.func 29)), #[(.tmp 9), (.const (.int .i64 1)), (.tmp 10)], #[45, 3, 3]⟩) none,
  .mk (some 2) (.assign (.tmp 11)) none]
def c14 : PC := (.seq (.reg false r14_0) (.seq (.seq (.reg false r14_1) (.cond (.tmp 8) (.seq (.reg false r14_2) .ret) .skip)) (.seq (.reg false r14_3) .ret)))
theorem e14 {args : List PV} {h : Heap} {K : PV → Heap → Prop} (hl : args.length = 1) (s : pwp Try.prog [] c14 (fin Try.prog [.tmp 2] h K) (slots0 (olds args)) h) : CanP Try.prog 14 args h K :=
  can_of2 (n := 12) mixed Try.func14 rfl (by kernel_rfl) (by rw [hl]; kernel_rfl) rfl (by kernel_rfl) s
/-! ### naskh.naskhref41.Text: function 15 -/
def r15_0 : List PS := [.mk (some 2) (.assign (.const (.int .i64 0))) none]
def r15_1 : List PS := [.mk (some 3) (.assign (.const (.int .i64 0))) none]
def r15_2 : List PS := [.mk (some 4) (.assign (.const (.int .i64 0))) none]
def r15_3 : List PS := [.mk (some 5) (.move (.tmp 4)) none,
  .mk (some 6) (.move (.tmp 0)) none,
  .mk (some 7) (.call ⟨(.builtin .len), #[(.tmp 6)], #[22]⟩) none,
  .mk (some 8) (.binOp .lss 3 (.tmp 5) (.tmp 7) 3) none]
def r15_4 : List PS := [.mk (some 11) (.move (.tmp 3)) none,
  .mk (some 12) (.move (.tmp 0)) none,
  .mk (some 13) (.move (.tmp 4)) none,
  .mk (some 14) (.indexAddr 22 (.tmp 12) (.tmp 13)) none,
  .mk (some 15) (.load 3 (.tmp 14)) none,
  .mk (some 16) (.call ⟨(.value (.func 14)), #[(.tmp 15)], #[3]⟩) none,
  .mk (some 17) (.binOp .add 3 (.tmp 11) (.tmp 16) 3) none,
  .mk (some 3) (.assign (.tmp 17)) none]
def r15_5 : List PS := [.mk (some 9) (.move (.tmp 4)) none,
  .mk (some 10) (.binOp .add 3 (.tmp 9) (.const (.int .i64 1)) 3) none,
  .mk (some 4) (.assign (.tmp 10)) none]
def r15_6 : List PS := [.mk (some 18) (.move (.tmp 3)) none,
  .mk (some 2) (.assign (.tmp 18)) none]
def c15 : PC := (.seq (.reg false r15_0) (.seq (.reg false r15_1) (.seq (.seq (.reg false r15_2) (.block 0 (.loop (.seq (.seq (.reg false r15_3) (.cond (.tmp 8) .skip (.exit 0))) (.seq (.block 1 (.reg false r15_4)) (.reg false r15_5)))))) (.seq (.reg false r15_6) .ret))))
theorem e15 {args : List PV} {h : Heap} {K : PV → Heap → Prop} (hl : args.length = 1) (s : pwp Try.prog [] c15 (fin Try.prog [.tmp 2] h K) (slots0 (olds args)) h) : CanP Try.prog 15 args h K :=
  can_of2 (n := 19) mixed Try.func15 rfl (by kernel_rfl) (by rw [hl]; kernel_rfl) rfl (by kernel_rfl) s
/-! ### naskh.naskhref41.Fit: function 16 -/
def r16_0 : List PS := [.mk (some 4) (.assign (.const (.int .i64 0))) none]
def r16_1 : List PS := [.mk (some 5) (.assign (.const (.int .i64 0))) none]
def r16_2 : List PS := [.mk (some 7) (.move (.tmp 1)) none,
  .mk (some 8) (.binOp .lss 3 (.tmp 7) (.const (.int .i64 0)) 3) none]
def r16_3 : List PS := [.mk (some 4) (.assign (.const (.int .i64 0))) none]
def r16_4 : List PS := [.mk (some 6) (.assign (.const (.int .i64 0))) none]
def r16_5 : List PS := [.mk (some 9) (.move (.tmp 6)) none,
  .mk (some 10) (.move (.tmp 0)) none,
  .mk (some 11) (.call ⟨(.builtin .len), #[(.tmp 10)], #[22]⟩) none,
  .mk (some 12) (.binOp .lss 3 (.tmp 9) (.tmp 11) 3) none]
def r16_6 : List PS := [.mk (some 15) (.move (.tmp 5)) none,
  .mk (some 16) (.move (.tmp 0)) none,
  .mk (some 17) (.move (.tmp 6)) none,
  .mk (some 18) (.indexAddr 22 (.tmp 16) (.tmp 17)) none,
  .mk (some 19) (.load 3 (.tmp 18)) none,
  .mk (some 20) (.call ⟨(.value (.func 14)), #[(.tmp 19)], #[3]⟩) none,
  .mk (some 21) (.binOp .add 3 (.tmp 15) (.tmp 20) 3) none,
  .mk (some 5) (.assign (.tmp 21)) none]
def r16_7 : List PS := [.mk (some 22) (.move (.tmp 5)) none,
  .mk (some 23) (.move (.tmp 1)) none,
  .mk (some 24) (.binOp .gtr 3 (.tmp 22) (.tmp 23) 3) none]
def r16_8 : List PS := [.mk (some 25) (.move (.tmp 6)) none,
  .mk (some 4) (.assign (.tmp 25)) none]
def r16_9 : List PS := [.mk (some 13) (.move (.tmp 6)) none,
  .mk (some 14) (.binOp .add 3 (.tmp 13) (.const (.int .i64 1)) 3) none,
  .mk (some 6) (.assign (.tmp 14)) none]
def r16_10 : List PS := [.mk (some 26) (.move (.tmp 0)) none,
  .mk (some 27) (.call ⟨(.builtin .len), #[(.tmp 26)], #[22]⟩) none,
  .mk (some 4) (.assign (.tmp 27)) none]
def c16 : PC := (.seq (.reg false r16_0) (.seq (.reg false r16_1) (.seq (.seq (.reg false r16_2) (.cond (.tmp 8) (.seq (.reg false r16_3) .ret) .skip)) (.seq (.seq (.reg false r16_4) (.block 0 (.loop (.seq (.seq (.reg false r16_5) (.cond (.tmp 12) .skip (.exit 0))) (.seq (.block 1 (.seq (.reg false r16_6) (.seq (.reg false r16_7) (.cond (.tmp 24) (.seq (.reg false r16_8) .ret) .skip)))) (.reg false r16_9)))))) (.seq (.reg false r16_10) .ret)))))
theorem e16 {args : List PV} {h : Heap} {K : PV → Heap → Prop} (hl : args.length = 2) (s : pwp Try.prog [] c16 (fin Try.prog [.tmp 4] h K) (slots0 (olds args)) h) : CanP Try.prog 16 args h K :=
  can_of2 (n := 28) mixed Try.func16 rfl (by kernel_rfl) (by rw [hl]; kernel_rfl) rfl (by kernel_rfl) s
/-! ### slices.Equal[[]int,int]: function 17 -/
def r17_0 : List PS := [.mk (some 4) (.assign (.const (.bool false))) none]
def r17_1 : List PS := [.mk (some 6) (.move (.tmp 0)) none,
  .mk (some 7) (.call ⟨(.builtin .len), #[(.tmp 6)], #[22]⟩) none,
  .mk (some 8) (.move (.tmp 1)) none,
  .mk (some 9) (.call ⟨(.builtin .len), #[(.tmp 8)], #[22]⟩) none,
  .mk (some 10) (.binOp .neq 3 (.tmp 7) (.tmp 9) 3) none]
def r17_2 : List PS := [.mk (some 4) (.assign (.const (.bool false))) none]
def r17_3 : List PS := [.mk (some 11) (.move (.tmp 0)) none,
  .mk (some 12) (.call ⟨(.builtin .len), #[(.tmp 11)], #[22]⟩) none,
  .mk (some 13) (.move (.const (.int .i64 0))) none]
def r17_4 : List PS := [.mk (some 14) (.binOp .lss 3 (.tmp 13) (.tmp 12) 3) none]
def r17_5 : List PS := [.mk (some 15) (.move (.tmp 13)) none,
  .mk (some 5) (.assign (.tmp 15)) none]
def r17_6 : List PS := [.mk (some 16) (.move (.tmp 0)) none,
  .mk (some 17) (.move (.tmp 5)) none,
  .mk (some 18) (.indexAddr 22 (.tmp 16) (.tmp 17)) none,
  .mk (some 19) (.load 3 (.tmp 18)) none,
  .mk (some 20) (.move (.tmp 1)) none,
  .mk (some 21) (.move (.tmp 5)) none,
  .mk (some 22) (.indexAddr 22 (.tmp 20) (.tmp 21)) none,
  .mk (some 23) (.load 3 (.tmp 22)) none,
  .mk (some 24) (.binOp .neq 3 (.tmp 19) (.tmp 23) 3) none]
def r17_7 : List PS := [.mk (some 4) (.assign (.const (.bool false))) none]
def r17_8 : List PS := [.mk (some 25) (.binOp .add 3 (.tmp 13) (.const (.int .i64 1)) 3) none,
  .mk (some 13) (.move (.tmp 25)) none]
def r17_9 : List PS := [.mk (some 4) (.assign (.const (.bool true))) none]
def c17 : PC := (.seq (.reg false r17_0) (.seq (.seq (.reg false r17_1) (.cond (.tmp 10) (.seq (.reg false r17_2) .ret) .skip)) (.seq (.seq (.reg false r17_3) (.block 0 (.loop (.seq (.reg false r17_4) (.seq (.cond (.tmp 14) .skip (.exit 0)) (.seq (.block 1 (.seq (.reg false r17_5) (.seq (.reg true r17_6) (.cond (.tmp 24) (.seq (.reg false r17_7) .ret) .skip)))) (.reg false r17_8))))))) (.seq (.reg false r17_9) .ret))))
theorem e17 {args : List PV} {h : Heap} {K : PV → Heap → Prop} (hl : args.length = 2) (s : pwp Try.prog [] c17 (fin Try.prog [.tmp 4] h K) (slots0 (olds args)) h) : CanP Try.prog 17 args h K :=
  can_of2 (n := 26) mixed Try.func17 rfl (by kernel_rfl) (by rw [hl]; kernel_rfl) rfl (by kernel_rfl) s
/-! ### (*naskh.width.Meter).Pad: function 18 -/
def r18_0 : List PS := [.mk (some 8) (.assign (.const (.slice none 0 0))) none]
def r18_1 : List PS := [.mk (some 13) (.move (.tmp 1)) none,
  .mk (some 14) (.call ⟨(.value (.func 13)), #[(.tmp 13)], #[22]⟩) none,
  .mk (some 9) (.assign (.tmp 14)) none]
def r18_2 : List PS := [.mk (some 15) (.move (.tmp 0)) none,
  .mk (some 16) (.move (.tmp 3)) none,
  .mk (some 17) (.call ⟨(.value (.func 12)), #[(.tmp 15), (.tmp 16)], #[24, 3]⟩) none,
  .mk (some 18) (.move (.tmp 0)) none,
  .mk (some 19) (.move (.tmp 1)) none,
  .mk (some 20) (.call ⟨(.value (.func 11)), #[(.tmp 18), (.tmp 19)], #[24, 22]⟩) none,
  .mk (some 10) (.assign (.tmp 17)) none,
  .mk (some 11) (.assign (.tmp 20)) none]
def r18_3 : List PS := [.mk (some 12) (.assign (.const (.int .i64 0))) none]
def r18_4 : List PS := [.mk (some 21) (.move (.tmp 10)) none,
  .mk (some 22) (.binOp .gtr 3 (.tmp 21) (.const (.int .i64 0)) 3) none,
  .mk (some 23) (.move (.tmp 22)) none,
  .mk (some 24) (.move (.tmp 11)) (some (23, true)),
  .mk (some 25) (.move (.tmp 2)) (some (23, true)),
  .mk (some 26) (.binOp .lss 3 (.tmp 24) (.tmp 25) 3) (some (23, true)),
  .mk (some 27) (.pick (.tmp 23) (.tmp 26) (.const (.bool false))) none,
  .mk (some 28) (.move (.tmp 27)) none,
  .mk (some 29) (.move (.tmp 12)) (some (28, true)),
  .mk (some 30) (.binOp .lss 3 (.tmp 29) (.const (.int .i64 1000)) 3) (some (28, true)),
  .mk (some 31) (.pick (.tmp 28) (.tmp 30) (.const (.bool false))) none]
def r18_5 : List PS := [.mk (some 34) (.move (.tmp 9)) none,
  .mk (some 35) (.move (.tmp 3)) none,
  .mk (some 36) (.buildSlice 22 1 #[(0, (.tmp 35))]) none,
  .mk (some 37) (.call ⟨(.builtin .append), #[(.tmp 34), (.tmp 36)], #[22, 22]⟩) none,
  .mk (some 9) (.assign (.tmp 37)) none]
def r18_6 : List PS := [.mk (some 38) (.move (.tmp 11)) none,
  .mk (some 39) (.move (.tmp 10)) none,
  .mk (some 40) (.binOp .add 3 (.tmp 38) (.tmp 39) 3) none,
  .mk (some 11) (.assign (.tmp 40)) none]
def r18_7 : List PS := [.mk (some 32) (.move (.tmp 12)) none,
  .mk (some 33) (.binOp .add 3 (.tmp 32) (.const (.int .i64 1)) 3) none,
  .mk (some 12) (.assign (.tmp 33)) none]
def r18_8 : List PS := [.mk (some 41) (.move (.tmp 9)) none,
  .mk (some 8) (.assign (.tmp 41)) none]
def c18 : PC := (.seq (.reg false r18_0) (.seq (.reg false r18_1) (.seq (.reg false r18_2) (.seq (.seq (.reg false r18_3) (.block 0 (.loop (.seq (.seq (.reg false r18_4) (.cond (.tmp 31) .skip (.exit 0))) (.seq (.block 1 (.seq (.reg false r18_5) (.reg false r18_6))) (.reg false r18_7)))))) (.seq (.reg false r18_8) .ret)))))
theorem e18 {args : List PV} {h : Heap} {K : PV → Heap → Prop} (hl : args.length = 4) (s : pwp Try.prog [] c18 (fin Try.prog [.tmp 8] h K) (slots0 (olds args)) h) : CanP Try.prog 18 args h K :=
  can_of2 (n := 42) mixed Try.func18 rfl (by kernel_rfl) (by rw [hl]; kernel_rfl) rfl (by kernel_rfl) s
/-! ### naskh.naskhref41.Pad: function 19 -/
def r19_0 : List PS := [.mk (some 6) (.assign (.const (.slice none 0 0))) none]
def r19_1 : List PS := [.mk (some 10) (.move (.tmp 0)) none,
  .mk (some 11) (.call ⟨(.builtin .append), #[(.const (.slice none 0 0)), (.tmp 10)], #[22, 22]⟩) none,
  .mk (some 7) (.assign (.tmp 11)) none]
def r19_2 : List PS := [.mk (some 12) (.move (.tmp 0)) none,
  .mk (some 13) (.call ⟨(.value (.func 15)), #[(.tmp 12)], #[22]⟩) none,
  .mk (some 8) (.assign (.tmp 13)) none]
def r19_3 : List PS := [.mk (some 9) (.assign (.const (.int .i64 0))) none]
def r19_4 : List PS := [.mk (some 14) (.move (.tmp 9)) none,
  .mk (some 15) (.binOp .lss 3 (.tmp 14) (.const (.int .i64 1000)) 3) none,
  .mk (some 16) (.move (.tmp 15)) none,
  .mk (some 17) (.move (.tmp 8)) (some (16, true)),
  .mk (some 18) (.move (.tmp 1)) (some (16, true)),
  .mk (some 19) (.binOp .lss 3 (.tmp 17) (.tmp 18) 3) (some (16, true)),
  .mk (some 20) (.pick (.tmp 16) (.tmp 19) (.const (.bool false))) none,
  .mk (some 21) (.move (.tmp 20)) none,
  .mk (some 22) (.move (.tmp 2)) (some (21, true)),
  .mk (some 23) (.call ⟨(.value (.func 14)), #[(.tmp 22)], #[3]⟩) (some (21, true)),
  .mk (some 24) (.binOp .gtr 3 (.tmp 23) (.const (.int .i64 0)) 3) (some (21, true)),
  .mk (some 25) (.pick (.tmp 21) (.tmp 24) (.const (.bool false))) none]
def r19_5 : List PS := [.mk (some 28) (.move (.tmp 7)) none,
  .mk (some 29) (.move (.tmp 2)) none,
  .mk (some 30) (.buildSlice 22 1 #[(0, (.tmp 29))]) none,
  .mk (some 31) (.call ⟨(.builtin .append), #[(.tmp 28), (.tmp 30)], #[22, 22]⟩) none,
  .mk (some 7) (.assign (.tmp 31)) none]
def r19_6 : List PS := [.mk (some 32) (.move (.tmp 8)) none,
  .mk (some 33) (.move (.tmp 2)) none,
  .mk (some 34) (.call ⟨(.value (.func 14)), #[(.tmp 33)], #[3]⟩) none,
  .mk (some 35) (.binOp .add 3 (.tmp 32) (.tmp 34) 3) none,
  .mk (some 8) (.assign (.tmp 35)) none]
def r19_7 : List PS := [.mk (some 26) (.move (.tmp 9)) none,
  .mk (some 27) (.binOp .add 3 (.tmp 26) (.const (.int .i64 1)) 3) none,
  .mk (some 9) (.assign (.tmp 27)) none]
def r19_8 : List PS := [.mk (some 36) (.move (.tmp 7)) none,
  .mk (some 6) (.assign (.tmp 36)) none]
def c19 : PC := (.seq (.reg false r19_0) (.seq (.reg false r19_1) (.seq (.reg false r19_2) (.seq (.seq (.reg false r19_3) (.block 0 (.loop (.seq (.seq (.reg false r19_4) (.cond (.tmp 25) .skip (.exit 0))) (.seq (.block 1 (.seq (.reg false r19_5) (.reg false r19_6))) (.reg false r19_7)))))) (.seq (.reg false r19_8) .ret)))))
theorem e19 {args : List PV} {h : Heap} {K : PV → Heap → Prop} (hl : args.length = 3) (s : pwp Try.prog [] c19 (fin Try.prog [.tmp 6] h K) (slots0 (olds args)) h) : CanP Try.prog 19 args h K :=
  can_of2 (n := 37) mixed Try.func19 rfl (by kernel_rfl) (by rw [hl]; kernel_rfl) rfl (by kernel_rfl) s
/-! ### naskh.naskhlaw41.WidthTells: function 6 -/
def r6_0 : List PS := [.mk (some 8) (.assign (.const (.bool false))) none]
def r6_1 : List PS := [.mk (some 12) (.move (.tmp 0)) none,
  .mk (some 13) (.call ⟨(.builtin .len), #[(.tmp 12)], #[22]⟩) none,
  .mk (some 14) (.binOp .gtr 3 (.tmp 13) (.const (.int .i64 200)) 3) none]
def r6_2 : List PS := [.mk (some 15) (.call ⟨(.value (.func 7)), #[], #[]⟩) none,
  .mk (some 8) (.assign (.tmp 15)) none]
def r6_3 : List PS := [.mk (some 16) (.call ⟨(.value (.func 9)), #[], #[]⟩) none,
  .mk (some 17) (.call ⟨(.value (.func 8)), #[(.tmp 16)], #[26]⟩) none,
  .mk (some 9) (.assign (.tmp 17)) none]
def r6_4 : List PS := [.mk (some 18) (.move (.tmp 0)) none,
  .mk (some 19) (.call ⟨(.builtin .len), #[(.tmp 18)], #[22]⟩) none,
  .mk (some 20) (.move (.const (.int .i64 0))) none]
def r6_5 : List PS := [.mk (some 21) (.binOp .lss 3 (.tmp 20) (.tmp 19) 3) none]
def r6_6 : List PS := [.mk (some 22) (.indexAddr 22 (.tmp 18) (.tmp 20)) none,
  .mk (some 23) (.load 3 (.tmp 22)) none,
  .mk (some 11) (.assign (.tmp 23)) none]
def r6_7 : List PS := [.mk (some 24) (.move (.tmp 9)) none,
  .mk (some 25) (.move (.tmp 11)) none,
  .mk (some 26) (.call ⟨(.value (.func 12)), #[(.tmp 24), (.tmp 25)], #[24, 3]⟩) none,
  .mk (some 27) (.move (.tmp 11)) none,
  .mk (some 28) (.call ⟨(.value (.func 14)), #[(.tmp 27)], #[3]⟩) none,
  .mk (some 29) (.binOp .neq 3 (.tmp 26) (.tmp 28) 3) none]
def r6_8 : List PS := [.mk (some 8) (.assign (.const (.bool false))) none]
def r6_9 : List PS := [.mk (some 30) (.binOp .add 3 (.tmp 20) (.const (.int .i64 1)) 3) none,
  .mk (some 20) (.move (.tmp 30)) none]
def r6_10 : List PS := [.mk (some 31) (.move (.tmp 9)) none,
  .mk (some 32) (.move (.tmp 0)) none,
  .mk (some 33) (.call ⟨(.value (.func 11)), #[(.tmp 31), (.tmp 32)], #[24, 22]⟩) none,
  .mk (some 34) (.move (.tmp 0)) none,
  .mk (some 35) (.call ⟨(.value (.func 15)), #[(.tmp 34)], #[22]⟩) none,
  .mk (some 36) (.binOp .eql 3 (.tmp 33) (.tmp 35) 3) none,
  .mk (some 37) (.move (.tmp 36)) none,
  .mk (some 38) (.move (.tmp 9)) (some (37, true)),
  .mk (some 39) (.move (.tmp 0)) (some (37, true)),
  .mk (some 40) (.move (.tmp 1)) (some (37, true)),
  .mk (some 41) (.call ⟨(.value (.func 10)), #[(.tmp 38), (.tmp 39), (.tmp 40)], #[24, 22, 3]⟩) (some (37, true)),
  .mk (some 42) (.move (.tmp 0)) (some (37, true)),
  .mk (some 43) (.move (.tmp 1)) (some (37, true)),
  .mk (some 44) (.call ⟨(.value (.func 16)), #[(.tmp 42), (.tmp 43)], #[22, 3]⟩) (some (37, true)),
  .mk (some 45) (.binOp .eql 3 (.tmp 41) (.tmp 44) 3) (some (37, true)),
  .mk (some 46) (.pick (.tmp 37) (.tmp 45) (.const (.bool false))) none,
  .mk (some 47) (.move (.tmp 46)) none,
  .mk (some 48) (.move (.tmp 9)) (some (47, true)),
  .mk (some 49) (.move (.tmp 0)) (some (47, true)),
  .mk (some 50) (.move (.tmp 2)) (some (47, true)),
  .mk (some 51) (.move (.tmp 3)) (some (47, true)),
  .mk (some 52) (.call ⟨(.value (.func 18)), #[(.tmp 48), (.tmp 49), (.tmp 50), (.tmp 51)], #[24, 22, 3, 3]⟩) (some (47, true)),
  .mk (some 53) (.move (.tmp 0)) (some (47, true)),
  .mk (some 54) (.move (.tmp 2)) (some (47, true)),
  .mk (some 55) (.move (.tmp 3)) (some (47, true)),
  .mk (some 56) (.call ⟨(.value (.func 19)), #[(.tmp 53), (.tmp 54), (.tmp 55)], #[22, 3, 3]⟩) (some (47, true)),
  .mk (some 57) (.call ⟨(.value (.func 17)), #[(.tmp 52), (.tmp 56)], #[22, 22]⟩) (some (47, true)),
  .mk (some 58) (.pick (.tmp 47) (.tmp 57) (.const (.bool false))) none,
  .mk (some 59) (.move (.tmp 58)) none,
  .mk (some 60) (.call ⟨(.value (.func 7)), #[], #[]⟩) (some (59, true)),
  .mk (some 61) (.pick (.tmp 59) (.tmp 60) (.const (.bool false))) none,
  .mk (some 8) (.assign (.tmp 61)) none]
def c6 : PC := (.seq (.reg false r6_0) (.seq (.seq (.reg false r6_1) (.cond (.tmp 14) (.seq (.reg false r6_2) .ret) .skip)) (.seq (.reg false r6_3) (.seq (.seq (.reg false r6_4) (.block 0 (.loop (.seq (.reg false r6_5) (.seq (.cond (.tmp 21) .skip (.exit 0)) (.seq (.block 1 (.seq (.reg false r6_6) (.seq (.reg false r6_7) (.cond (.tmp 29) (.seq (.reg false r6_8) .ret) .skip)))) (.reg false r6_9))))))) (.seq (.reg false r6_10) .ret)))))
theorem e6 {args : List PV} {h : Heap} {K : PV → Heap → Prop} (hl : args.length = 4) (s : pwp Try.prog [] c6 (fin Try.prog [.tmp 8] h K) (slots0 (olds args)) h) : CanP Try.prog 6 args h K :=
  can_of2 (n := 62) mixed Try.func6 rfl (by kernel_rfl) (by rw [hl]; kernel_rfl) rfl (by kernel_rfl) s
end Go.Proofs.Ytdkhfgkcgioidaa
