/-
  The functions that the statements of this seat reach, told in short, and facts on their types. Printed by this project's own program.
  Conditions: none.
-/
import Derived.Test.YtenmbhjjnfmlhaaPmO
import Derived.Test.YtenmbhjjnfmlhaaProg
import Derived.KernelRfl
namespace Go.Proofs.Ytenmbhjjnfmlhaa
open Go.Pm
set_option maxRecDepth 100000
set_option linter.unusedVariables false
theorem mixed : Try.prog.follows .mixedOrders = true := by kernel_rfl
theorem tag3 : tag Try.prog 3 = some false := by kernel_rfl
theorem tsz3 : tsz Try.prog 3 = some 1 := by kernel_rfl
theorem und3 : und Try.prog 3 = true := by kernel_rfl
theorem ik3 : ik Try.prog 3 = some .i64 := by kernel_rfl
theorem kd3 : kd Try.prog 3 = none := by kernel_rfl
theorem esz3 : esz Try.prog 3 = none := by kernel_rfl
theorem zc3 : zc Try.prog 3 = some [.int .i64 0] := by kernel_rfl
theorem ars3 : ars Try.prog 3 = none := by kernel_rfl
theorem tag4 : tag Try.prog 4 = some false := by kernel_rfl
theorem tsz4 : tsz Try.prog 4 = some 1 := by kernel_rfl
theorem und4 : und Try.prog 4 = true := by kernel_rfl
theorem ik4 : ik Try.prog 4 = none := by kernel_rfl
theorem kd4 : kd Try.prog 4 = some 3 := by kernel_rfl
theorem esz4 : esz Try.prog 4 = none := by kernel_rfl
theorem zc4 : zc Try.prog 4 = some [.bool false] := by kernel_rfl
theorem ars4 : ars Try.prog 4 = none := by kernel_rfl
theorem tag22 : tag Try.prog 22 = some false := by kernel_rfl
theorem tsz22 : tsz Try.prog 22 = some 1 := by kernel_rfl
theorem und22 : und Try.prog 22 = true := by kernel_rfl
theorem ik22 : ik Try.prog 22 = none := by kernel_rfl
theorem kd22 : kd Try.prog 22 = some 1 := by kernel_rfl
theorem esz22 : esz Try.prog 22 = some 1 := by kernel_rfl
theorem elt22 : elt Try.prog 22 = some 3 := by kernel_rfl
theorem zc22 : zc Try.prog 22 = some [.nils] := by kernel_rfl
theorem ars22 : ars Try.prog 22 = none := by kernel_rfl
theorem eli22 : eli Try.prog 22 = some (1, 8, [.int .i64 0]) := by kernel_rfl
theorem tag28 : tag Try.prog 28 = some true := by kernel_rfl
theorem tsz28 : tsz Try.prog 28 = some 2 := by kernel_rfl
theorem und28 : und Try.prog 28 = true := by kernel_rfl
theorem ik28 : ik Try.prog 28 = none := by kernel_rfl
theorem kd28 : kd Try.prog 28 = some 14 := by kernel_rfl
theorem esz28 : esz Try.prog 28 = none := by kernel_rfl
theorem zc28 : zc Try.prog 28 = some [.int .i64 0, .int .i64 0] := by kernel_rfl
theorem ars28 : ars Try.prog 28 = none := by kernel_rfl
theorem fld28_0 : fld Try.prog 28 0 = some (0, false, 1) := by kernel_rfl
theorem fld28_1 : fld Try.prog 28 1 = some (1, false, 1) := by kernel_rfl
theorem plc28 : plc Try.prog 28 = some fun i => [(0, 1), (1, 1)][i]? := by kernel_rfl
theorem tag34 : tag Try.prog 34 = some false := by kernel_rfl
theorem tsz34 : tsz Try.prog 34 = some 1 := by kernel_rfl
theorem und34 : und Try.prog 34 = true := by kernel_rfl
theorem ik34 : ik Try.prog 34 = none := by kernel_rfl
theorem kd34 : kd Try.prog 34 = some 1 := by kernel_rfl
theorem esz34 : esz Try.prog 34 = some 2 := by kernel_rfl
theorem elt34 : elt Try.prog 34 = some 28 := by kernel_rfl
theorem zc34 : zc Try.prog 34 = some [.nils] := by kernel_rfl
theorem ars34 : ars Try.prog 34 = none := by kernel_rfl
theorem eli34 : eli Try.prog 34 = some (2, 16, [.int .i64 0, .int .i64 0]) := by kernel_rfl
theorem tag36 : tag Try.prog 36 = some false := by kernel_rfl
theorem tsz36 : tsz Try.prog 36 = some 1 := by kernel_rfl
theorem und36 : und Try.prog 36 = true := by kernel_rfl
theorem ik36 : ik Try.prog 36 = none := by kernel_rfl
theorem kd36 : kd Try.prog 36 = some 2 := by kernel_rfl
theorem esz36 : esz Try.prog 36 = none := by kernel_rfl
theorem zc36 : zc Try.prog 36 = some [.nilp] := by kernel_rfl
theorem ars36 : ars Try.prog 36 = none := by kernel_rfl
theorem tag45 : tag Try.prog 45 = some false := by kernel_rfl
theorem tsz45 : tsz Try.prog 45 = some 1 := by kernel_rfl
theorem und45 : und Try.prog 45 = true := by kernel_rfl
theorem ik45 : ik Try.prog 45 = none := by kernel_rfl
theorem kd45 : kd Try.prog 45 = some 2 := by kernel_rfl
theorem esz45 : esz Try.prog 45 = none := by kernel_rfl
theorem zc45 : zc Try.prog 45 = some [.nilp] := by kernel_rfl
theorem ars45 : ars Try.prog 45 = none := by kernel_rfl
theorem tag46 : tag Try.prog 46 = some false := by kernel_rfl
theorem tsz46 : tsz Try.prog 46 = some 1 := by kernel_rfl
theorem und46 : und Try.prog 46 = true := by kernel_rfl
theorem ik46 : ik Try.prog 46 = some .i64 := by kernel_rfl
theorem kd46 : kd Try.prog 46 = none := by kernel_rfl
theorem esz46 : esz Try.prog 46 = none := by kernel_rfl
theorem zc46 : zc Try.prog 46 = some [.int .i64 0] := by kernel_rfl
theorem ars46 : ars Try.prog 46 = none := by kernel_rfl
theorem tag49 : tag Try.prog 49 = some false := by kernel_rfl
theorem tsz49 : tsz Try.prog 49 = some 1 := by kernel_rfl
theorem und49 : und Try.prog 49 = true := by kernel_rfl
theorem ik49 : ik Try.prog 49 = none := by kernel_rfl
theorem kd49 : kd Try.prog 49 = some 1 := by kernel_rfl
theorem esz49 : esz Try.prog 49 = some 3 := by kernel_rfl
theorem elt49 : elt Try.prog 49 = some 73 := by kernel_rfl
theorem zc49 : zc Try.prog 49 = some [.nils] := by kernel_rfl
theorem ars49 : ars Try.prog 49 = none := by kernel_rfl
theorem eli49 : eli Try.prog 49 = some (3, 24, [.int .i64 0, .int .i64 0, .int .i64 0]) := by kernel_rfl
theorem tag52 : tag Try.prog 52 = some true := by kernel_rfl
theorem tsz52 : tsz Try.prog 52 = some 2 := by kernel_rfl
theorem und52 : und Try.prog 52 = true := by kernel_rfl
theorem ik52 : ik Try.prog 52 = none := by kernel_rfl
theorem kd52 : kd Try.prog 52 = none := by kernel_rfl
theorem esz52 : esz Try.prog 52 = none := by kernel_rfl
theorem zc52 : zc Try.prog 52 = some [.nilp, .nilp] := by kernel_rfl
theorem ars52 : ars Try.prog 52 = none := by kernel_rfl
theorem fld52_0 : fld Try.prog 52 0 = some (0, false, 1) := by kernel_rfl
theorem fld52_1 : fld Try.prog 52 1 = some (1, false, 1) := by kernel_rfl
theorem plc52 : plc Try.prog 52 = some fun i => [(0, 1), (1, 1)][i]? := by kernel_rfl
theorem tag54 : tag Try.prog 54 = some true := by kernel_rfl
theorem tsz54 : tsz Try.prog 54 = some 2 := by kernel_rfl
theorem und54 : und Try.prog 54 = true := by kernel_rfl
theorem ik54 : ik Try.prog 54 = none := by kernel_rfl
theorem kd54 : kd Try.prog 54 = none := by kernel_rfl
theorem esz54 : esz Try.prog 54 = none := by kernel_rfl
theorem zc54 : zc Try.prog 54 = some [.nilp, .nilp] := by kernel_rfl
theorem ars54 : ars Try.prog 54 = none := by kernel_rfl
theorem fld54_0 : fld Try.prog 54 0 = some (0, true, 2) := by kernel_rfl
theorem plc54 : plc Try.prog 54 = some fun i => [(0, 2)][i]? := by kernel_rfl
theorem tag56 : tag Try.prog 56 = some false := by kernel_rfl
theorem tsz56 : tsz Try.prog 56 = some 1 := by kernel_rfl
theorem und56 : und Try.prog 56 = true := by kernel_rfl
theorem ik56 : ik Try.prog 56 = some .u64 := by kernel_rfl
theorem kd56 : kd Try.prog 56 = none := by kernel_rfl
theorem esz56 : esz Try.prog 56 = none := by kernel_rfl
theorem zc56 : zc Try.prog 56 = some [.int .u64 0] := by kernel_rfl
theorem ars56 : ars Try.prog 56 = none := by kernel_rfl
theorem tag62 : tag Try.prog 62 = some false := by kernel_rfl
theorem tsz62 : tsz Try.prog 62 = some 1 := by kernel_rfl
theorem und62 : und Try.prog 62 = true := by kernel_rfl
theorem ik62 : ik Try.prog 62 = none := by kernel_rfl
theorem kd62 : kd Try.prog 62 = some 1 := by kernel_rfl
theorem esz62 : esz Try.prog 62 = some 128 := by kernel_rfl
theorem elt62 : elt Try.prog 62 = some 68 := by kernel_rfl
theorem zc62 : zc Try.prog 62 = some [.nils] := by kernel_rfl
theorem ars62 : ars Try.prog 62 = none := by kernel_rfl
theorem eli62 : eli Try.prog 62 = some (128, 1024, List.replicate 128 (.int .i64 0)) := by kernel_rfl
theorem tag64 : tag Try.prog 64 = some true := by kernel_rfl
theorem tsz64 : tsz Try.prog 64 = some 2 := by kernel_rfl
theorem und64 : und Try.prog 64 = true := by kernel_rfl
theorem ik64 : ik Try.prog 64 = none := by kernel_rfl
theorem kd64 : kd Try.prog 64 = none := by kernel_rfl
theorem esz64 : esz Try.prog 64 = none := by kernel_rfl
theorem zc64 : zc Try.prog 64 = some [.nils, .nils] := by kernel_rfl
theorem ars64 : ars Try.prog 64 = none := by kernel_rfl
theorem fld64_0 : fld Try.prog 64 0 = some (0, false, 1) := by kernel_rfl
theorem fld64_1 : fld Try.prog 64 1 = some (1, false, 1) := by kernel_rfl
theorem plc64 : plc Try.prog 64 = some fun i => [(0, 1), (1, 1)][i]? := by kernel_rfl
theorem tag66 : tag Try.prog 66 = some true := by kernel_rfl
theorem tsz66 : tsz Try.prog 66 = some 4 := by kernel_rfl
theorem und66 : und Try.prog 66 = true := by kernel_rfl
theorem ik66 : ik Try.prog 66 = none := by kernel_rfl
theorem kd66 : kd Try.prog 66 = none := by kernel_rfl
theorem esz66 : esz Try.prog 66 = none := by kernel_rfl
theorem zc66 : zc Try.prog 66 = some [.nils, .nils, .int .i64 0, .bool false] := by kernel_rfl
theorem ars66 : ars Try.prog 66 = none := by kernel_rfl
theorem fld66_0 : fld Try.prog 66 0 = some (0, true, 2) := by kernel_rfl
theorem fld66_1 : fld Try.prog 66 1 = some (2, false, 1) := by kernel_rfl
theorem fld66_2 : fld Try.prog 66 2 = some (3, false, 1) := by kernel_rfl
theorem plc66 : plc Try.prog 66 = some fun i => [(0, 2), (2, 1), (3, 1)][i]? := by kernel_rfl
theorem tag68 : tag Try.prog 68 = some true := by kernel_rfl
theorem tsz68 : tsz Try.prog 68 = some 128 := by kernel_rfl
theorem und68 : und Try.prog 68 = true := by kernel_rfl
theorem ik68 : ik Try.prog 68 = none := by kernel_rfl
theorem kd68 : kd Try.prog 68 = some 266 := by kernel_rfl
theorem esz68 : esz Try.prog 68 = none := by kernel_rfl
theorem zc68 : zc Try.prog 68 = some (List.replicate 128 (.int .i64 0)) := by kernel_rfl
theorem ars68 : ars Try.prog 68 = some (128, 1, false) := by kernel_rfl
theorem plc68 : plc Try.prog 68 = some fun i => some (i * 1, 1) := by kernel_rfl
theorem tag73 : tag Try.prog 73 = some true := by kernel_rfl
theorem tsz73 : tsz Try.prog 73 = some 3 := by kernel_rfl
theorem und73 : und Try.prog 73 = true := by kernel_rfl
theorem ik73 : ik Try.prog 73 = none := by kernel_rfl
theorem kd73 : kd Try.prog 73 = some 16 := by kernel_rfl
theorem esz73 : esz Try.prog 73 = none := by kernel_rfl
theorem zc73 : zc Try.prog 73 = some [.int .i64 0, .int .i64 0, .int .i64 0] := by kernel_rfl
theorem ars73 : ars Try.prog 73 = none := by kernel_rfl
theorem fld73_0 : fld Try.prog 73 0 = some (0, false, 1) := by kernel_rfl
theorem fld73_1 : fld Try.prog 73 1 = some (1, false, 1) := by kernel_rfl
theorem fld73_2 : fld Try.prog 73 2 = some (2, false, 1) := by kernel_rfl
theorem plc73 : plc Try.prog 73 = some fun i => [(0, 1), (1, 1), (2, 1)][i]? := by kernel_rfl
theorem tag74 : tag Try.prog 74 = some false := by kernel_rfl
theorem tsz74 : tsz Try.prog 74 = some 1 := by kernel_rfl
theorem und74 : und Try.prog 74 = true := by kernel_rfl
theorem ik74 : ik Try.prog 74 = some .u32 := by kernel_rfl
theorem kd74 : kd Try.prog 74 = none := by kernel_rfl
theorem esz74 : esz Try.prog 74 = none := by kernel_rfl
theorem zc74 : zc Try.prog 74 = some [.int .u32 0] := by kernel_rfl
theorem ars74 : ars Try.prog 74 = none := by kernel_rfl
theorem tag77 : tag Try.prog 77 = some false := by kernel_rfl
theorem tsz77 : tsz Try.prog 77 = some 1 := by kernel_rfl
theorem und77 : und Try.prog 77 = true := by kernel_rfl
theorem ik77 : ik Try.prog 77 = some .u64 := by kernel_rfl
theorem kd77 : kd Try.prog 77 = none := by kernel_rfl
theorem esz77 : esz Try.prog 77 = none := by kernel_rfl
theorem zc77 : zc Try.prog 77 = some [.int .u64 0] := by kernel_rfl
theorem ars77 : ars Try.prog 77 = none := by kernel_rfl
theorem tag81 : tag Try.prog 81 = some false := by kernel_rfl
theorem tsz81 : tsz Try.prog 81 = some 1 := by kernel_rfl
theorem und81 : und Try.prog 81 = true := by kernel_rfl
theorem ik81 : ik Try.prog 81 = none := by kernel_rfl
theorem kd81 : kd Try.prog 81 = some 2 := by kernel_rfl
theorem esz81 : esz Try.prog 81 = none := by kernel_rfl
theorem zc81 : zc Try.prog 81 = some [.nilp] := by kernel_rfl
theorem ars81 : ars Try.prog 81 = none := by kernel_rfl
theorem ft : (tag Try.prog 3 = some false) ∧
    (tsz Try.prog 3 = some 1) ∧
    (und Try.prog 3 = true) ∧
    (ik Try.prog 3 = some .i64) ∧
    (kd Try.prog 3 = none) ∧
    (esz Try.prog 3 = none) ∧
    (zc Try.prog 3 = some [.int .i64 0]) ∧
    (ars Try.prog 3 = none) ∧
    (tag Try.prog 4 = some false) ∧
    (tsz Try.prog 4 = some 1) ∧
    (und Try.prog 4 = true) ∧
    (ik Try.prog 4 = none) ∧
    (kd Try.prog 4 = some 3) ∧
    (esz Try.prog 4 = none) ∧
    (zc Try.prog 4 = some [.bool false]) ∧
    (ars Try.prog 4 = none) ∧
    (tag Try.prog 22 = some false) ∧
    (tsz Try.prog 22 = some 1) ∧
    (und Try.prog 22 = true) ∧
    (ik Try.prog 22 = none) ∧
    (kd Try.prog 22 = some 1) ∧
    (esz Try.prog 22 = some 1) ∧
    (elt Try.prog 22 = some 3) ∧
    (zc Try.prog 22 = some [.nils]) ∧
    (ars Try.prog 22 = none) ∧
    (eli Try.prog 22 = some (1, 8, [.int .i64 0])) ∧
    (tag Try.prog 28 = some true) ∧
    (tsz Try.prog 28 = some 2) ∧
    (und Try.prog 28 = true) ∧
    (ik Try.prog 28 = none) ∧
    (kd Try.prog 28 = some 14) ∧
    (esz Try.prog 28 = none) ∧
    (zc Try.prog 28 = some [.int .i64 0, .int .i64 0]) ∧
    (ars Try.prog 28 = none) ∧
    (fld Try.prog 28 0 = some (0, false, 1)) ∧
    (fld Try.prog 28 1 = some (1, false, 1)) ∧
    (plc Try.prog 28 = some fun i => [(0, 1), (1, 1)][i]?) ∧
    (tag Try.prog 34 = some false) ∧
    (tsz Try.prog 34 = some 1) ∧
    (und Try.prog 34 = true) ∧
    (ik Try.prog 34 = none) ∧
    (kd Try.prog 34 = some 1) ∧
    (esz Try.prog 34 = some 2) ∧
    (elt Try.prog 34 = some 28) ∧
    (zc Try.prog 34 = some [.nils]) ∧
    (ars Try.prog 34 = none) ∧
    (eli Try.prog 34 = some (2, 16, [.int .i64 0, .int .i64 0])) ∧
    (tag Try.prog 36 = some false) ∧
    (tsz Try.prog 36 = some 1) ∧
    (und Try.prog 36 = true) ∧
    (ik Try.prog 36 = none) ∧
    (kd Try.prog 36 = some 2) ∧
    (esz Try.prog 36 = none) ∧
    (zc Try.prog 36 = some [.nilp]) ∧
    (ars Try.prog 36 = none) ∧
    (tag Try.prog 45 = some false) ∧
    (tsz Try.prog 45 = some 1) ∧
    (und Try.prog 45 = true) ∧
    (ik Try.prog 45 = none) ∧
    (kd Try.prog 45 = some 2) ∧
    (esz Try.prog 45 = none) ∧
    (zc Try.prog 45 = some [.nilp]) ∧
    (ars Try.prog 45 = none) ∧
    (tag Try.prog 46 = some false) ∧
    (tsz Try.prog 46 = some 1) ∧
    (und Try.prog 46 = true) ∧
    (ik Try.prog 46 = some .i64) ∧
    (kd Try.prog 46 = none) ∧
    (esz Try.prog 46 = none) ∧
    (zc Try.prog 46 = some [.int .i64 0]) ∧
    (ars Try.prog 46 = none) ∧
    (tag Try.prog 49 = some false) ∧
    (tsz Try.prog 49 = some 1) ∧
    (und Try.prog 49 = true) ∧
    (ik Try.prog 49 = none) ∧
    (kd Try.prog 49 = some 1) ∧
    (esz Try.prog 49 = some 3) ∧
    (elt Try.prog 49 = some 73) ∧
    (zc Try.prog 49 = some [.nils]) ∧
    (ars Try.prog 49 = none) ∧
    (eli Try.prog 49 = some (3, 24, [.int .i64 0, .int .i64 0, .int .i64 0])) ∧
    (tag Try.prog 52 = some true) ∧
    (tsz Try.prog 52 = some 2) ∧
    (und Try.prog 52 = true) ∧
    (ik Try.prog 52 = none) ∧
    (kd Try.prog 52 = none) ∧
    (esz Try.prog 52 = none) ∧
    (zc Try.prog 52 = some [.nilp, .nilp]) ∧
    (ars Try.prog 52 = none) ∧
    (fld Try.prog 52 0 = some (0, false, 1)) ∧
    (fld Try.prog 52 1 = some (1, false, 1)) ∧
    (plc Try.prog 52 = some fun i => [(0, 1), (1, 1)][i]?) ∧
    (tag Try.prog 54 = some true) ∧
    (tsz Try.prog 54 = some 2) ∧
    (und Try.prog 54 = true) ∧
    (ik Try.prog 54 = none) ∧
    (kd Try.prog 54 = none) ∧
    (esz Try.prog 54 = none) ∧
    (zc Try.prog 54 = some [.nilp, .nilp]) ∧
    (ars Try.prog 54 = none) ∧
    (fld Try.prog 54 0 = some (0, true, 2)) ∧
    (plc Try.prog 54 = some fun i => [(0, 2)][i]?) ∧
    (tag Try.prog 56 = some false) ∧
    (tsz Try.prog 56 = some 1) ∧
    (und Try.prog 56 = true) ∧
    (ik Try.prog 56 = some .u64) ∧
    (kd Try.prog 56 = none) ∧
    (esz Try.prog 56 = none) ∧
    (zc Try.prog 56 = some [.int .u64 0]) ∧
    (ars Try.prog 56 = none) ∧
    (tag Try.prog 62 = some false) ∧
    (tsz Try.prog 62 = some 1) ∧
    (und Try.prog 62 = true) ∧
    (ik Try.prog 62 = none) ∧
    (kd Try.prog 62 = some 1) ∧
    (esz Try.prog 62 = some 128) ∧
    (elt Try.prog 62 = some 68) ∧
    (zc Try.prog 62 = some [.nils]) ∧
    (ars Try.prog 62 = none) ∧
    (eli Try.prog 62 = some (128, 1024, List.replicate 128 (.int .i64 0))) ∧
    (tag Try.prog 64 = some true) ∧
    (tsz Try.prog 64 = some 2) ∧
    (und Try.prog 64 = true) ∧
    (ik Try.prog 64 = none) ∧
    (kd Try.prog 64 = none) ∧
    (esz Try.prog 64 = none) ∧
    (zc Try.prog 64 = some [.nils, .nils]) ∧
    (ars Try.prog 64 = none) ∧
    (fld Try.prog 64 0 = some (0, false, 1)) ∧
    (fld Try.prog 64 1 = some (1, false, 1)) ∧
    (plc Try.prog 64 = some fun i => [(0, 1), (1, 1)][i]?) ∧
    (tag Try.prog 66 = some true) ∧
    (tsz Try.prog 66 = some 4) ∧
    (und Try.prog 66 = true) ∧
    (ik Try.prog 66 = none) ∧
    (kd Try.prog 66 = none) ∧
    (esz Try.prog 66 = none) ∧
    (zc Try.prog 66 = some [.nils, .nils, .int .i64 0, .bool false]) ∧
    (ars Try.prog 66 = none) ∧
    (fld Try.prog 66 0 = some (0, true, 2)) ∧
    (fld Try.prog 66 1 = some (2, false, 1)) ∧
    (fld Try.prog 66 2 = some (3, false, 1)) ∧
    (plc Try.prog 66 = some fun i => [(0, 2), (2, 1), (3, 1)][i]?) ∧
    (tag Try.prog 68 = some true) ∧
    (tsz Try.prog 68 = some 128) ∧
    (und Try.prog 68 = true) ∧
    (ik Try.prog 68 = none) ∧
    (kd Try.prog 68 = some 266) ∧
    (esz Try.prog 68 = none) ∧
    (zc Try.prog 68 = some (List.replicate 128 (.int .i64 0))) ∧
    (ars Try.prog 68 = some (128, 1, false)) ∧
    (plc Try.prog 68 = some fun i => some (i * 1, 1)) ∧
    (tag Try.prog 73 = some true) ∧
    (tsz Try.prog 73 = some 3) ∧
    (und Try.prog 73 = true) ∧
    (ik Try.prog 73 = none) ∧
    (kd Try.prog 73 = some 16) ∧
    (esz Try.prog 73 = none) ∧
    (zc Try.prog 73 = some [.int .i64 0, .int .i64 0, .int .i64 0]) ∧
    (ars Try.prog 73 = none) ∧
    (fld Try.prog 73 0 = some (0, false, 1)) ∧
    (fld Try.prog 73 1 = some (1, false, 1)) ∧
    (fld Try.prog 73 2 = some (2, false, 1)) ∧
    (plc Try.prog 73 = some fun i => [(0, 1), (1, 1), (2, 1)][i]?) ∧
    (tag Try.prog 74 = some false) ∧
    (tsz Try.prog 74 = some 1) ∧
    (und Try.prog 74 = true) ∧
    (ik Try.prog 74 = some .u32) ∧
    (kd Try.prog 74 = none) ∧
    (esz Try.prog 74 = none) ∧
    (zc Try.prog 74 = some [.int .u32 0]) ∧
    (ars Try.prog 74 = none) ∧
    (tag Try.prog 77 = some false) ∧
    (tsz Try.prog 77 = some 1) ∧
    (und Try.prog 77 = true) ∧
    (ik Try.prog 77 = some .u64) ∧
    (kd Try.prog 77 = none) ∧
    (esz Try.prog 77 = none) ∧
    (zc Try.prog 77 = some [.int .u64 0]) ∧
    (ars Try.prog 77 = none) ∧
    (tag Try.prog 81 = some false) ∧
    (tsz Try.prog 81 = some 1) ∧
    (und Try.prog 81 = true) ∧
    (ik Try.prog 81 = none) ∧
    (kd Try.prog 81 = some 2) ∧
    (esz Try.prog 81 = none) ∧
    (zc Try.prog 81 = some [.nilp]) ∧
    (ars Try.prog 81 = none) :=
  ⟨tag3, tsz3, und3, ik3, kd3, esz3, zc3, ars3, tag4, tsz4, und4, ik4, kd4, esz4, zc4, ars4, tag22, tsz22, und22, ik22, kd22, esz22, elt22, zc22, ars22, eli22, tag28, tsz28, und28, ik28, kd28, esz28, zc28, ars28, fld28_0, fld28_1, plc28, tag34, tsz34, und34, ik34, kd34, esz34, elt34, zc34, ars34, eli34, tag36, tsz36, und36, ik36, kd36, esz36, zc36, ars36, tag45, tsz45, und45, ik45, kd45, esz45, zc45, ars45, tag46, tsz46, und46, ik46, kd46, esz46, zc46, ars46, tag49, tsz49, und49, ik49, kd49, esz49, elt49, zc49, ars49, eli49, tag52, tsz52, und52, ik52, kd52, esz52, zc52, ars52, fld52_0, fld52_1, plc52, tag54, tsz54, und54, ik54, kd54, esz54, zc54, ars54, fld54_0, plc54, tag56, tsz56, und56, ik56, kd56, esz56, zc56, ars56, tag62, tsz62, und62, ik62, kd62, esz62, elt62, zc62, ars62, eli62, tag64, tsz64, und64, ik64, kd64, esz64, zc64, ars64, fld64_0, fld64_1, plc64, tag66, tsz66, und66, ik66, kd66, esz66, zc66, ars66, fld66_0, fld66_1, fld66_2, plc66, tag68, tsz68, und68, ik68, kd68, esz68, zc68, ars68, plc68, tag73, tsz73, und73, ik73, kd73, esz73, zc73, ars73, fld73_0, fld73_1, fld73_2, plc73, tag74, tsz74, und74, ik74, kd74, esz74, zc74, ars74, tag77, tsz77, und77, ik77, kd77, esz77, zc77, ars77, tag81, tsz81, und81, ik81, kd81, esz81, zc81, ars81⟩
/-! ### math.bits.Mul32: function 42 -/
def r42_0 : List PS := [.mk (some 4) (.assign (.const (.int .u32 0))) none,
  .mk (some 5) (.assign (.const (.int .u32 0))) none]
def r42_1 : List PS := [.mk (some 7) (.move (.tmp 0)) none,
  .mk (some 8) (.convert 74 77 (.tmp 7)) none,
  .mk (some 9) (.move (.tmp 1)) none,
  .mk (some 10) (.convert 74 77 (.tmp 9)) none,
  .mk (some 11) (.binOp .mul 77 (.tmp 8) (.tmp 10) 77) none,
  .mk (some 6) (.assign (.tmp 11)) none]
def r42_2 : List PS := [.mk (some 12) (.move (.tmp 6)) none,
  .mk (some 13) (.binOp .shr 77 (.tmp 12) (.const (.int .u64 32)) 56) none,
  .mk (some 14) (.convert 77 74 (.tmp 13)) none,
  .mk (some 15) (.move (.tmp 6)) none,
  .mk (some 16) (.convert 77 74 (.tmp 15)) none,
  .mk (some 4) (.assign (.tmp 14)) none,
  .mk (some 5) (.assign (.tmp 16)) none]
def c42 : PC := (.seq (.reg false r42_0) (.seq (.reg false r42_1) (.seq (.reg false r42_2) .ret)))
theorem e42 {args : List PV} {h : Heap} {K : PV → Heap → Prop} (hl : args.length = 2) (s : pwp Try.prog [] c42 (fin Try.prog [.tmp 4, .tmp 5] h K) (slots0 (olds args)) h) : CanP Try.prog 42 args h K :=
  can_of2 (n := 17) mixed Try.func42 rfl (by kernel_rfl) (by rw [hl]; kernel_rfl) rfl (by kernel_rfl) s
/-! ### math.bits.Mul64: function 43 -/
def r43_0 : List PS := [.mk (some 4) (.assign (.const (.int .u64 0))) none,
  .mk (some 5) (.assign (.const (.int .u64 0))) none]
def r43_1 : List PS := [.mk (some 14) (.move (.tmp 0)) none,
  .mk (some 15) (.binOp .and 77 (.tmp 14) (.const (.int .u64 4294967295)) 77) none,
  .mk (some 6) (.assign (.tmp 15)) none]
def r43_2 : List PS := [.mk (some 16) (.move (.tmp 0)) none,
  .mk (some 17) (.binOp .shr 77 (.tmp 16) (.const (.int .u64 32)) 56) none,
  .mk (some 7) (.assign (.tmp 17)) none]
def r43_3 : List PS := [.mk (some 18) (.move (.tmp 1)) none,
  .mk (some 19) (.binOp .and 77 (.tmp 18) (.const (.int .u64 4294967295)) 77) none,
  .mk (some 8) (.assign (.tmp 19)) none]
def r43_4 : List PS := [.mk (some 20) (.move (.tmp 1)) none,
  .mk (some 21) (.binOp .shr 77 (.tmp 20) (.const (.int .u64 32)) 56) none,
  .mk (some 9) (.assign (.tmp 21)) none]
def r43_5 : List PS := [.mk (some 22) (.move (.tmp 6)) none,
  .mk (some 23) (.move (.tmp 8)) none,
  .mk (some 24) (.binOp .mul 77 (.tmp 22) (.tmp 23) 77) none,
  .mk (some 10) (.assign (.tmp 24)) none]
def r43_6 : List PS := [.mk (some 25) (.move (.tmp 7)) none,
  .mk (some 26) (.move (.tmp 8)) none,
  .mk (some 27) (.binOp .mul 77 (.tmp 25) (.tmp 26) 77) none,
  .mk (some 28) (.move (.tmp 10)) none,
  .mk (some 29) (.binOp .shr 77 (.tmp 28) (.const (.int .u64 32)) 56) none,
  .mk (some 30) (.binOp .add 77 (.tmp 27) (.tmp 29) 77) none,
  .mk (some 11) (.assign (.tmp 30)) none]
def r43_7 : List PS := [.mk (some 31) (.move (.tmp 11)) none,
  .mk (some 32) (.binOp .and 77 (.tmp 31) (.const (.int .u64 4294967295)) 77) none,
  .mk (some 12) (.assign (.tmp 32)) none]
def r43_8 : List PS := [.mk (some 33) (.move (.tmp 11)) none,
  .mk (some 34) (.binOp .shr 77 (.tmp 33) (.const (.int .u64 32)) 56) none,
  .mk (some 13) (.assign (.tmp 34)) none]
def r43_9 : List PS := [.mk (some 35) (.move (.tmp 12)) none,
  .mk (some 36) (.move (.tmp 6)) none,
  .mk (some 37) (.move (.tmp 9)) none,
  .mk (some 38) (.binOp .mul 77 (.tmp 36) (.tmp 37) 77) none,
  .mk (some 39) (.binOp .add 77 (.tmp 35) (.tmp 38) 77) none,
  .mk (some 12) (.assign (.tmp 39)) none]
def r43_10 : List PS := [.mk (some 40) (.move (.tmp 7)) none,
  .mk (some 41) (.move (.tmp 9)) none,
  .mk (some 42) (.binOp .mul 77 (.tmp 40) (.tmp 41) 77) none,
  .mk (some 43) (.move (.tmp 13)) none,
  .mk (some 44) (.binOp .add 77 (.tmp 42) (.tmp 43) 77) none,
  .mk (some 45) (.move (.tmp 12)) none,
  .mk (some 46) (.binOp .shr 77 (.tmp 45) (.const (.int .u64 32)) 56) none,
  .mk (some 47) (.binOp .add 77 (.tmp 44) (.tmp 46) 77) none,
  .mk (some 4) (.assign (.tmp 47)) none]
def r43_11 : List PS := [.mk (some 48) (.move (.tmp 0)) none,
  .mk (some 49) (.move (.tmp 1)) none,
  .mk (some 50) (.binOp .mul 77 (.tmp 48) (.tmp 49) 77) none,
  .mk (some 5) (.assign (.tmp 50)) none]
def c43 : PC := (.seq (.reg false r43_0) (.seq (.reg false r43_1) (.seq (.reg false r43_2) (.seq (.reg false r43_3) (.seq (.reg false r43_4) (.seq (.reg false r43_5) (.seq (.reg false r43_6) (.seq (.reg false r43_7) (.seq (.reg false r43_8) (.seq (.reg false r43_9) (.seq (.reg false r43_10) (.seq (.reg false r43_11) .ret))))))))))))
theorem e43 {args : List PV} {h : Heap} {K : PV → Heap → Prop} (hl : args.length = 2) (s : pwp Try.prog [] c43 (fin Try.prog [.tmp 4, .tmp 5] h K) (slots0 (olds args)) h) : CanP Try.prog 43 args h K :=
  can_of2 (n := 51) mixed Try.func43 rfl (by kernel_rfl) (by rw [hl]; kernel_rfl) rfl (by kernel_rfl) s
/-! ### math.bits.Mul: function 33 -/
def r33_0 : List PS := [.mk (some 4) (.assign (.const (.int .u64 0))) none,
  .mk (some 5) (.assign (.const (.int .u64 0))) none]
def r33_1 : List PS := [.mk (some 11) (.move (.tmp 0)) none,
  .mk (some 12) (.convert 56 74 (.tmp 11)) none,
  .mk (some 13) (.move (.tmp 1)) none,
  .mk (some 14) (.convert 56 74 (.tmp 13)) none,
  .mk (some 15) (.call ⟨(.value (.func 42)), #[(.tmp 12), (.tmp 14)], #[74, 74]⟩) none,
  .mk (some 10) (.move (.tmp 15)) none,
  .mk (some 16) (.extract (.tmp 10) 0) none,
  .mk (some 17) (.extract (.tmp 10) 1) none,
  .mk (some 6) (.assign (.tmp 16)) none,
  .mk (some 7) (.assign (.tmp 17)) none]
def r33_2 : List PS := [.mk (some 18) (.move (.tmp 6)) none,
  .mk (some 19) (.convert 74 56 (.tmp 18)) none,
  .mk (some 20) (.move (.tmp 7)) none,
  .mk (some 21) (.convert 74 56 (.tmp 20)) none,
  .mk (some 4) (.assign (.tmp 19)) none,
  .mk (some 5) (.assign (.tmp 21)) none]
def r33_3 : List PS := [.mk (some 23) (.move (.tmp 0)) none,
  .mk (some 24) (.move (.tmp 1)) none,
  .mk (some 25) (.call ⟨(.value (.func 43)), #[(.tmp 23), (.tmp 24)], #[77, 77]⟩) none,
  .mk (some 22) (.move (.tmp 25)) none,
  .mk (some 26) (.extract (.tmp 22) 0) none,
  .mk (some 27) (.extract (.tmp 22) 1) none,
  .mk (some 8) (.assign (.tmp 26)) none,
  .mk (some 9) (.assign (.tmp 27)) none]
def r33_4 : List PS := [.mk (some 28) (.move (.tmp 8)) none,
  .mk (some 29) (.move (.tmp 9)) none,
  .mk (some 4) (.assign (.tmp 28)) none,
  .mk (some 5) (.assign (.tmp 29)) none]
def c33 : PC := (.seq (.reg false r33_0) (.seq (.cond (.const (.bool false)) (.seq (.reg false r33_1) (.seq (.reg false r33_2) .ret)) .skip) (.seq (.reg false r33_3) (.seq (.reg false r33_4) .ret))))
theorem e33 {args : List PV} {h : Heap} {K : PV → Heap → Prop} (hl : args.length = 2) (s : pwp Try.prog [] c33 (fin Try.prog [.tmp 4, .tmp 5] h K) (slots0 (olds args)) h) : CanP Try.prog 33 args h K :=
  can_of2 (n := 30) mixed Try.func33 rfl (by kernel_rfl) (by rw [hl]; kernel_rfl) rfl (by kernel_rfl) s
/-! ### slices.Repeat[[]int,int]: function 22 -/
def r22_0 : List PS := [.mk (some 4) (.assign (.const (.slice none 0 0))) none]
def r22_1 : List PS := [.mk (some 9) (.move (.tmp 1)) none,
  .mk (some 10) (.binOp .lss 3 (.tmp 9) (.const (.int .i64 0)) 3) none]
def r22_2 : List PS := [.mk (some 11) (.makeInterface 9 (.const (.string ⟨#[99, 97, 110, 110, 111, 116, 32, 98, 101, 32, 110, 101, 103, 97, 116, 105, 118, 101]⟩))) none,
  .mk none (.panic (.tmp 11)) none]
def r22_3 : List PS := [.mk (some 13) (.move (.tmp 0)) none,
  .mk (some 14) (.call ⟨(.builtin .len), #[(.tmp 13)], #[22]⟩) none,
  .mk (some 15) (.convert 3 56 (.tmp 14)) none,
  .mk (some 16) (.move (.tmp 1)) none,
  .mk (some 17) (.convert 3 56 (.tmp 16)) none,
  .mk (some 18) (.call ⟨(.value (.func 33)), #[(.tmp 15), (.tmp 17)], #[56, 56]⟩) none,
  .mk (some 12) (.move (.tmp 18)) none,
  .mk (some 19) (.extract (.tmp 12) 0) none,
  .mk (some 20) (.extract (.tmp 12) 1) none,
  .mk (some 5) (.assign (.tmp 19)) none,
  .mk (some 6) (.assign (.tmp 20)) none]
def r22_4 : List PS := [.mk (some 21) (.move (.tmp 5)) none,
  .mk (some 22) (.binOp .gtr 56 (.tmp 21) (.const (.int .u64 0)) 56) none,
  .mk (some 23) (.move (.tmp 22)) none,
  .mk (some 24) (.move (.tmp 6)) (some (23, false)),
  .mk (some 25) (.binOp .gtr 56 (.tmp 24) (.const (.int .u64 9223372036854775807)) 56) (some (23, false)),
  .mk (some 26) (.pick (.tmp 23) (.const (.bool true)) (.tmp 25)) none]
def r22_5 : List PS := [.mk (some 27) (.makeInterface 9 (.const (.string ⟨#[116, 104, 101, 32, 114, 101, 115, 117, 108, 116, 32, 111, 102, 32, 40, 108, 101, 110, 40, 120, 41, 32, 42, 32, 99, 111, 117, 110, 116, 41, 32, 111, 118, 101, 114, 102, 108, 111, 119, 115]⟩))) none,
  .mk none (.panic (.tmp 27)) none]
def r22_6 : List PS := [.mk (some 28) (.move (.tmp 6)) none,
  .mk (some 29) (.convert 56 3 (.tmp 28)) none,
  .mk (some 30) (.makeSlice 22 (.tmp 29) (.tmp 29)) none,
  .mk (some 7) (.assign (.tmp 30)) none]
def r22_7 : List PS := [.mk (some 31) (.move (.tmp 7)) none,
  .mk (some 32) (.move (.tmp 0)) none,
  .mk (some 33) (.call ⟨(.builtin .copy), #[(.tmp 31), (.tmp 32)], #[22, 22]⟩) none,
  .mk (some 8) (.assign (.tmp 33)) none]
def r22_8 : List PS := [.mk (some 34) (.move (.tmp 8)) none,
  .mk (some 35) (.move (.tmp 7)) none,
  .mk (some 36) (.call ⟨(.builtin .len), #[(.tmp 35)], #[22]⟩) none,
  .mk (some 37) (.binOp .lss 3 (.tmp 34) (.tmp 36) 3) none]
def r22_9 : List PS := [.mk (some 38) (.move (.tmp 8)) none,
  .mk (some 39) (.move (.tmp 7)) none,
  .mk (some 40) (.move (.tmp 8)) none,
  .mk (some 41) (.slice 22 (.tmp 39) (some (.tmp 40)) none none) none,
  .mk (some 42) (.move (.tmp 7)) none,
  .mk (some 43) (.move (.tmp 8)) none,
  .mk (some 44) (.slice 22 (.tmp 42) none (some (.tmp 43)) none) none,
  .mk (some 45) (.call ⟨(.builtin .copy), #[(.tmp 41), (.tmp 44)], #[22, 22]⟩) none,
  .mk (some 46) (.binOp .add 3 (.tmp 38) (.tmp 45) 3) none,
  .mk (some 8) (.assign (.tmp 46)) none]
def r22_10 : List PS := [.mk (some 47) (.move (.tmp 7)) none,
  .mk (some 4) (.assign (.tmp 47)) none]
def c22 : PC := (.seq (.reg false r22_0) (.seq (.seq (.reg false r22_1) (.cond (.tmp 10) (.reg false r22_2) .skip)) (.seq (.reg false r22_3) (.seq (.seq (.reg false r22_4) (.cond (.tmp 26) (.reg false r22_5) .skip)) (.seq (.reg false r22_6) (.seq (.reg false r22_7) (.seq (.block 0 (.loop (.seq (.seq (.reg false r22_8) (.cond (.tmp 37) .skip (.exit 0))) (.block 1 (.reg true r22_9))))) (.seq (.reg false r22_10) .ret))))))))
theorem e22 {args : List PV} {h : Heap} {K : PV → Heap → Prop} (hl : args.length = 2) (s : pwp Try.prog [] c22 (fin Try.prog [.tmp 4] h K) (slots0 (olds args)) h) : CanP Try.prog 22 args h K :=
  can_of2 (n := 48) mixed Try.func22 rfl (by kernel_rfl) (by rw [hl]; kernel_rfl) rfl (by kernel_rfl) s
/-! ### slices.Index[[]int,int]: function 44 -/
def r44_0 : List PS := [.mk (some 4) (.assign (.const (.int .i64 0))) none]
def r44_1 : List PS := [.mk (some 6) (.move (.tmp 0)) none,
  .mk (some 7) (.call ⟨(.builtin .len), #[(.tmp 6)], #[22]⟩) none,
  .mk (some 8) (.move (.const (.int .i64 0))) none]
def r44_2 : List PS := [.mk (some 9) (.binOp .lss 3 (.tmp 8) (.tmp 7) 3) none]
def r44_3 : List PS := [.mk (some 10) (.move (.tmp 8)) none,
  .mk (some 5) (.assign (.tmp 10)) none]
def r44_4 : List PS := [.mk (some 11) (.move (.tmp 1)) none,
  .mk (some 12) (.move (.tmp 0)) none,
  .mk (some 13) (.move (.tmp 5)) none,
  .mk (some 14) (.indexAddr 22 (.tmp 12) (.tmp 13)) none,
  .mk (some 15) (.load 3 (.tmp 14)) none,
  .mk (some 16) (.binOp .eql 3 (.tmp 11) (.tmp 15) 3) none]
def r44_5 : List PS := [.mk (some 17) (.move (.tmp 5)) none,
  .mk (some 4) (.assign (.tmp 17)) none]
def r44_6 : List PS := [.mk (some 18) (.binOp .add 3 (.tmp 8) (.const (.int .i64 1)) 3) none,
  .mk (some 8) (.move (.tmp 18)) none]
def r44_7 : List PS := [.mk (some 4) (.assign (.const (.int .i64 (-1)))) none]
def c44 : PC := (.seq (.reg false r44_0) (.seq (.seq (.reg false r44_1) (.block 0 (.loop (.seq (.reg false r44_2) (.seq (.cond (.tmp 9) .skip (.exit 0)) (.seq (.block 1 (.seq (.reg false r44_3) (.seq (.reg false r44_4) (.cond (.tmp 16) (.seq (.reg false r44_5) .ret) .skip)))) (.reg false r44_6))))))) (.seq (.reg false r44_7) .ret)))
theorem e44 {args : List PV} {h : Heap} {K : PV → Heap → Prop} (hl : args.length = 2) (s : pwp Try.prog [] c44 (fin Try.prog [.tmp 4] h K) (slots0 (olds args)) h) : CanP Try.prog 44 args h K :=
  can_of2 (n := 19) mixed Try.func44 rfl (by kernel_rfl) (by rw [hl]; kernel_rfl) rfl (by kernel_rfl) s
/-! ### slices.Contains[[]int,int]: function 34 -/
def r34_0 : List PS := [.mk (some 4) (.assign (.const (.bool false))) none]
def r34_1 : List PS := [.mk (some 5) (.move (.tmp 0)) none,
  .mk (some 6) (.move (.tmp 1)) none,
  .mk (some 7) (.call ⟨(.value (.func 44)), #[(.tmp 5), (.tmp 6)], #[22, 3]⟩) none,
  .mk (some 8) (.binOp .geq 3 (.tmp 7) (.const (.int .i64 0)) 3) none,
  .mk (some 4) (.assign (.tmp 8)) none]
def c34 : PC := (.seq (.reg false r34_0) (.seq (.reg false r34_1) .ret))
theorem e34 {args : List PV} {h : Heap} {K : PV → Heap → Prop} (hl : args.length = 2) (s : pwp Try.prog [] c34 (fin Try.prog [.tmp 4] h K) (slots0 (olds args)) h) : CanP Try.prog 34 args h K :=
  can_of2 (n := 9) mixed Try.func34 rfl (by kernel_rfl) (by rw [hl]; kernel_rfl) rfl (by kernel_rfl) s
/-! ### naskh.para.opens: function 23 -/
def r23_0 : List PS := [.mk (some 2) (.assign (.const (.bool false))) none]
def r23_1 : List PS := [.mk (some 3) (.buildSlice 22 3 #[(0, (.const (.int .i64 19))), (1, (.const (.int .i64 20))), (2, (.const (.int .i64 21)))]) none,
  .mk (some 4) (.move (.tmp 0)) none,
  .mk (some 5) (.call ⟨(.value (.func 34)), #[(.tmp 3), (.tmp 4)], #[22, 3]⟩) none,
  .mk (some 2) (.assign (.tmp 5)) none]
def c23 : PC := (.seq (.reg false r23_0) (.seq (.reg false r23_1) .ret))
theorem e23 {args : List PV} {h : Heap} {K : PV → Heap → Prop} (hl : args.length = 1) (s : pwp Try.prog [] c23 (fin Try.prog [.tmp 2] h K) (slots0 (olds args)) h) : CanP Try.prog 23 args h K :=
  can_of2 (n := 6) mixed Try.func23 rfl (by kernel_rfl) (by rw [hl]; kernel_rfl) rfl (by kernel_rfl) s
/-! ### naskh.para.Matches: function 8 -/
def r8_0 : List PS := [.mk (some 2) (.assign (.const (.slice none 0 0))) none]
def r8_1 : List PS := [.mk (some 8) (.buildSlice 22 1 #[(0, (.const (.int .i64 (-1))))]) none,
  .mk (some 9) (.move (.tmp 0)) none,
  .mk (some 10) (.call ⟨(.builtin .len), #[(.tmp 9)], #[22]⟩) none,
  .mk (some 11) (.call ⟨(.value (.func 22)), #[(.tmp 8), (.tmp 10)], #[22, 3]⟩) none,
  .mk (some 3) (.assign (.tmp 11)) none]
def r8_2 : List PS := [.mk (some 4) (.assign (.const (.slice none 0 0))) none]
def r8_3 : List PS := [.mk (some 12) (.move (.tmp 0)) none,
  .mk (some 13) (.call ⟨(.builtin .len), #[(.tmp 12)], #[22]⟩) none,
  .mk (some 14) (.move (.const (.int .i64 0))) none]
def r8_4 : List PS := [.mk (some 15) (.binOp .lss 3 (.tmp 14) (.tmp 13) 3) none]
def r8_5 : List PS := [.mk (some 16) (.move (.tmp 14)) none,
  .mk (some 17) (.indexAddr 22 (.tmp 12) (.tmp 14)) none,
  .mk (some 18) (.load 3 (.tmp 17)) none,
  .mk (some 5) (.assign (.tmp 16)) none,
  .mk (some 6) (.assign (.tmp 18)) none]
def r8_6 : List PS := [.mk (some 20) (.move (.tmp 6)) none,
  .mk (some 21) (.call ⟨(.value (.func 23)), #[(.tmp 20)], #[3]⟩) none,
  .mk (some 19) (.assign (.tmp 21)) none]
def r8_7 : List PS := [.mk (some 22) (.move (.tmp 4)) none,
  .mk (some 23) (.move (.tmp 5)) none,
  .mk (some 24) (.buildSlice 22 1 #[(0, (.tmp 23))]) none,
  .mk (some 25) (.call ⟨(.builtin .append), #[(.tmp 22), (.tmp 24)], #[22, 22]⟩) none,
  .mk (some 4) (.assign (.tmp 25)) none]
def r8_8 : List PS := [.mk (some 26) (.move (.tmp 3)) none,
  .mk (some 27) (.move (.tmp 5)) none,
  .mk (some 28) (.move (.tmp 0)) none,
  .mk (some 29) (.call ⟨(.builtin .len), #[(.tmp 28)], #[22]⟩) none,
  .mk (some 30) (.indexAddr 22 (.tmp 26) (.tmp 27)) none,
  .mk none (.store 3 (.tmp 30) (.tmp 29)) none]
def r8_9 : List PS := [.mk (some 32) (.move (.tmp 6)) none,
  .mk (some 33) (.binOp .eql 3 (.tmp 32) (.const (.int .i64 22)) 3) none,
  .mk (some 34) (.move (.tmp 33)) none,
  .mk (some 35) (.move (.tmp 4)) (some (34, true)),
  .mk (some 36) (.call ⟨(.builtin .len), #[(.tmp 35)], #[22]⟩) (some (34, true)),
  .mk (some 37) (.binOp .gtr 3 (.tmp 36) (.const (.int .i64 0)) 3) (some (34, true)),
  .mk (some 38) (.pick (.tmp 34) (.tmp 37) (.const (.bool false))) none,
  .mk (some 31) (.assign (.tmp 38)) none]
def r8_10 : List PS := [.mk (some 39) (.move (.tmp 4)) none,
  .mk (some 40) (.move (.tmp 4)) none,
  .mk (some 41) (.call ⟨(.builtin .len), #[(.tmp 40)], #[22]⟩) none,
  .mk (some 42) (.binOp .sub 3 (.tmp 41) (.const (.int .i64 1)) 3) none,
  .mk (some 43) (.indexAddr 22 (.tmp 39) (.tmp 42)) none,
  .mk (some 44) (.load 3 (.tmp 43)) none,
  .mk (some 7) (.assign (.tmp 44)) none]
def r8_11 : List PS := [.mk (some 45) (.move (.tmp 4)) none,
  .mk (some 46) (.move (.tmp 4)) none,
  .mk (some 47) (.call ⟨(.builtin .len), #[(.tmp 46)], #[22]⟩) none,
  .mk (some 48) (.binOp .sub 3 (.tmp 47) (.const (.int .i64 1)) 3) none,
  .mk (some 49) (.slice 22 (.tmp 45) none (some (.tmp 48)) none) none,
  .mk (some 4) (.assign (.tmp 49)) none]
def r8_12 : List PS := [.mk (some 50) (.move (.tmp 3)) none,
  .mk (some 51) (.move (.tmp 7)) none,
  .mk (some 52) (.move (.tmp 3)) none,
  .mk (some 53) (.move (.tmp 5)) none,
  .mk (some 54) (.move (.tmp 5)) none,
  .mk (some 55) (.move (.tmp 7)) none,
  .mk (some 56) (.indexAddr 22 (.tmp 50) (.tmp 51)) none,
  .mk none (.store 3 (.tmp 56) (.tmp 54)) none,
  .mk (some 57) (.indexAddr 22 (.tmp 52) (.tmp 53)) none,
  .mk none (.store 3 (.tmp 57) (.tmp 55)) none]
def r8_13 : List PS := [.mk (some 58) (.binOp .add 3 (.tmp 14) (.const (.int .i64 1)) 3) none,
  .mk (some 14) (.move (.tmp 58)) none]
def r8_14 : List PS := [.mk (some 59) (.move (.tmp 3)) none,
  .mk (some 2) (.assign (.tmp 59)) none]
def c8 : PC := (.seq (.reg false r8_0) (.seq (.reg false r8_1) (.seq (.reg false r8_2) (.seq (.seq (.reg false r8_3) (.block 0 (.loop (.seq (.reg false r8_4) (.seq (.cond (.tmp 15) .skip (.exit 0)) (.seq (.block 1 (.seq (.reg false r8_5) (.block 2 (.seq (.reg false r8_6) (.cond (.tmp 19) (.seq (.reg false r8_7) (.reg false r8_8)) (.seq (.reg false r8_9) (.cond (.tmp 31) (.seq (.reg false r8_10) (.seq (.reg false r8_11) (.reg false r8_12))) .skip))))))) (.reg false r8_13))))))) (.seq (.reg false r8_14) .ret)))))
theorem e8 {args : List PV} {h : Heap} {K : PV → Heap → Prop} (hl : args.length = 1) (s : pwp Try.prog [] c8 (fin Try.prog [.tmp 2] h K) (slots0 (olds args)) h) : CanP Try.prog 8 args h K :=
  can_of2 (n := 60) mixed Try.func8 rfl (by kernel_rfl) (by rw [hl]; kernel_rfl) rfl (by kernel_rfl) s
/-! ### slices.Equal[[]int,int]: function 9 -/
def r9_0 : List PS := [.mk (some 4) (.assign (.const (.bool false))) none]
def r9_1 : List PS := [.mk (some 6) (.move (.tmp 0)) none,
  .mk (some 7) (.call ⟨(.builtin .len), #[(.tmp 6)], #[22]⟩) none,
  .mk (some 8) (.move (.tmp 1)) none,
  .mk (some 9) (.call ⟨(.builtin .len), #[(.tmp 8)], #[22]⟩) none,
  .mk (some 10) (.binOp .neq 3 (.tmp 7) (.tmp 9) 3) none]
def r9_2 : List PS := [.mk (some 4) (.assign (.const (.bool false))) none]
def r9_3 : List PS := [.mk (some 11) (.move (.tmp 0)) none,
  .mk (some 12) (.call ⟨(.builtin .len), #[(.tmp 11)], #[22]⟩) none,
  .mk (some 13) (.move (.const (.int .i64 0))) none]
def r9_4 : List PS := [.mk (some 14) (.binOp .lss 3 (.tmp 13) (.tmp 12) 3) none]
def r9_5 : List PS := [.mk (some 15) (.move (.tmp 13)) none,
  .mk (some 5) (.assign (.tmp 15)) none]
def r9_6 : List PS := [.mk (some 16) (.move (.tmp 0)) none,
  .mk (some 17) (.move (.tmp 5)) none,
  .mk (some 18) (.indexAddr 22 (.tmp 16) (.tmp 17)) none,
  .mk (some 19) (.load 3 (.tmp 18)) none,
  .mk (some 20) (.move (.tmp 1)) none,
  .mk (some 21) (.move (.tmp 5)) none,
  .mk (some 22) (.indexAddr 22 (.tmp 20) (.tmp 21)) none,
  .mk (some 23) (.load 3 (.tmp 22)) none,
  .mk (some 24) (.binOp .neq 3 (.tmp 19) (.tmp 23) 3) none]
def r9_7 : List PS := [.mk (some 4) (.assign (.const (.bool false))) none]
def r9_8 : List PS := [.mk (some 25) (.binOp .add 3 (.tmp 13) (.const (.int .i64 1)) 3) none,
  .mk (some 13) (.move (.tmp 25)) none]
def r9_9 : List PS := [.mk (some 4) (.assign (.const (.bool true))) none]
def c9 : PC := (.seq (.reg false r9_0) (.seq (.seq (.reg false r9_1) (.cond (.tmp 10) (.seq (.reg false r9_2) .ret) .skip)) (.seq (.seq (.reg false r9_3) (.block 0 (.loop (.seq (.reg false r9_4) (.seq (.cond (.tmp 14) .skip (.exit 0)) (.seq (.block 1 (.seq (.reg false r9_5) (.seq (.reg true r9_6) (.cond (.tmp 24) (.seq (.reg false r9_7) .ret) .skip)))) (.reg false r9_8))))))) (.seq (.reg false r9_9) .ret))))
theorem e9 {args : List PV} {h : Heap} {K : PV → Heap → Prop} (hl : args.length = 2) (s : pwp Try.prog [] c9 (fin Try.prog [.tmp 4] h K) (slots0 (olds args)) h) : CanP Try.prog 9 args h K :=
  can_of2 (n := 26) mixed Try.func9 rfl (by kernel_rfl) (by rw [hl]; kernel_rfl) rfl (by kernel_rfl) s
/-! ### naskh.para.side: function 26 -/
def r26_0 : List PS := [.mk (some 2) (.assign (.const (.int .i64 0))) none,
  .mk (some 3) (.assign (.const (.bool false))) none]
def r26_1 : List PS := [.mk (some 4) (.move (.tmp 0)) none]
def r26_2 : List PS := [.mk (some 6) (.binOp .eql 3 (.tmp 4) (.const (.int .i64 0)) 3) none,
  .mk (some 5) (.assign (.tmp 6)) none]
def r26_3 : List PS := [.mk (some 2) (.assign (.const (.int .i64 0))) none,
  .mk (some 3) (.assign (.const (.bool true))) none]
def r26_4 : List PS := [.mk (some 8) (.binOp .eql 3 (.tmp 4) (.const (.int .i64 1)) 3) none,
  .mk (some 7) (.assign (.tmp 8)) none]
def r26_5 : List PS := [.mk (some 9) (.binOp .eql 3 (.tmp 4) (.const (.int .i64 2)) 3) none,
  .mk (some 7) (.assign (.tmp 9)) none]
def r26_6 : List PS := [.mk (some 2) (.assign (.const (.int .i64 1))) none,
  .mk (some 3) (.assign (.const (.bool true))) none]
def r26_7 : List PS := [.mk (some 2) (.assign (.const (.int .i64 0))) none,
  .mk (some 3) (.assign (.const (.bool false))) none]
def c26 : PC := (.seq (.reg false r26_0) (.seq (.seq (.reg false r26_1) (.block 0 (.seq (.reg false r26_2) (.cond (.tmp 5) (.seq (.reg false r26_3) .ret) (.seq (.seq (.reg false r26_4) (.cond (.tmp 7) .skip (.reg false r26_5))) (.cond (.tmp 7) (.seq (.reg false r26_6) .ret) .skip)))))) (.seq (.reg false r26_7) .ret)))
theorem e26 {args : List PV} {h : Heap} {K : PV → Heap → Prop} (hl : args.length = 1) (s : pwp Try.prog [] c26 (fin Try.prog [.tmp 2, .tmp 3] h K) (slots0 (olds args)) h) : CanP Try.prog 26 args h K :=
  can_of2 (n := 10) mixed Try.func26 rfl (by kernel_rfl) (by rw [hl]; kernel_rfl) rfl (by kernel_rfl) s
/-! ### naskh.para.First: function 13 -/
def r13_0 : List PS := [.mk (some 3) (.box 28 (.tmp 1)) none,
  .mk (some 4) (.assign (.const (.int .i64 0))) none]
def r13_1 : List PS := [.mk (some 12) (.fieldAddr 28 (.tmp 3) 0) none,
  .mk (some 13) (.load 3 (.tmp 12)) none,
  .mk (some 14) (.call ⟨(.builtin .max), #[(.tmp 13), (.const (.int .i64 0))], #[3, 3]⟩) none,
  .mk (some 5) (.assign (.tmp 14)) none]
def r13_2 : List PS := [.mk (some 15) (.fieldAddr 28 (.tmp 3) 1) none,
  .mk (some 16) (.load 3 (.tmp 15)) none,
  .mk (some 17) (.move (.tmp 0)) none,
  .mk (some 18) (.call ⟨(.builtin .len), #[(.tmp 17)], #[22]⟩) none,
  .mk (some 19) (.call ⟨(.builtin .min), #[(.tmp 16), (.tmp 18)], #[3, 3]⟩) none,
  .mk (some 6) (.assign (.tmp 19)) none]
def r13_3 : List PS := [.mk (some 7) (.assign (.const (.int .i64 0))) none]
def r13_4 : List PS := [.mk (some 20) (.move (.tmp 5)) none,
  .mk (some 8) (.assign (.tmp 20)) none]
def r13_5 : List PS := [.mk (some 21) (.move (.tmp 8)) none,
  .mk (some 22) (.move (.tmp 6)) none,
  .mk (some 23) (.binOp .lss 3 (.tmp 21) (.tmp 22) 3) none]
def r13_6 : List PS := [.mk (some 26) (.move (.tmp 0)) none,
  .mk (some 27) (.move (.tmp 8)) none,
  .mk (some 28) (.indexAddr 22 (.tmp 26) (.tmp 27)) none,
  .mk (some 29) (.load 3 (.tmp 28)) none,
  .mk (some 9) (.assign (.tmp 29)) none]
def r13_7 : List PS := [.mk (some 31) (.move (.tmp 9)) none,
  .mk (some 32) (.call ⟨(.value (.func 23)), #[(.tmp 31)], #[3]⟩) none,
  .mk (some 30) (.assign (.tmp 32)) none]
def r13_8 : List PS := [.mk (some 33) (.move (.tmp 7)) none,
  .mk (some 34) (.binOp .add 3 (.tmp 33) (.const (.int .i64 1)) 3) none,
  .mk (some 7) (.assign (.tmp 34)) none]
def r13_9 : List PS := [.mk (some 36) (.move (.tmp 9)) none,
  .mk (some 37) (.binOp .eql 3 (.tmp 36) (.const (.int .i64 22)) 3) none,
  .mk (some 35) (.assign (.tmp 37)) none]
def r13_10 : List PS := [.mk (some 38) (.move (.tmp 7)) none,
  .mk (some 39) (.binOp .sub 3 (.tmp 38) (.const (.int .i64 1)) 3) none,
  .mk (some 40) (.call ⟨(.builtin .max), #[(.tmp 39), (.const (.int .i64 0))], #[3, 3]⟩) none,
  .mk (some 7) (.assign (.tmp 40)) none]
def r13_11 : List PS := [.mk (some 42) (.move (.tmp 9)) none,
  .mk (some 43) (.call ⟨(.value (.func 26)), #[(.tmp 42)], #[3]⟩) none,
  .mk (some 41) (.move (.tmp 43)) none,
  .mk (some 44) (.extract (.tmp 41) 0) none,
  .mk (some 45) (.extract (.tmp 41) 1) none,
  .mk (some 10) (.assign (.tmp 44)) none,
  .mk (some 11) (.assign (.tmp 45)) none]
def r13_12 : List PS := [.mk (some 46) (.move (.tmp 11)) none,
  .mk (some 47) (.move (.tmp 46)) none,
  .mk (some 48) (.move (.tmp 7)) (some (47, true)),
  .mk (some 49) (.binOp .eql 3 (.tmp 48) (.const (.int .i64 0)) 3) (some (47, true)),
  .mk (some 50) (.pick (.tmp 47) (.tmp 49) (.const (.bool false))) none]
def r13_13 : List PS := [.mk (some 51) (.move (.tmp 10)) none,
  .mk (some 4) (.assign (.tmp 51)) none]
def r13_14 : List PS := [.mk (some 24) (.move (.tmp 8)) none,
  .mk (some 25) (.binOp .add 3 (.tmp 24) (.const (.int .i64 1)) 3) none,
  .mk (some 8) (.assign (.tmp 25)) none]
def r13_15 : List PS := [.mk (some 4) (.assign (.const (.int .i64 (-1)))) none]
def c13 : PC := (.seq (.reg false r13_0) (.seq (.reg false r13_1) (.seq (.reg false r13_2) (.seq (.reg false r13_3) (.seq (.seq (.reg false r13_4) (.block 0 (.loop (.seq (.seq (.reg false r13_5) (.cond (.tmp 23) .skip (.exit 0))) (.seq (.block 1 (.seq (.reg false r13_6) (.seq (.block 2 (.seq (.reg false r13_7) (.cond (.tmp 30) (.reg false r13_8) (.seq (.reg false r13_9) (.cond (.tmp 35) (.reg false r13_10) .skip))))) (.seq (.reg false r13_11) (.seq (.reg false r13_12) (.cond (.tmp 50) (.seq (.reg false r13_13) .ret) .skip)))))) (.reg false r13_14)))))) (.seq (.reg false r13_15) .ret))))))
theorem e13 {args : List PV} {h : Heap} {K : PV → Heap → Prop} (hl : args.length = 2) (s : pwp Try.prog [] c13 (fin Try.prog [.tmp 4] h K) (slots0 (olds args)) h) : CanP Try.prog 13 args h K :=
  can_of2 (n := 52) mixed Try.func13 rfl (by kernel_rfl) (by rw [hl]; kernel_rfl) rfl (by kernel_rfl) s
/-! ### naskh.para.Level$1: function 25 -/
def r25_0 : List PS := [.mk (some 3) (.assign (.const (.int .i64 0))) none]
def r25_1 : List PS := [.mk (some 5) (.load 22 (.tmp 1)) none,
  .mk (some 6) (.load 22 (.tmp 1)) none,
  .mk (some 7) (.call ⟨(.builtin .len), #[(.tmp 6)], #[22]⟩) none,
  .mk (some 8) (.build 28 #[(1, (.tmp 7))]) none,
  .mk (some 9) (.call ⟨(.value (.func 13)), #[(.tmp 5), (.tmp 8)], #[22, 28]⟩) none,
  .mk (some 4) (.assign (.tmp 9)) none]
def r25_2 : List PS := [.mk (some 10) (.move (.tmp 4)) none,
  .mk (some 11) (.binOp .geq 3 (.tmp 10) (.const (.int .i64 0)) 3) none]
def r25_3 : List PS := [.mk (some 12) (.move (.tmp 4)) none,
  .mk (some 3) (.assign (.tmp 12)) none]
def r25_4 : List PS := [.mk (some 13) (.move (.tmp 0)) none,
  .mk (some 3) (.assign (.tmp 13)) none]
def c25 : PC := (.seq (.reg false r25_0) (.seq (.seq (.reg false r25_1) (.seq (.reg false r25_2) (.cond (.tmp 11) (.seq (.reg false r25_3) .ret) .skip))) (.seq (.reg false r25_4) .ret)))
theorem e25 {args : List PV} {h : Heap} {K : PV → Heap → Prop} (hl : args.length = 2) (s : pwp Try.prog [] c25 (fin Try.prog [.tmp 3] h K) (slots0 (olds args)) h) : CanP Try.prog 25 args h K :=
  can_of2 (n := 14) mixed Try.func25 rfl (by kernel_rfl) (by rw [hl]; kernel_rfl) rfl (by kernel_rfl) s
/-! ### naskh.para.Level: function 11 -/
def r11_0 : List PS := [.mk (some 2) (.box 22 (.tmp 0)) none,
  .mk (some 4) (.assign (.const (.int .i64 0))) none]
def r11_1 : List PS := [.mk (some 6) (.makeFunc (.func 25) #[] #[(.tmp 2)]) none,
  .mk (some 5) (.assign (.tmp 6)) none]
def r11_2 : List PS := [.mk (some 7) (.move (.tmp 1)) none]
def r11_3 : List PS := [.mk (some 9) (.binOp .eql 3 (.tmp 7) (.const (.int .i64 1)) 3) none,
  .mk (some 8) (.assign (.tmp 9)) none]
def r11_4 : List PS := [.mk (some 4) (.assign (.const (.int .i64 1))) none]
def r11_5 : List PS := [.mk (some 11) (.binOp .eql 3 (.tmp 7) (.const (.int .i64 2)) 3) none,
  .mk (some 10) (.assign (.tmp 11)) none]
def r11_6 : List PS := [.mk (some 12) (.move (.tmp 5)) none,
  .mk (some 13) (.call ⟨(.value (.tmp 12)), #[(.const (.int .i64 0))], #[3]⟩) none,
  .mk (some 4) (.assign (.tmp 13)) none]
def r11_7 : List PS := [.mk (some 15) (.binOp .eql 3 (.tmp 7) (.const (.int .i64 3)) 3) none,
  .mk (some 14) (.assign (.tmp 15)) none]
def r11_8 : List PS := [.mk (some 16) (.move (.tmp 5)) none,
  .mk (some 17) (.call ⟨(.value (.tmp 16)), #[(.const (.int .i64 1))], #[3]⟩) none,
  .mk (some 4) (.assign (.tmp 17)) none]
def r11_9 : List PS := [.mk (some 4) (.assign (.const (.int .i64 0))) none]
def c11 : PC := (.seq (.reg false r11_0) (.seq (.reg false r11_1) (.seq (.seq (.reg false r11_2) (.block 0 (.seq (.reg false r11_3) (.cond (.tmp 8) (.seq (.reg false r11_4) .ret) (.seq (.reg false r11_5) (.cond (.tmp 10) (.seq (.reg false r11_6) .ret) (.seq (.reg false r11_7) (.cond (.tmp 14) (.seq (.reg false r11_8) .ret) .skip)))))))) (.seq (.reg false r11_9) .ret))))
theorem e11 {args : List PV} {h : Heap} {K : PV → Heap → Prop} (hl : args.length = 2) (s : pwp Try.prog [] c11 (fin Try.prog [.tmp 4] h K) (slots0 (olds args)) h) : CanP Try.prog 11 args h K :=
  can_of2 (n := 18) mixed Try.func11 rfl (by kernel_rfl) (by rw [hl]; kernel_rfl) rfl (by kernel_rfl) s
/-! ### naskh.naskhlaw20.awake: function 7 -/
def r7_0 : List PS := [.mk (some 0) (.assign (.const (.bool false))) none]
def r7_1 : List PS := [.mk (some 2) (.buildSlice 22 4 #[(0, (.const (.int .i64 20))), (1, (.const (.int .i64 1))), (2, (.const (.int .i64 22))), (3, (.const (.int .i64 0)))]) none,
  .mk (some 1) (.assign (.tmp 2)) none]
def r7_2 : List PS := [.mk (some 3) (.move (.tmp 1)) none,
  .mk (some 4) (.call ⟨(.value (.func 11)), #[(.tmp 3), (.const (.int .i64 3))], #[22, 3]⟩) none,
  .mk (some 5) (.binOp .eql 3 (.tmp 4) (.const (.int .i64 0)) 3) none,
  .mk (some 6) (.move (.tmp 5)) none,
  .mk (some 7) (.move (.tmp 1)) (some (6, true)),
  .mk (some 8) (.call ⟨(.value (.func 8)), #[(.tmp 7)], #[22]⟩) (some (6, true)),
  .mk (some 9) (.buildSlice 22 4 #[(0, (.const (.int .i64 2))), (1, (.const (.int .i64 (-1)))), (2, (.const (.int .i64 0))), (3, (.const (.int .i64 (-1))))]) (some (6, true)),
  .mk (some 10) (.call ⟨(.value (.func 9)), #[(.tmp 8), (.tmp 9)], #[22, 22]⟩) (some (6, true)),
  .mk (some 11) (.pick (.tmp 6) (.tmp 10) (.const (.bool false))) none,
  .mk (some 12) (.move (.tmp 11)) none,
  .mk (some 13) (.move (.tmp 1)) (some (12, true)),
  .mk (some 14) (.build 28 #[(1, (.const (.int .i64 3)))]) (some (12, true)),
  .mk (some 15) (.call ⟨(.value (.func 13)), #[(.tmp 13), (.tmp 14)], #[22, 28]⟩) (some (12, true)),
  .mk (some 16) (.binOp .eql 3 (.tmp 15) (.const (.int .i64 (-1))) 3) (some (12, true)),
  .mk (some 17) (.pick (.tmp 12) (.tmp 16) (.const (.bool false))) none,
  .mk (some 0) (.assign (.tmp 17)) none]
def c7 : PC := (.seq (.reg false r7_0) (.seq (.reg false r7_1) (.seq (.reg false r7_2) .ret)))
theorem e7 {args : List PV} {h : Heap} {K : PV → Heap → Prop} (hl : args.length = 0) (s : pwp Try.prog [] c7 (fin Try.prog [.tmp 0] h K) (slots0 (olds args)) h) : CanP Try.prog 7 args h K :=
  can_of2 (n := 18) mixed Try.func7 rfl (by kernel_rfl) (by rw [hl]; kernel_rfl) rfl (by kernel_rfl) s
/-! ### naskh.naskhref20.Opens: function 16 -/
def r16_0 : List PS := [.mk (some 2) (.assign (.const (.bool false))) none]
def r16_1 : List PS := [.mk (some 3) (.move (.tmp 0)) none,
  .mk (some 4) (.binOp .eql 3 (.tmp 3) (.const (.int .i64 19)) 3) none,
  .mk (some 5) (.move (.tmp 4)) none,
  .mk (some 6) (.move (.tmp 0)) (some (5, false)),
  .mk (some 7) (.binOp .eql 3 (.tmp 6) (.const (.int .i64 20)) 3) (some (5, false)),
  .mk (some 8) (.pick (.tmp 5) (.const (.bool true)) (.tmp 7)) none,
  .mk (some 9) (.move (.tmp 8)) none,
  .mk (some 10) (.move (.tmp 0)) (some (9, false)),
  .mk (some 11) (.binOp .eql 3 (.tmp 10) (.const (.int .i64 21)) 3) (some (9, false)),
  .mk (some 12) (.pick (.tmp 9) (.const (.bool true)) (.tmp 11)) none,
  .mk (some 2) (.assign (.tmp 12)) none]
def c16 : PC := (.seq (.reg false r16_0) (.seq (.reg false r16_1) .ret))
theorem e16 {args : List PV} {h : Heap} {K : PV → Heap → Prop} (hl : args.length = 1) (s : pwp Try.prog [] c16 (fin Try.prog [.tmp 2] h K) (slots0 (olds args)) h) : CanP Try.prog 16 args h K :=
  can_of2 (n := 13) mixed Try.func16 rfl (by kernel_rfl) (by rw [hl]; kernel_rfl) rfl (by kernel_rfl) s
/-! ### naskh.naskhref20.closes: function 24 -/
def r24_0 : List PS := [.mk (some 4) (.assign (.const (.int .i64 0))) none]
def r24_1 : List PS := [.mk (some 5) (.assign (.const (.int .i64 0))) none]
def r24_2 : List PS := [.mk (some 7) (.move (.tmp 1)) none,
  .mk (some 8) (.binOp .add 3 (.tmp 7) (.const (.int .i64 1)) 3) none,
  .mk (some 6) (.assign (.tmp 8)) none]
def r24_3 : List PS := [.mk (some 9) (.move (.tmp 6)) none,
  .mk (some 10) (.move (.tmp 0)) none,
  .mk (some 11) (.call ⟨(.builtin .len), #[(.tmp 10)], #[22]⟩) none,
  .mk (some 12) (.binOp .lss 3 (.tmp 9) (.tmp 11) 3) none]
def r24_4 : List PS := [.mk (some 16) (.move (.tmp 0)) none,
  .mk (some 17) (.move (.tmp 6)) none,
  .mk (some 18) (.indexAddr 22 (.tmp 16) (.tmp 17)) none,
  .mk (some 19) (.load 3 (.tmp 18)) none,
  .mk (some 20) (.call ⟨(.value (.func 16)), #[(.tmp 19)], #[3]⟩) none,
  .mk (some 15) (.assign (.tmp 20)) none]
def r24_5 : List PS := [.mk (some 21) (.move (.tmp 5)) none,
  .mk (some 22) (.binOp .add 3 (.tmp 21) (.const (.int .i64 1)) 3) none,
  .mk (some 5) (.assign (.tmp 22)) none]
def r24_6 : List PS := [.mk (some 24) (.move (.tmp 0)) none,
  .mk (some 25) (.move (.tmp 6)) none,
  .mk (some 26) (.indexAddr 22 (.tmp 24) (.tmp 25)) none,
  .mk (some 27) (.load 3 (.tmp 26)) none,
  .mk (some 28) (.binOp .eql 3 (.tmp 27) (.const (.int .i64 22)) 3) none,
  .mk (some 29) (.move (.tmp 28)) none,
  .mk (some 30) (.move (.tmp 5)) (some (29, true)),
  .mk (some 31) (.binOp .eql 3 (.tmp 30) (.const (.int .i64 0)) 3) (some (29, true)),
  .mk (some 32) (.pick (.tmp 29) (.tmp 31) (.const (.bool false))) none,
  .mk (some 23) (.assign (.tmp 32)) none]
def r24_7 : List PS := [.mk (some 33) (.move (.tmp 6)) none,
  .mk (some 4) (.assign (.tmp 33)) none]
def r24_8 : List PS := [.mk (some 35) (.move (.tmp 0)) none,
  .mk (some 36) (.move (.tmp 6)) none,
  .mk (some 37) (.indexAddr 22 (.tmp 35) (.tmp 36)) none,
  .mk (some 38) (.load 3 (.tmp 37)) none,
  .mk (some 39) (.binOp .eql 3 (.tmp 38) (.const (.int .i64 22)) 3) none,
  .mk (some 34) (.assign (.tmp 39)) none]
def r24_9 : List PS := [.mk (some 40) (.move (.tmp 5)) none,
  .mk (some 41) (.binOp .sub 3 (.tmp 40) (.const (.int .i64 1)) 3) none,
  .mk (some 5) (.assign (.tmp 41)) none]
def r24_10 : List PS := [.mk (some 13) (.move (.tmp 6)) none,
  .mk (some 14) (.binOp .add 3 (.tmp 13) (.const (.int .i64 1)) 3) none,
  .mk (some 6) (.assign (.tmp 14)) none]
def r24_11 : List PS := [.mk (some 42) (.move (.tmp 0)) none,
  .mk (some 43) (.call ⟨(.builtin .len), #[(.tmp 42)], #[22]⟩) none,
  .mk (some 4) (.assign (.tmp 43)) none]
def c24 : PC := (.seq (.reg false r24_0) (.seq (.reg false r24_1) (.seq (.seq (.reg false r24_2) (.block 0 (.loop (.seq (.seq (.reg false r24_3) (.cond (.tmp 12) .skip (.exit 0))) (.seq (.block 1 (.block 2 (.seq (.reg false r24_4) (.cond (.tmp 15) (.reg false r24_5) (.seq (.reg false r24_6) (.cond (.tmp 23) (.seq (.reg false r24_7) .ret) (.seq (.reg false r24_8) (.cond (.tmp 34) (.reg false r24_9) .skip)))))))) (.reg false r24_10)))))) (.seq (.reg false r24_11) .ret))))
theorem e24 {args : List PV} {h : Heap} {K : PV → Heap → Prop} (hl : args.length = 2) (s : pwp Try.prog [] c24 (fin Try.prog [.tmp 4] h K) (slots0 (olds args)) h) : CanP Try.prog 24 args h K :=
  can_of2 (n := 44) mixed Try.func24 rfl (by kernel_rfl) (by rw [hl]; kernel_rfl) rfl (by kernel_rfl) s
/-! ### naskh.naskhref20.Matches: function 10 -/
def r10_0 : List PS := [.mk (some 2) (.assign (.const (.slice none 0 0))) none]
def r10_1 : List PS := [.mk (some 3) (.assign (.const (.slice none 0 0))) none]
def r10_2 : List PS := [.mk (some 4) (.assign (.const (.int .i64 0))) none]
def r10_3 : List PS := [.mk (some 7) (.move (.tmp 4)) none,
  .mk (some 8) (.move (.tmp 0)) none,
  .mk (some 9) (.call ⟨(.builtin .len), #[(.tmp 8)], #[22]⟩) none,
  .mk (some 10) (.binOp .lss 3 (.tmp 7) (.tmp 9) 3) none]
def r10_4 : List PS := [.mk (some 13) (.move (.tmp 3)) none,
  .mk (some 14) (.buildSlice 22 1 #[(0, (.const (.int .i64 (-1))))]) none,
  .mk (some 15) (.call ⟨(.builtin .append), #[(.tmp 13), (.tmp 14)], #[22, 22]⟩) none,
  .mk (some 3) (.assign (.tmp 15)) none]
def r10_5 : List PS := [.mk (some 11) (.move (.tmp 4)) none,
  .mk (some 12) (.binOp .add 3 (.tmp 11) (.const (.int .i64 1)) 3) none,
  .mk (some 4) (.assign (.tmp 12)) none]
def r10_6 : List PS := [.mk (some 5) (.assign (.const (.int .i64 0))) none]
def r10_7 : List PS := [.mk (some 16) (.move (.tmp 5)) none,
  .mk (some 17) (.move (.tmp 0)) none,
  .mk (some 18) (.call ⟨(.builtin .len), #[(.tmp 17)], #[22]⟩) none,
  .mk (some 19) (.binOp .lss 3 (.tmp 16) (.tmp 18) 3) none]
def r10_8 : List PS := [.mk (some 22) (.move (.tmp 0)) none,
  .mk (some 23) (.move (.tmp 5)) none,
  .mk (some 24) (.indexAddr 22 (.tmp 22) (.tmp 23)) none,
  .mk (some 25) (.load 3 (.tmp 24)) none,
  .mk (some 26) (.call ⟨(.value (.func 16)), #[(.tmp 25)], #[3]⟩) none]
def r10_9 : List PS := [.mk (some 27) (.move (.tmp 0)) none,
  .mk (some 28) (.move (.tmp 5)) none,
  .mk (some 29) (.call ⟨(.value (.func 24)), #[(.tmp 27), (.tmp 28)], #[22, 3]⟩) none,
  .mk (some 6) (.assign (.tmp 29)) none]
def r10_10 : List PS := [.mk (some 30) (.move (.tmp 3)) none,
  .mk (some 31) (.move (.tmp 5)) none,
  .mk (some 32) (.move (.tmp 6)) none,
  .mk (some 33) (.indexAddr 22 (.tmp 30) (.tmp 31)) none,
  .mk none (.store 3 (.tmp 33) (.tmp 32)) none]
def r10_11 : List PS := [.mk (some 34) (.move (.tmp 6)) none,
  .mk (some 35) (.move (.tmp 0)) none,
  .mk (some 36) (.call ⟨(.builtin .len), #[(.tmp 35)], #[22]⟩) none,
  .mk (some 37) (.binOp .lss 3 (.tmp 34) (.tmp 36) 3) none]
def r10_12 : List PS := [.mk (some 38) (.move (.tmp 3)) none,
  .mk (some 39) (.move (.tmp 6)) none,
  .mk (some 40) (.move (.tmp 5)) none,
  .mk (some 41) (.indexAddr 22 (.tmp 38) (.tmp 39)) none,
  .mk none (.store 3 (.tmp 41) (.tmp 40)) none]
def r10_13 : List PS := [.mk (some 20) (.move (.tmp 5)) none,
  .mk (some 21) (.binOp .add 3 (.tmp 20) (.const (.int .i64 1)) 3) none,
  .mk (some 5) (.assign (.tmp 21)) none]
def r10_14 : List PS := [.mk (some 42) (.move (.tmp 3)) none,
  .mk (some 2) (.assign (.tmp 42)) none]
def c10 : PC := (.seq (.reg false r10_0) (.seq (.reg false r10_1) (.seq (.seq (.reg false r10_2) (.block 0 (.loop (.seq (.seq (.reg false r10_3) (.cond (.tmp 10) .skip (.exit 0))) (.seq (.block 1 (.reg false r10_4)) (.reg false r10_5)))))) (.seq (.seq (.reg false r10_6) (.block 2 (.loop (.seq (.seq (.reg false r10_7) (.cond (.tmp 19) .skip (.exit 2))) (.seq (.block 3 (.seq (.reg false r10_8) (.cond (.tmp 26) (.seq (.reg false r10_9) (.seq (.reg false r10_10) (.seq (.reg false r10_11) (.cond (.tmp 37) (.reg false r10_12) .skip)))) .skip))) (.reg false r10_13)))))) (.seq (.reg false r10_14) .ret)))))
theorem e10 {args : List PV} {h : Heap} {K : PV → Heap → Prop} (hl : args.length = 1) (s : pwp Try.prog [] c10 (fin Try.prog [.tmp 2] h K) (slots0 (olds args)) h) : CanP Try.prog 10 args h K :=
  can_of2 (n := 43) mixed Try.func10 rfl (by kernel_rfl) (by rw [hl]; kernel_rfl) rfl (by kernel_rfl) s
/-! ### naskh.naskhlaw20.ParaMatches: function 3 -/
def r3_0 : List PS := [.mk (some 2) (.assign (.const (.bool false))) none]
def r3_1 : List PS := [.mk (some 6) (.move (.tmp 0)) none,
  .mk (some 7) (.call ⟨(.builtin .len), #[(.tmp 6)], #[22]⟩) none,
  .mk (some 8) (.binOp .gtr 3 (.tmp 7) (.const (.int .i64 300)) 3) none]
def r3_2 : List PS := [.mk (some 9) (.call ⟨(.value (.func 7)), #[], #[]⟩) none,
  .mk (some 2) (.assign (.tmp 9)) none]
def r3_3 : List PS := [.mk (some 10) (.move (.tmp 0)) none,
  .mk (some 11) (.call ⟨(.value (.func 8)), #[(.tmp 10)], #[22]⟩) none,
  .mk (some 3) (.assign (.tmp 11)) none]
def r3_4 : List PS := [.mk (some 12) (.move (.tmp 3)) none,
  .mk (some 13) (.move (.tmp 0)) none,
  .mk (some 14) (.call ⟨(.value (.func 10)), #[(.tmp 13)], #[22]⟩) none,
  .mk (some 15) (.call ⟨(.value (.func 9)), #[(.tmp 12), (.tmp 14)], #[22, 22]⟩) none,
  .mk (some 16) (.unOp .not 4 (.tmp 15)) none]
def r3_5 : List PS := [.mk (some 2) (.assign (.const (.bool false))) none]
def r3_6 : List PS := [.mk (some 17) (.move (.tmp 3)) none,
  .mk (some 18) (.call ⟨(.builtin .len), #[(.tmp 17)], #[22]⟩) none,
  .mk (some 19) (.move (.const (.int .i64 0))) none]
def r3_7 : List PS := [.mk (some 20) (.binOp .lss 3 (.tmp 19) (.tmp 18) 3) none]
def r3_8 : List PS := [.mk (some 21) (.move (.tmp 19)) none,
  .mk (some 22) (.indexAddr 22 (.tmp 17) (.tmp 19)) none,
  .mk (some 23) (.load 3 (.tmp 22)) none,
  .mk (some 4) (.assign (.tmp 21)) none,
  .mk (some 5) (.assign (.tmp 23)) none]
def r3_9 : List PS := [.mk (some 24) (.move (.tmp 5)) none,
  .mk (some 25) (.binOp .geq 3 (.tmp 24) (.const (.int .i64 0)) 3) none,
  .mk (some 26) (.move (.tmp 25)) none,
  .mk (some 27) (.move (.tmp 5)) (some (26, true)),
  .mk (some 28) (.move (.tmp 3)) (some (26, true)),
  .mk (some 29) (.call ⟨(.builtin .len), #[(.tmp 28)], #[22]⟩) (some (26, true)),
  .mk (some 30) (.binOp .lss 3 (.tmp 27) (.tmp 29) 3) (some (26, true)),
  .mk (some 31) (.pick (.tmp 26) (.tmp 30) (.const (.bool false))) none,
  .mk (some 32) (.move (.tmp 31)) none,
  .mk (some 33) (.move (.tmp 3)) (some (32, true)),
  .mk (some 34) (.move (.tmp 5)) (some (32, true)),
  .mk (some 35) (.indexAddr 22 (.tmp 33) (.tmp 34)) (some (32, true)),
  .mk (some 36) (.load 3 (.tmp 35)) (some (32, true)),
  .mk (some 37) (.move (.tmp 4)) (some (32, true)),
  .mk (some 38) (.binOp .neq 3 (.tmp 36) (.tmp 37) 3) (some (32, true)),
  .mk (some 39) (.pick (.tmp 32) (.tmp 38) (.const (.bool false))) none]
def r3_10 : List PS := [.mk (some 2) (.assign (.const (.bool false))) none]
def r3_11 : List PS := [.mk (some 40) (.binOp .add 3 (.tmp 19) (.const (.int .i64 1)) 3) none,
  .mk (some 19) (.move (.tmp 40)) none]
def r3_12 : List PS := [.mk (some 41) (.call ⟨(.value (.func 7)), #[], #[]⟩) none,
  .mk (some 2) (.assign (.tmp 41)) none]
def c3 : PC := (.seq (.reg false r3_0) (.seq (.seq (.reg false r3_1) (.cond (.tmp 8) (.seq (.reg false r3_2) .ret) .skip)) (.seq (.reg false r3_3) (.seq (.seq (.reg false r3_4) (.cond (.tmp 16) (.seq (.reg false r3_5) .ret) .skip)) (.seq (.seq (.reg false r3_6) (.block 0 (.loop (.seq (.reg false r3_7) (.seq (.cond (.tmp 20) .skip (.exit 0)) (.seq (.block 1 (.seq (.reg false r3_8) (.seq (.reg false r3_9) (.cond (.tmp 39) (.seq (.reg false r3_10) .ret) .skip)))) (.reg false r3_11))))))) (.seq (.reg false r3_12) .ret))))))
theorem e3 {args : List PV} {h : Heap} {K : PV → Heap → Prop} (hl : args.length = 1) (s : pwp Try.prog [] c3 (fin Try.prog [.tmp 2] h K) (slots0 (olds args)) h) : CanP Try.prog 3 args h K :=
  can_of2 (n := 42) mixed Try.func3 rfl (by kernel_rfl) (by rw [hl]; kernel_rfl) rfl (by kernel_rfl) s
/-! ### naskh.naskhref20.First: function 14 -/
def r14_0 : List PS := [.mk (some 3) (.box 28 (.tmp 1)) none,
  .mk (some 4) (.assign (.const (.int .i64 0))) none]
def r14_1 : List PS := [.mk (some 8) (.fieldAddr 28 (.tmp 3) 0) none,
  .mk (some 9) (.load 3 (.tmp 8)) none,
  .mk (some 10) (.call ⟨(.builtin .max), #[(.tmp 9), (.const (.int .i64 0))], #[3, 3]⟩) none,
  .mk (some 5) (.assign (.tmp 10)) none]
def r14_2 : List PS := [.mk (some 11) (.move (.tmp 5)) none,
  .mk (some 12) (.move (.tmp 0)) none,
  .mk (some 13) (.call ⟨(.builtin .len), #[(.tmp 12)], #[22]⟩) none,
  .mk (some 14) (.binOp .geq 3 (.tmp 11) (.tmp 13) 3) none,
  .mk (some 15) (.move (.tmp 14)) none,
  .mk (some 16) (.fieldAddr 28 (.tmp 3) 1) (some (15, false)),
  .mk (some 17) (.load 3 (.tmp 16)) (some (15, false)),
  .mk (some 18) (.move (.tmp 5)) (some (15, false)),
  .mk (some 19) (.binOp .leq 3 (.tmp 17) (.tmp 18) 3) (some (15, false)),
  .mk (some 20) (.pick (.tmp 15) (.const (.bool true)) (.tmp 19)) none]
def r14_3 : List PS := [.mk (some 4) (.assign (.const (.int .i64 (-1)))) none]
def r14_4 : List PS := [.mk (some 21) (.move (.tmp 0)) none,
  .mk (some 22) (.move (.tmp 5)) none,
  .mk (some 23) (.fieldAddr 28 (.tmp 3) 1) none,
  .mk (some 24) (.load 3 (.tmp 23)) none,
  .mk (some 25) (.move (.tmp 0)) none,
  .mk (some 26) (.call ⟨(.builtin .len), #[(.tmp 25)], #[22]⟩) none,
  .mk (some 27) (.call ⟨(.builtin .min), #[(.tmp 24), (.tmp 26)], #[3, 3]⟩) none,
  .mk (some 28) (.slice 22 (.tmp 21) (some (.tmp 22)) (some (.tmp 27)) none) none,
  .mk (some 6) (.assign (.tmp 28)) none]
def r14_5 : List PS := [.mk (some 7) (.assign (.const (.int .i64 0))) none]
def r14_6 : List PS := [.mk (some 29) (.move (.tmp 7)) none,
  .mk (some 30) (.move (.tmp 6)) none,
  .mk (some 31) (.call ⟨(.builtin .len), #[(.tmp 30)], #[22]⟩) none,
  .mk (some 32) (.binOp .lss 3 (.tmp 29) (.tmp 31) 3) none]
def r14_7 : List PS := [.mk (some 35) (.move (.tmp 6)) none,
  .mk (some 36) (.move (.tmp 7)) none,
  .mk (some 37) (.indexAddr 22 (.tmp 35) (.tmp 36)) none,
  .mk (some 38) (.load 3 (.tmp 37)) none]
def r14_8 : List PS := [.mk (some 40) (.binOp .eql 3 (.tmp 38) (.const (.int .i64 0)) 3) none,
  .mk (some 39) (.assign (.tmp 40)) none]
def r14_9 : List PS := [.mk (some 4) (.assign (.const (.int .i64 0))) none]
def r14_10 : List PS := [.mk (some 42) (.binOp .eql 3 (.tmp 38) (.const (.int .i64 1)) 3) none,
  .mk (some 41) (.assign (.tmp 42)) none]
def r14_11 : List PS := [.mk (some 43) (.binOp .eql 3 (.tmp 38) (.const (.int .i64 2)) 3) none,
  .mk (some 41) (.assign (.tmp 43)) none]
def r14_12 : List PS := [.mk (some 4) (.assign (.const (.int .i64 1))) none]
def r14_13 : List PS := [.mk (some 44) (.move (.tmp 6)) none,
  .mk (some 45) (.move (.tmp 7)) none,
  .mk (some 46) (.indexAddr 22 (.tmp 44) (.tmp 45)) none,
  .mk (some 47) (.load 3 (.tmp 46)) none,
  .mk (some 48) (.call ⟨(.value (.func 16)), #[(.tmp 47)], #[3]⟩) none]
def r14_14 : List PS := [.mk (some 49) (.move (.tmp 6)) none,
  .mk (some 50) (.move (.tmp 7)) none,
  .mk (some 51) (.call ⟨(.value (.func 24)), #[(.tmp 49), (.tmp 50)], #[22, 3]⟩) none,
  .mk (some 7) (.assign (.tmp 51)) none]
def r14_15 : List PS := [.mk (some 33) (.move (.tmp 7)) none,
  .mk (some 34) (.binOp .add 3 (.tmp 33) (.const (.int .i64 1)) 3) none,
  .mk (some 7) (.assign (.tmp 34)) none]
def r14_16 : List PS := [.mk (some 4) (.assign (.const (.int .i64 (-1)))) none]
def c14 : PC := (.seq (.reg false r14_0) (.seq (.reg false r14_1) (.seq (.seq (.reg false r14_2) (.cond (.tmp 20) (.seq (.reg false r14_3) .ret) .skip)) (.seq (.reg false r14_4) (.seq (.seq (.reg false r14_5) (.block 0 (.loop (.seq (.seq (.reg false r14_6) (.cond (.tmp 32) .skip (.exit 0))) (.seq (.block 1 (.seq (.seq (.reg false r14_7) (.block 2 (.seq (.reg false r14_8) (.cond (.tmp 39) (.seq (.reg false r14_9) .ret) (.seq (.seq (.reg false r14_10) (.cond (.tmp 41) .skip (.reg false r14_11))) (.cond (.tmp 41) (.seq (.reg false r14_12) .ret) .skip)))))) (.seq (.reg false r14_13) (.cond (.tmp 48) (.reg false r14_14) .skip)))) (.reg false r14_15)))))) (.seq (.reg false r14_16) .ret))))))
theorem e14 {args : List PV} {h : Heap} {K : PV → Heap → Prop} (hl : args.length = 2) (s : pwp Try.prog [] c14 (fin Try.prog [.tmp 4] h K) (slots0 (olds args)) h) : CanP Try.prog 14 args h K :=
  can_of2 (n := 52) mixed Try.func14 rfl (by kernel_rfl) (by rw [hl]; kernel_rfl) rfl (by kernel_rfl) s
/-! ### naskh.naskhref20.Level: function 12 -/
def r12_0 : List PS := [.mk (some 4) (.assign (.const (.int .i64 0))) none]
def r12_1 : List PS := [.mk (some 6) (.move (.tmp 1)) none,
  .mk (some 7) (.binOp .eql 3 (.tmp 6) (.const (.int .i64 0)) 3) none,
  .mk (some 8) (.move (.tmp 7)) none,
  .mk (some 9) (.move (.tmp 1)) (some (8, false)),
  .mk (some 10) (.binOp .eql 3 (.tmp 9) (.const (.int .i64 1)) 3) (some (8, false)),
  .mk (some 11) (.pick (.tmp 8) (.const (.bool true)) (.tmp 10)) none]
def r12_2 : List PS := [.mk (some 12) (.move (.tmp 1)) none,
  .mk (some 4) (.assign (.tmp 12)) none]
def r12_3 : List PS := [.mk (some 13) (.move (.tmp 1)) none,
  .mk (some 14) (.binOp .neq 3 (.tmp 13) (.const (.int .i64 2)) 3) none,
  .mk (some 15) (.move (.tmp 14)) none,
  .mk (some 16) (.move (.tmp 1)) (some (15, true)),
  .mk (some 17) (.binOp .neq 3 (.tmp 16) (.const (.int .i64 3)) 3) (some (15, true)),
  .mk (some 18) (.pick (.tmp 15) (.tmp 17) (.const (.bool false))) none]
def r12_4 : List PS := [.mk (some 4) (.assign (.const (.int .i64 0))) none]
def r12_5 : List PS := [.mk (some 19) (.move (.tmp 0)) none,
  .mk (some 20) (.move (.tmp 0)) none,
  .mk (some 21) (.call ⟨(.builtin .len), #[(.tmp 20)], #[22]⟩) none,
  .mk (some 22) (.build 28 #[(1, (.tmp 21))]) none,
  .mk (some 23) (.call ⟨(.value (.func 14)), #[(.tmp 19), (.tmp 22)], #[22, 28]⟩) none,
  .mk (some 5) (.assign (.tmp 23)) none]
def r12_6 : List PS := [.mk (some 25) (.move (.tmp 5)) none,
  .mk (some 26) (.binOp .geq 3 (.tmp 25) (.const (.int .i64 0)) 3) none,
  .mk (some 24) (.assign (.tmp 26)) none]
def r12_7 : List PS := [.mk (some 27) (.move (.tmp 5)) none,
  .mk (some 4) (.assign (.tmp 27)) none]
def r12_8 : List PS := [.mk (some 29) (.move (.tmp 1)) none,
  .mk (some 30) (.binOp .eql 3 (.tmp 29) (.const (.int .i64 3)) 3) none,
  .mk (some 28) (.assign (.tmp 30)) none]
def r12_9 : List PS := [.mk (some 4) (.assign (.const (.int .i64 1))) none]
def r12_10 : List PS := [.mk (some 4) (.assign (.const (.int .i64 0))) none]
def c12 : PC := (.seq (.reg false r12_0) (.seq (.seq (.reg false r12_1) (.cond (.tmp 11) (.seq (.reg false r12_2) .ret) .skip)) (.seq (.seq (.reg false r12_3) (.cond (.tmp 18) (.seq (.reg false r12_4) .ret) .skip)) (.seq (.reg false r12_5) (.seq (.block 0 (.seq (.reg false r12_6) (.cond (.tmp 24) (.seq (.reg false r12_7) .ret) (.seq (.reg false r12_8) (.cond (.tmp 28) (.seq (.reg false r12_9) .ret) .skip))))) (.seq (.reg false r12_10) .ret))))))
theorem e12 {args : List PV} {h : Heap} {K : PV → Heap → Prop} (hl : args.length = 2) (s : pwp Try.prog [] c12 (fin Try.prog [.tmp 4] h K) (slots0 (olds args)) h) : CanP Try.prog 12 args h K :=
  can_of2 (n := 31) mixed Try.func12 rfl (by kernel_rfl) (by rw [hl]; kernel_rfl) rfl (by kernel_rfl) s
/-! ### naskh.naskhlaw20.ParaLevels: function 4 -/
def r4_0 : List PS := [.mk (some 5) (.box 28 (.tmp 2)) none,
  .mk (some 6) (.assign (.const (.bool false))) none]
def r4_1 : List PS := [.mk (some 7) (.move (.tmp 0)) none,
  .mk (some 8) (.call ⟨(.builtin .len), #[(.tmp 7)], #[22]⟩) none,
  .mk (some 9) (.binOp .gtr 3 (.tmp 8) (.const (.int .i64 300)) 3) none]
def r4_2 : List PS := [.mk (some 10) (.call ⟨(.value (.func 7)), #[], #[]⟩) none,
  .mk (some 6) (.assign (.tmp 10)) none]
def r4_3 : List PS := [.mk (some 11) (.move (.tmp 0)) none,
  .mk (some 12) (.move (.tmp 1)) none,
  .mk (some 13) (.call ⟨(.value (.func 11)), #[(.tmp 11), (.tmp 12)], #[22, 3]⟩) none,
  .mk (some 14) (.move (.tmp 0)) none,
  .mk (some 15) (.move (.tmp 1)) none,
  .mk (some 16) (.call ⟨(.value (.func 12)), #[(.tmp 14), (.tmp 15)], #[22, 3]⟩) none,
  .mk (some 17) (.binOp .eql 3 (.tmp 13) (.tmp 16) 3) none,
  .mk (some 18) (.move (.tmp 17)) none,
  .mk (some 19) (.move (.tmp 0)) (some (18, true)),
  .mk (some 20) (.load 28 (.tmp 5)) (some (18, true)),
  .mk (some 21) (.call ⟨(.value (.func 13)), #[(.tmp 19), (.tmp 20)], #[22, 28]⟩) (some (18, true)),
  .mk (some 22) (.move (.tmp 0)) (some (18, true)),
  .mk (some 23) (.load 28 (.tmp 5)) (some (18, true)),
  .mk (some 24) (.call ⟨(.value (.func 14)), #[(.tmp 22), (.tmp 23)], #[22, 28]⟩) (some (18, true)),
  .mk (some 25) (.binOp .eql 3 (.tmp 21) (.tmp 24) 3) (some (18, true)),
  .mk (some 26) (.pick (.tmp 18) (.tmp 25) (.const (.bool false))) none,
  .mk (some 27) (.move (.tmp 26)) none,
  .mk (some 28) (.call ⟨(.value (.func 7)), #[], #[]⟩) (some (27, true)),
  .mk (some 29) (.pick (.tmp 27) (.tmp 28) (.const (.bool false))) none,
  .mk (some 6) (.assign (.tmp 29)) none]
def c4 : PC := (.seq (.reg false r4_0) (.seq (.seq (.reg false r4_1) (.cond (.tmp 9) (.seq (.reg false r4_2) .ret) .skip)) (.seq (.reg true r4_3) .ret)))
theorem e4 {args : List PV} {h : Heap} {K : PV → Heap → Prop} (hl : args.length = 3) (s : pwp Try.prog [] c4 (fin Try.prog [.tmp 6] h K) (slots0 (olds args)) h) : CanP Try.prog 4 args h K :=
  can_of2 (n := 30) mixed Try.func4 rfl (by kernel_rfl) (by rw [hl]; kernel_rfl) rfl (by kernel_rfl) s
/-! ### naskh.api.BidiRanges: function 30 -/
def r30_0 : List PS := [.mk (some 0) (.assign (.const (.slice none 0 0))) none]
def r30_1 : List PS := [.mk (some 1) (.build 73 #[(0, (.const (.int .i64 0))), (1, (.const (.int .i64 8))), (2, (.const (.int .i64 9)))]) none,
  .mk (some 2) (.build 73 #[(0, (.const (.int .i64 9))), (1, (.const (.int .i64 9))), (2, (.const (.int .i64 11)))]) none,
  .mk (some 3) (.build 73 #[(0, (.const (.int .i64 10))), (1, (.const (.int .i64 10))), (2, (.const (.int .i64 10)))]) none,
  .mk (some 4) (.build 73 #[(0, (.const (.int .i64 11))), (1, (.const (.int .i64 11))), (2, (.const (.int .i64 11)))]) none,
  .mk (some 5) (.build 73 #[(0, (.const (.int .i64 12))), (1, (.const (.int .i64 12))), (2, (.const (.int .i64 12)))]) none,
  .mk (some 6) (.build 73 #[(0, (.const (.int .i64 13))), (1, (.const (.int .i64 13))), (2, (.const (.int .i64 10)))]) none,
  .mk (some 7) (.build 73 #[(0, (.const (.int .i64 14))), (1, (.const (.int .i64 27))), (2, (.const (.int .i64 9)))]) none,
  .mk (some 8) (.build 73 #[(0, (.const (.int .i64 28))), (1, (.const (.int .i64 30))), (2, (.const (.int .i64 10)))]) none,
  .mk (some 9) (.build 73 #[(0, (.const (.int .i64 31))), (1, (.const (.int .i64 31))), (2, (.const (.int .i64 11)))]) none,
  .mk (some 10) (.build 73 #[(0, (.const (.int .i64 32))), (1, (.const (.int .i64 32))), (2, (.const (.int .i64 12)))]) none,
  .mk (some 11) (.build 73 #[(0, (.const (.int .i64 33))), (1, (.const (.int .i64 34))), (2, (.const (.int .i64 13)))]) none,
  .mk (some 12) (.build 73 #[(0, (.const (.int .i64 35))), (1, (.const (.int .i64 37))), (2, (.const (.int .i64 5)))]) none,
  .mk (some 13) (.build 73 #[(0, (.const (.int .i64 38))), (1, (.const (.int .i64 42))), (2, (.const (.int .i64 13)))]) none,
  .mk (some 14) (.build 73 #[(0, (.const (.int .i64 43))), (1, (.const (.int .i64 43))), (2, (.const (.int .i64 4)))]) none,
  .mk (some 15) (.build 73 #[(0, (.const (.int .i64 44))), (1, (.const (.int .i64 44))), (2, (.const (.int .i64 7)))]) none,
  .mk (some 16) (.build 73 #[(0, (.const (.int .i64 45))), (1, (.const (.int .i64 45))), (2, (.const (.int .i64 4)))]) none,
  .mk (some 17) (.build 73 #[(0, (.const (.int .i64 46))), (1, (.const (.int .i64 47))), (2, (.const (.int .i64 7)))]) none,
  .mk (some 18) (.build 73 #[(0, (.const (.int .i64 48))), (1, (.const (.int .i64 57))), (2, (.const (.int .i64 3)))]) none,
  .mk (some 19) (.build 73 #[(0, (.const (.int .i64 58))), (1, (.const (.int .i64 58))), (2, (.const (.int .i64 7)))]) none,
  .mk (some 20) (.build 73 #[(0, (.const (.int .i64 59))), (1, (.const (.int .i64 64))), (2, (.const (.int .i64 13)))]) none,
  .mk (some 21) (.build 73 #[(0, (.const (.int .i64 91))), (1, (.const (.int .i64 96))), (2, (.const (.int .i64 13)))]) none,
  .mk (some 22) (.build 73 #[(0, (.const (.int .i64 123))), (1, (.const (.int .i64 126))), (2, (.const (.int .i64 13)))]) none,
  .mk (some 23) (.build 73 #[(0, (.const (.int .i64 127))), (1, (.const (.int .i64 132))), (2, (.const (.int .i64 9)))]) none,
  .mk (some 24) (.build 73 #[(0, (.const (.int .i64 133))), (1, (.const (.int .i64 133))), (2, (.const (.int .i64 10)))]) none,
  .mk (some 25) (.build 73 #[(0, (.const (.int .i64 134))), (1, (.const (.int .i64 159))), (2, (.const (.int .i64 9)))]) none,
  .mk (some 26) (.build 73 #[(0, (.const (.int .i64 160))), (1, (.const (.int .i64 160))), (2, (.const (.int .i64 7)))]) none,
  .mk (some 27) (.build 73 #[(0, (.const (.int .i64 161))), (1, (.const (.int .i64 161))), (2, (.const (.int .i64 13)))]) none,
  .mk (some 28) (.build 73 #[(0, (.const (.int .i64 162))), (1, (.const (.int .i64 165))), (2, (.const (.int .i64 5)))]) none,
  .mk (some 29) (.build 73 #[(0, (.const (.int .i64 166))), (1, (.const (.int .i64 169))), (2, (.const (.int .i64 13)))]) none,
  .mk (some 30) (.build 73 #[(0, (.const (.int .i64 171))), (1, (.const (.int .i64 172))), (2, (.const (.int .i64 13)))]) none,
  .mk (some 31) (.build 73 #[(0, (.const (.int .i64 173))), (1, (.const (.int .i64 173))), (2, (.const (.int .i64 9)))]) none,
  .mk (some 32) (.build 73 #[(0, (.const (.int .i64 174))), (1, (.const (.int .i64 175))), (2, (.const (.int .i64 13)))]) none,
  .mk (some 33) (.build 73 #[(0, (.const (.int .i64 176))), (1, (.const (.int .i64 177))), (2, (.const (.int .i64 5)))]) none,
  .mk (some 34) (.build 73 #[(0, (.const (.int .i64 178))), (1, (.const (.int .i64 179))), (2, (.const (.int .i64 3)))]) none,
  .mk (some 35) (.build 73 #[(0, (.const (.int .i64 180))), (1, (.const (.int .i64 180))), (2, (.const (.int .i64 13)))]) none,
  .mk (some 36) (.build 73 #[(0, (.const (.int .i64 182))), (1, (.const (.int .i64 184))), (2, (.const (.int .i64 13)))]) none,
  .mk (some 37) (.build 73 #[(0, (.const (.int .i64 185))), (1, (.const (.int .i64 185))), (2, (.const (.int .i64 3)))]) none,
  .mk (some 38) (.build 73 #[(0, (.const (.int .i64 187))), (1, (.const (.int .i64 191))), (2, (.const (.int .i64 13)))]) none,
  .mk (some 39) (.build 73 #[(0, (.const (.int .i64 215))), (1, (.const (.int .i64 215))), (2, (.const (.int .i64 13)))]) none,
  .mk (some 40) (.build 73 #[(0, (.const (.int .i64 247))), (1, (.const (.int .i64 247))), (2, (.const (.int .i64 13)))]) none,
  .mk (some 41) (.build 73 #[(0, (.const (.int .i64 697))), (1, (.const (.int .i64 698))), (2, (.const (.int .i64 13)))]) none,
  .mk (some 42) (.build 73 #[(0, (.const (.int .i64 706))), (1, (.const (.int .i64 719))), (2, (.const (.int .i64 13)))]) none,
  .mk (some 43) (.build 73 #[(0, (.const (.int .i64 722))), (1, (.const (.int .i64 735))), (2, (.const (.int .i64 13)))]) none,
  .mk (some 44) (.build 73 #[(0, (.const (.int .i64 768))), (1, (.const (.int .i64 879))), (2, (.const (.int .i64 8)))]) none,
  .mk (some 45) (.build 73 #[(0, (.const (.int .i64 1424))), (1, (.const (.int .i64 1424))), (2, (.const (.int .i64 1)))]) none,
  .mk (some 46) (.build 73 #[(0, (.const (.int .i64 1425))), (1, (.const (.int .i64 1469))), (2, (.const (.int .i64 8)))]) none,
  .mk (some 47) (.build 73 #[(0, (.const (.int .i64 1470))), (1, (.const (.int .i64 1470))), (2, (.const (.int .i64 1)))]) none,
  .mk (some 48) (.build 73 #[(0, (.const (.int .i64 1471))), (1, (.const (.int .i64 1471))), (2, (.const (.int .i64 8)))]) none,
  .mk (some 49) (.build 73 #[(0, (.const (.int .i64 1472))), (1, (.const (.int .i64 1472))), (2, (.const (.int .i64 1)))]) none,
  .mk (some 50) (.build 73 #[(0, (.const (.int .i64 1473))), (1, (.const (.int .i64 1474))), (2, (.const (.int .i64 8)))]) none,
  .mk (some 51) (.build 73 #[(0, (.const (.int .i64 1475))), (1, (.const (.int .i64 1475))), (2, (.const (.int .i64 1)))]) none,
  .mk (some 52) (.build 73 #[(0, (.const (.int .i64 1476))), (1, (.const (.int .i64 1477))), (2, (.const (.int .i64 8)))]) none,
  .mk (some 53) (.build 73 #[(0, (.const (.int .i64 1478))), (1, (.const (.int .i64 1478))), (2, (.const (.int .i64 1)))]) none,
  .mk (some 54) (.build 73 #[(0, (.const (.int .i64 1479))), (1, (.const (.int .i64 1479))), (2, (.const (.int .i64 8)))]) none,
  .mk (some 55) (.build 73 #[(0, (.const (.int .i64 1480))), (1, (.const (.int .i64 1535))), (2, (.const (.int .i64 1)))]) none,
  .mk (some 56) (.build 73 #[(0, (.const (.int .i64 1536))), (1, (.const (.int .i64 1541))), (2, (.const (.int .i64 6)))]) none,
  .mk (some 57) (.build 73 #[(0, (.const (.int .i64 1542))), (1, (.const (.int .i64 1543))), (2, (.const (.int .i64 13)))]) none,
  .mk (some 58) (.build 73 #[(0, (.const (.int .i64 1544))), (1, (.const (.int .i64 1544))), (2, (.const (.int .i64 2)))]) none,
  .mk (some 59) (.build 73 #[(0, (.const (.int .i64 1545))), (1, (.const (.int .i64 1546))), (2, (.const (.int .i64 5)))]) none,
  .mk (some 60) (.build 73 #[(0, (.const (.int .i64 1547))), (1, (.const (.int .i64 1547))), (2, (.const (.int .i64 2)))]) none,
  .mk (some 61) (.build 73 #[(0, (.const (.int .i64 1548))), (1, (.const (.int .i64 1548))), (2, (.const (.int .i64 7)))]) none,
  .mk (some 62) (.build 73 #[(0, (.const (.int .i64 1549))), (1, (.const (.int .i64 1549))), (2, (.const (.int .i64 2)))]) none,
  .mk (some 63) (.build 73 #[(0, (.const (.int .i64 1550))), (1, (.const (.int .i64 1551))), (2, (.const (.int .i64 13)))]) none,
  .mk (some 64) (.build 73 #[(0, (.const (.int .i64 1552))), (1, (.const (.int .i64 1562))), (2, (.const (.int .i64 8)))]) none,
  .mk (some 65) (.build 73 #[(0, (.const (.int .i64 1563))), (1, (.const (.int .i64 1610))), (2, (.const (.int .i64 2)))]) none,
  .mk (some 66) (.build 73 #[(0, (.const (.int .i64 1611))), (1, (.const (.int .i64 1631))), (2, (.const (.int .i64 8)))]) none,
  .mk (some 67) (.build 73 #[(0, (.const (.int .i64 1632))), (1, (.const (.int .i64 1641))), (2, (.const (.int .i64 6)))]) none,
  .mk (some 68) (.build 73 #[(0, (.const (.int .i64 1642))), (1, (.const (.int .i64 1642))), (2, (.const (.int .i64 5)))]) none,
  .mk (some 69) (.build 73 #[(0, (.const (.int .i64 1643))), (1, (.const (.int .i64 1644))), (2, (.const (.int .i64 6)))]) none,
  .mk (some 70) (.build 73 #[(0, (.const (.int .i64 1645))), (1, (.const (.int .i64 1647))), (2, (.const (.int .i64 2)))]) none,
  .mk (some 71) (.build 73 #[(0, (.const (.int .i64 1648))), (1, (.const (.int .i64 1648))), (2, (.const (.int .i64 8)))]) none,
  .mk (some 72) (.build 73 #[(0, (.const (.int .i64 1649))), (1, (.const (.int .i64 1749))), (2, (.const (.int .i64 2)))]) none,
  .mk (some 73) (.build 73 #[(0, (.const (.int .i64 1750))), (1, (.const (.int .i64 1756))), (2, (.const (.int .i64 8)))]) none,
  .mk (some 74) (.build 73 #[(0, (.const (.int .i64 1757))), (1, (.const (.int .i64 1757))), (2, (.const (.int .i64 6)))]) none,
  .mk (some 75) (.build 73 #[(0, (.const (.int .i64 1758))), (1, (.const (.int .i64 1758))), (2, (.const (.int .i64 13)))]) none,
  .mk (some 76) (.build 73 #[(0, (.const (.int .i64 1759))), (1, (.const (.int .i64 1764))), (2, (.const (.int .i64 8)))]) none,
  .mk (some 77) (.build 73 #[(0, (.const (.int .i64 1765))), (1, (.const (.int .i64 1766))), (2, (.const (.int .i64 2)))]) none,
  .mk (some 78) (.build 73 #[(0, (.const (.int .i64 1767))), (1, (.const (.int .i64 1768))), (2, (.const (.int .i64 8)))]) none,
  .mk (some 79) (.build 73 #[(0, (.const (.int .i64 1769))), (1, (.const (.int .i64 1769))), (2, (.const (.int .i64 13)))]) none,
  .mk (some 80) (.build 73 #[(0, (.const (.int .i64 1770))), (1, (.const (.int .i64 1773))), (2, (.const (.int .i64 8)))]) none,
  .mk (some 81) (.build 73 #[(0, (.const (.int .i64 1774))), (1, (.const (.int .i64 1775))), (2, (.const (.int .i64 2)))]) none,
  .mk (some 82) (.build 73 #[(0, (.const (.int .i64 1776))), (1, (.const (.int .i64 1785))), (2, (.const (.int .i64 3)))]) none,
  .mk (some 83) (.build 73 #[(0, (.const (.int .i64 1786))), (1, (.const (.int .i64 1808))), (2, (.const (.int .i64 2)))]) none,
  .mk (some 84) (.build 73 #[(0, (.const (.int .i64 1809))), (1, (.const (.int .i64 1809))), (2, (.const (.int .i64 8)))]) none,
  .mk (some 85) (.build 73 #[(0, (.const (.int .i64 1810))), (1, (.const (.int .i64 1839))), (2, (.const (.int .i64 2)))]) none,
  .mk (some 86) (.build 73 #[(0, (.const (.int .i64 1840))), (1, (.const (.int .i64 1866))), (2, (.const (.int .i64 8)))]) none,
  .mk (some 87) (.build 73 #[(0, (.const (.int .i64 1867))), (1, (.const (.int .i64 1957))), (2, (.const (.int .i64 2)))]) none,
  .mk (some 88) (.build 73 #[(0, (.const (.int .i64 1958))), (1, (.const (.int .i64 1968))), (2, (.const (.int .i64 8)))]) none,
  .mk (some 89) (.build 73 #[(0, (.const (.int .i64 1969))), (1, (.const (.int .i64 1983))), (2, (.const (.int .i64 2)))]) none,
  .mk (some 90) (.build 73 #[(0, (.const (.int .i64 1984))), (1, (.const (.int .i64 2026))), (2, (.const (.int .i64 1)))]) none,
  .mk (some 91) (.build 73 #[(0, (.const (.int .i64 2027))), (1, (.const (.int .i64 2035))), (2, (.const (.int .i64 8)))]) none,
  .mk (some 92) (.build 73 #[(0, (.const (.int .i64 2036))), (1, (.const (.int .i64 2037))), (2, (.const (.int .i64 1)))]) none,
  .mk (some 93) (.build 73 #[(0, (.const (.int .i64 2038))), (1, (.const (.int .i64 2041))), (2, (.const (.int .i64 13)))]) none,
  .mk (some 94) (.build 73 #[(0, (.const (.int .i64 2042))), (1, (.const (.int .i64 2044))), (2, (.const (.int .i64 1)))]) none,
  .mk (some 95) (.build 73 #[(0, (.const (.int .i64 2045))), (1, (.const (.int .i64 2045))), (2, (.const (.int .i64 8)))]) none,
  .mk (some 96) (.build 73 #[(0, (.const (.int .i64 2046))), (1, (.const (.int .i64 2069))), (2, (.const (.int .i64 1)))]) none,
  .mk (some 97) (.build 73 #[(0, (.const (.int .i64 2070))), (1, (.const (.int .i64 2073))), (2, (.const (.int .i64 8)))]) none,
  .mk (some 98) (.build 73 #[(0, (.const (.int .i64 2074))), (1, (.const (.int .i64 2074))), (2, (.const (.int .i64 1)))]) none,
  .mk (some 99) (.build 73 #[(0, (.const (.int .i64 2075))), (1, (.const (.int .i64 2083))), (2, (.const (.int .i64 8)))]) none,
  .mk (some 100) (.build 73 #[(0, (.const (.int .i64 2084))), (1, (.const (.int .i64 2084))), (2, (.const (.int .i64 1)))]) none,
  .mk (some 101) (.build 73 #[(0, (.const (.int .i64 2085))), (1, (.const (.int .i64 2087))), (2, (.const (.int .i64 8)))]) none,
  .mk (some 102) (.build 73 #[(0, (.const (.int .i64 2088))), (1, (.const (.int .i64 2088))), (2, (.const (.int .i64 1)))]) none,
  .mk (some 103) (.build 73 #[(0, (.const (.int .i64 2089))), (1, (.const (.int .i64 2093))), (2, (.const (.int .i64 8)))]) none,
  .mk (some 104) (.build 73 #[(0, (.const (.int .i64 2094))), (1, (.const (.int .i64 2136))), (2, (.const (.int .i64 1)))]) none,
  .mk (some 105) (.build 73 #[(0, (.const (.int .i64 2137))), (1, (.const (.int .i64 2139))), (2, (.const (.int .i64 8)))]) none,
  .mk (some 106) (.build 73 #[(0, (.const (.int .i64 2140))), (1, (.const (.int .i64 2143))), (2, (.const (.int .i64 1)))]) none,
  .mk (some 107) (.build 73 #[(0, (.const (.int .i64 2144))), (1, (.const (.int .i64 2191))), (2, (.const (.int .i64 2)))]) none,
  .mk (some 108) (.build 73 #[(0, (.const (.int .i64 2192))), (1, (.const (.int .i64 2193))), (2, (.const (.int .i64 6)))]) none,
  .mk (some 109) (.build 73 #[(0, (.const (.int .i64 2194))), (1, (.const (.int .i64 2199))), (2, (.const (.int .i64 2)))]) none,
  .mk (some 110) (.build 73 #[(0, (.const (.int .i64 2200))), (1, (.const (.int .i64 2207))), (2, (.const (.int .i64 8)))]) none,
  .mk (some 111) (.build 73 #[(0, (.const (.int .i64 2208))), (1, (.const (.int .i64 2249))), (2, (.const (.int .i64 2)))]) none,
  .mk (some 112) (.build 73 #[(0, (.const (.int .i64 2250))), (1, (.const (.int .i64 2273))), (2, (.const (.int .i64 8)))]) none,
  .mk (some 113) (.build 73 #[(0, (.const (.int .i64 2274))), (1, (.const (.int .i64 2274))), (2, (.const (.int .i64 6)))]) none,
  .mk (some 114) (.build 73 #[(0, (.const (.int .i64 2275))), (1, (.const (.int .i64 2306))), (2, (.const (.int .i64 8)))]) none,
  .mk (some 115) (.build 73 #[(0, (.const (.int .i64 8192))), (1, (.const (.int .i64 8202))), (2, (.const (.int .i64 12)))]) none,
  .mk (some 116) (.build 73 #[(0, (.const (.int .i64 8203))), (1, (.const (.int .i64 8205))), (2, (.const (.int .i64 9)))]) none,
  .mk (some 117) (.build 73 #[(0, (.const (.int .i64 8207))), (1, (.const (.int .i64 8207))), (2, (.const (.int .i64 1)))]) none,
  .mk (some 118) (.build 73 #[(0, (.const (.int .i64 8208))), (1, (.const (.int .i64 8231))), (2, (.const (.int .i64 13)))]) none,
  .mk (some 119) (.build 73 #[(0, (.const (.int .i64 8232))), (1, (.const (.int .i64 8232))), (2, (.const (.int .i64 12)))]) none,
  .mk (some 120) (.build 73 #[(0, (.const (.int .i64 8233))), (1, (.const (.int .i64 8233))), (2, (.const (.int .i64 10)))]) none,
  .mk (some 121) (.build 73 #[(0, (.const (.int .i64 8234))), (1, (.const (.int .i64 8234))), (2, (.const (.int .i64 14)))]) none,
  .mk (some 122) (.build 73 #[(0, (.const (.int .i64 8235))), (1, (.const (.int .i64 8235))), (2, (.const (.int .i64 16)))]) none,
  .mk (some 123) (.build 73 #[(0, (.const (.int .i64 8236))), (1, (.const (.int .i64 8236))), (2, (.const (.int .i64 18)))]) none,
  .mk (some 124) (.build 73 #[(0, (.const (.int .i64 8237))), (1, (.const (.int .i64 8237))), (2, (.const (.int .i64 15)))]) none,
  .mk (some 125) (.build 73 #[(0, (.const (.int .i64 8238))), (1, (.const (.int .i64 8238))), (2, (.const (.int .i64 17)))]) none,
  .mk (some 126) (.build 73 #[(0, (.const (.int .i64 8239))), (1, (.const (.int .i64 8239))), (2, (.const (.int .i64 7)))]) none,
  .mk (some 127) (.build 73 #[(0, (.const (.int .i64 8240))), (1, (.const (.int .i64 8244))), (2, (.const (.int .i64 5)))]) none,
  .mk (some 128) (.build 73 #[(0, (.const (.int .i64 8245))), (1, (.const (.int .i64 8259))), (2, (.const (.int .i64 13)))]) none,
  .mk (some 129) (.build 73 #[(0, (.const (.int .i64 8260))), (1, (.const (.int .i64 8260))), (2, (.const (.int .i64 7)))]) none,
  .mk (some 130) (.build 73 #[(0, (.const (.int .i64 8261))), (1, (.const (.int .i64 8286))), (2, (.const (.int .i64 13)))]) none,
  .mk (some 131) (.build 73 #[(0, (.const (.int .i64 8287))), (1, (.const (.int .i64 8287))), (2, (.const (.int .i64 12)))]) none,
  .mk (some 132) (.build 73 #[(0, (.const (.int .i64 8288))), (1, (.const (.int .i64 8293))), (2, (.const (.int .i64 9)))]) none,
  .mk (some 133) (.build 73 #[(0, (.const (.int .i64 8294))), (1, (.const (.int .i64 8294))), (2, (.const (.int .i64 19)))]) none,
  .mk (some 134) (.build 73 #[(0, (.const (.int .i64 8295))), (1, (.const (.int .i64 8295))), (2, (.const (.int .i64 20)))]) none,
  .mk (some 135) (.build 73 #[(0, (.const (.int .i64 8296))), (1, (.const (.int .i64 8296))), (2, (.const (.int .i64 21)))]) none,
  .mk (some 136) (.build 73 #[(0, (.const (.int .i64 8297))), (1, (.const (.int .i64 8297))), (2, (.const (.int .i64 22)))]) none,
  .mk (some 137) (.build 73 #[(0, (.const (.int .i64 8298))), (1, (.const (.int .i64 8303))), (2, (.const (.int .i64 9)))]) none,
  .mk (some 138) (.build 73 #[(0, (.const (.int .i64 8304))), (1, (.const (.int .i64 8304))), (2, (.const (.int .i64 3)))]) none,
  .mk (some 139) (.build 73 #[(0, (.const (.int .i64 8308))), (1, (.const (.int .i64 8313))), (2, (.const (.int .i64 3)))]) none,
  .mk (some 140) (.build 73 #[(0, (.const (.int .i64 8314))), (1, (.const (.int .i64 8315))), (2, (.const (.int .i64 4)))]) none,
  .mk (some 141) (.build 73 #[(0, (.const (.int .i64 8316))), (1, (.const (.int .i64 8318))), (2, (.const (.int .i64 13)))]) none,
  .mk (some 142) (.build 73 #[(0, (.const (.int .i64 8320))), (1, (.const (.int .i64 8329))), (2, (.const (.int .i64 3)))]) none,
  .mk (some 143) (.build 73 #[(0, (.const (.int .i64 8330))), (1, (.const (.int .i64 8331))), (2, (.const (.int .i64 4)))]) none,
  .mk (some 144) (.build 73 #[(0, (.const (.int .i64 8332))), (1, (.const (.int .i64 8334))), (2, (.const (.int .i64 13)))]) none,
  .mk (some 145) (.build 73 #[(0, (.const (.int .i64 8352))), (1, (.const (.int .i64 8399))), (2, (.const (.int .i64 5)))]) none,
  .mk (some 146) (.build 73 #[(0, (.const (.int .i64 8400))), (1, (.const (.int .i64 8432))), (2, (.const (.int .i64 8)))]) none,
  .mk (some 147) (.build 73 #[(0, (.const (.int .i64 8592))), (1, (.const (.int .i64 8721))), (2, (.const (.int .i64 13)))]) none,
  .mk (some 148) (.build 73 #[(0, (.const (.int .i64 8722))), (1, (.const (.int .i64 8722))), (2, (.const (.int .i64 4)))]) none,
  .mk (some 149) (.build 73 #[(0, (.const (.int .i64 8723))), (1, (.const (.int .i64 8723))), (2, (.const (.int .i64 5)))]) none,
  .mk (some 150) (.build 73 #[(0, (.const (.int .i64 8724))), (1, (.const (.int .i64 9013))), (2, (.const (.int .i64 13)))]) none,
  .mk (some 151) (.build 73 #[(0, (.const (.int .i64 9083))), (1, (.const (.int .i64 9108))), (2, (.const (.int .i64 13)))]) none,
  .mk (some 152) (.build 73 #[(0, (.const (.int .i64 9110))), (1, (.const (.int .i64 9254))), (2, (.const (.int .i64 13)))]) none,
  .mk (some 153) (.build 73 #[(0, (.const (.int .i64 9280))), (1, (.const (.int .i64 9290))), (2, (.const (.int .i64 13)))]) none,
  .mk (some 154) (.build 73 #[(0, (.const (.int .i64 9312))), (1, (.const (.int .i64 9351))), (2, (.const (.int .i64 13)))]) none,
  .mk (some 155) (.build 73 #[(0, (.const (.int .i64 9352))), (1, (.const (.int .i64 9371))), (2, (.const (.int .i64 3)))]) none,
  .mk (some 156) (.build 73 #[(0, (.const (.int .i64 9450))), (1, (.const (.int .i64 9899))), (2, (.const (.int .i64 13)))]) none,
  .mk (some 157) (.build 73 #[(0, (.const (.int .i64 9901))), (1, (.const (.int .i64 10239))), (2, (.const (.int .i64 13)))]) none,
  .mk (some 158) (.build 73 #[(0, (.const (.int .i64 10496))), (1, (.const (.int .i64 11123))), (2, (.const (.int .i64 13)))]) none,
  .mk (some 159) (.build 73 #[(0, (.const (.int .i64 11776))), (1, (.const (.int .i64 11869))), (2, (.const (.int .i64 13)))]) none,
  .mk (some 160) (.build 73 #[(0, (.const (.int .i64 12288))), (1, (.const (.int .i64 12288))), (2, (.const (.int .i64 12)))]) none,
  .mk (some 161) (.build 73 #[(0, (.const (.int .i64 12289))), (1, (.const (.int .i64 12292))), (2, (.const (.int .i64 13)))]) none,
  .mk (some 162) (.build 73 #[(0, (.const (.int .i64 12296))), (1, (.const (.int .i64 12320))), (2, (.const (.int .i64 13)))]) none,
  .mk (some 163) (.build 73 #[(0, (.const (.int .i64 12330))), (1, (.const (.int .i64 12333))), (2, (.const (.int .i64 8)))]) none,
  .mk (some 164) (.build 73 #[(0, (.const (.int .i64 12336))), (1, (.const (.int .i64 12336))), (2, (.const (.int .i64 13)))]) none,
  .mk (some 165) (.build 73 #[(0, (.const (.int .i64 64285))), (1, (.const (.int .i64 64285))), (2, (.const (.int .i64 1)))]) none,
  .mk (some 166) (.build 73 #[(0, (.const (.int .i64 64286))), (1, (.const (.int .i64 64286))), (2, (.const (.int .i64 8)))]) none,
  .mk (some 167) (.build 73 #[(0, (.const (.int .i64 64287))), (1, (.const (.int .i64 64296))), (2, (.const (.int .i64 1)))]) none,
  .mk (some 168) (.build 73 #[(0, (.const (.int .i64 64297))), (1, (.const (.int .i64 64297))), (2, (.const (.int .i64 4)))]) none,
  .mk (some 169) (.build 73 #[(0, (.const (.int .i64 64298))), (1, (.const (.int .i64 64335))), (2, (.const (.int .i64 1)))]) none,
  .mk (some 170) (.build 73 #[(0, (.const (.int .i64 64336))), (1, (.const (.int .i64 64829))), (2, (.const (.int .i64 2)))]) none,
  .mk (some 171) (.build 73 #[(0, (.const (.int .i64 64830))), (1, (.const (.int .i64 64847))), (2, (.const (.int .i64 13)))]) none,
  .mk (some 172) (.build 73 #[(0, (.const (.int .i64 64848))), (1, (.const (.int .i64 64974))), (2, (.const (.int .i64 2)))]) none,
  .mk (some 173) (.build 73 #[(0, (.const (.int .i64 64975))), (1, (.const (.int .i64 64975))), (2, (.const (.int .i64 13)))]) none,
  .mk (some 174) (.build 73 #[(0, (.const (.int .i64 64976))), (1, (.const (.int .i64 65007))), (2, (.const (.int .i64 9)))]) none,
  .mk (some 175) (.build 73 #[(0, (.const (.int .i64 65008))), (1, (.const (.int .i64 65020))), (2, (.const (.int .i64 2)))]) none,
  .mk (some 176) (.build 73 #[(0, (.const (.int .i64 65021))), (1, (.const (.int .i64 65023))), (2, (.const (.int .i64 13)))]) none,
  .mk (some 177) (.build 73 #[(0, (.const (.int .i64 65024))), (1, (.const (.int .i64 65039))), (2, (.const (.int .i64 8)))]) none,
  .mk (some 178) (.build 73 #[(0, (.const (.int .i64 65040))), (1, (.const (.int .i64 65049))), (2, (.const (.int .i64 13)))]) none,
  .mk (some 179) (.build 73 #[(0, (.const (.int .i64 65056))), (1, (.const (.int .i64 65071))), (2, (.const (.int .i64 8)))]) none,
  .mk (some 180) (.build 73 #[(0, (.const (.int .i64 65072))), (1, (.const (.int .i64 65103))), (2, (.const (.int .i64 13)))]) none,
  .mk (some 181) (.build 73 #[(0, (.const (.int .i64 65104))), (1, (.const (.int .i64 65104))), (2, (.const (.int .i64 7)))]) none,
  .mk (some 182) (.build 73 #[(0, (.const (.int .i64 65105))), (1, (.const (.int .i64 65105))), (2, (.const (.int .i64 13)))]) none,
  .mk (some 183) (.build 73 #[(0, (.const (.int .i64 65106))), (1, (.const (.int .i64 65106))), (2, (.const (.int .i64 7)))]) none,
  .mk (some 184) (.build 73 #[(0, (.const (.int .i64 65108))), (1, (.const (.int .i64 65108))), (2, (.const (.int .i64 13)))]) none,
  .mk (some 185) (.build 73 #[(0, (.const (.int .i64 65109))), (1, (.const (.int .i64 65109))), (2, (.const (.int .i64 7)))]) none,
  .mk (some 186) (.build 73 #[(0, (.const (.int .i64 65110))), (1, (.const (.int .i64 65118))), (2, (.const (.int .i64 13)))]) none,
  .mk (some 187) (.build 73 #[(0, (.const (.int .i64 65119))), (1, (.const (.int .i64 65119))), (2, (.const (.int .i64 5)))]) none,
  .mk (some 188) (.build 73 #[(0, (.const (.int .i64 65120))), (1, (.const (.int .i64 65121))), (2, (.const (.int .i64 13)))]) none,
  .mk (some 189) (.build 73 #[(0, (.const (.int .i64 65122))), (1, (.const (.int .i64 65123))), (2, (.const (.int .i64 4)))]) none,
  .mk (some 190) (.build 73 #[(0, (.const (.int .i64 65124))), (1, (.const (.int .i64 65126))), (2, (.const (.int .i64 13)))]) none,
  .mk (some 191) (.build 73 #[(0, (.const (.int .i64 65128))), (1, (.const (.int .i64 65128))), (2, (.const (.int .i64 13)))]) none,
  .mk (some 192) (.build 73 #[(0, (.const (.int .i64 65129))), (1, (.const (.int .i64 65130))), (2, (.const (.int .i64 5)))]) none,
  .mk (some 193) (.build 73 #[(0, (.const (.int .i64 65131))), (1, (.const (.int .i64 65131))), (2, (.const (.int .i64 13)))]) none,
  .mk (some 194) (.build 73 #[(0, (.const (.int .i64 65136))), (1, (.const (.int .i64 65278))), (2, (.const (.int .i64 2)))]) none,
  .mk (some 195) (.build 73 #[(0, (.const (.int .i64 65279))), (1, (.const (.int .i64 65279))), (2, (.const (.int .i64 9)))]) none,
  .mk (some 196) (.build 73 #[(0, (.const (.int .i64 65281))), (1, (.const (.int .i64 65282))), (2, (.const (.int .i64 13)))]) none,
  .mk (some 197) (.build 73 #[(0, (.const (.int .i64 65283))), (1, (.const (.int .i64 65285))), (2, (.const (.int .i64 5)))]) none,
  .mk (some 198) (.build 73 #[(0, (.const (.int .i64 65286))), (1, (.const (.int .i64 65290))), (2, (.const (.int .i64 13)))]) none,
  .mk (some 199) (.build 73 #[(0, (.const (.int .i64 65291))), (1, (.const (.int .i64 65291))), (2, (.const (.int .i64 4)))]) none,
  .mk (some 200) (.build 73 #[(0, (.const (.int .i64 65292))), (1, (.const (.int .i64 65292))), (2, (.const (.int .i64 7)))]) none,
  .mk (some 201) (.build 73 #[(0, (.const (.int .i64 65293))), (1, (.const (.int .i64 65293))), (2, (.const (.int .i64 4)))]) none,
  .mk (some 202) (.build 73 #[(0, (.const (.int .i64 65294))), (1, (.const (.int .i64 65295))), (2, (.const (.int .i64 7)))]) none,
  .mk (some 203) (.build 73 #[(0, (.const (.int .i64 65296))), (1, (.const (.int .i64 65305))), (2, (.const (.int .i64 3)))]) none,
  .mk (some 204) (.build 73 #[(0, (.const (.int .i64 65306))), (1, (.const (.int .i64 65306))), (2, (.const (.int .i64 7)))]) none,
  .mk (some 205) (.build 73 #[(0, (.const (.int .i64 65307))), (1, (.const (.int .i64 65312))), (2, (.const (.int .i64 13)))]) none,
  .mk (some 206) (.build 73 #[(0, (.const (.int .i64 65339))), (1, (.const (.int .i64 65344))), (2, (.const (.int .i64 13)))]) none,
  .mk (some 207) (.build 73 #[(0, (.const (.int .i64 65371))), (1, (.const (.int .i64 65381))), (2, (.const (.int .i64 13)))]) none,
  .mk (some 208) (.build 73 #[(0, (.const (.int .i64 65504))), (1, (.const (.int .i64 65505))), (2, (.const (.int .i64 5)))]) none,
  .mk (some 209) (.build 73 #[(0, (.const (.int .i64 65506))), (1, (.const (.int .i64 65508))), (2, (.const (.int .i64 13)))]) none,
  .mk (some 210) (.build 73 #[(0, (.const (.int .i64 65509))), (1, (.const (.int .i64 65510))), (2, (.const (.int .i64 5)))]) none,
  .mk (some 211) (.build 73 #[(0, (.const (.int .i64 65520))), (1, (.const (.int .i64 65528))), (2, (.const (.int .i64 9)))]) none,
  .mk (some 212) (.build 73 #[(0, (.const (.int .i64 65529))), (1, (.const (.int .i64 65533))), (2, (.const (.int .i64 13)))]) none,
  .mk (some 213) (.build 73 #[(0, (.const (.int .i64 65534))), (1, (.const (.int .i64 65535))), (2, (.const (.int .i64 9)))]) none,
  .mk (some 214) (.build 73 #[(0, (.const (.int .i64 67584))), (1, (.const (.int .i64 68863))), (2, (.const (.int .i64 1)))]) none,
  .mk (some 215) (.build 73 #[(0, (.const (.int .i64 68864))), (1, (.const (.int .i64 68927))), (2, (.const (.int .i64 2)))]) none,
  .mk (some 216) (.build 73 #[(0, (.const (.int .i64 68928))), (1, (.const (.int .i64 69631))), (2, (.const (.int .i64 1)))]) none,
  .mk (some 217) (.build 73 #[(0, (.const (.int .i64 120782))), (1, (.const (.int .i64 120831))), (2, (.const (.int .i64 3)))]) none,
  .mk (some 218) (.build 73 #[(0, (.const (.int .i64 124928))), (1, (.const (.int .i64 126063))), (2, (.const (.int .i64 1)))]) none,
  .mk (some 219) (.build 73 #[(0, (.const (.int .i64 126064))), (1, (.const (.int .i64 126143))), (2, (.const (.int .i64 2)))]) none,
  .mk (some 220) (.build 73 #[(0, (.const (.int .i64 126144))), (1, (.const (.int .i64 126207))), (2, (.const (.int .i64 1)))]) none,
  .mk (some 221) (.build 73 #[(0, (.const (.int .i64 126208))), (1, (.const (.int .i64 126287))), (2, (.const (.int .i64 2)))]) none,
  .mk (some 222) (.build 73 #[(0, (.const (.int .i64 126288))), (1, (.const (.int .i64 126463))), (2, (.const (.int .i64 1)))]) none,
  .mk (some 223) (.build 73 #[(0, (.const (.int .i64 126464))), (1, (.const (.int .i64 126719))), (2, (.const (.int .i64 2)))]) none,
  .mk (some 224) (.build 73 #[(0, (.const (.int .i64 126720))), (1, (.const (.int .i64 126975))), (2, (.const (.int .i64 1)))]) none,
  .mk (some 225) (.build 73 #[(0, (.const (.int .i64 126976))), (1, (.const (.int .i64 127231))), (2, (.const (.int .i64 13)))]) none,
  .mk (some 226) (.build 73 #[(0, (.const (.int .i64 127232))), (1, (.const (.int .i64 127242))), (2, (.const (.int .i64 3)))]) none,
  .mk (some 227) (.build 73 #[(0, (.const (.int .i64 127744))), (1, (.const (.int .i64 128727))), (2, (.const (.int .i64 13)))]) none,
  .mk (some 228) (.build 73 #[(0, (.const (.int .i64 917504))), (1, (.const (.int .i64 917759))), (2, (.const (.int .i64 9)))]) none,
  .mk (some 229) (.build 73 #[(0, (.const (.int .i64 917760))), (1, (.const (.int .i64 917999))), (2, (.const (.int .i64 8)))]) none,
  .mk (some 230) (.build 73 #[(0, (.const (.int .i64 918000))), (1, (.const (.int .i64 921599))), (2, (.const (.int .i64 9)))]) none,
  .mk (some 231) (.buildSlice 49 230 #[(0, (.tmp 1)), (1, (.tmp 2)), (2, (.tmp 3)), (3, (.tmp 4)), (4, (.tmp 5)), (5, (.tmp 6)), (6, (.tmp 7)), (7, (.tmp 8)), (8, (.tmp 9)), (9, (.tmp 10)), (10, (.tmp 11)), (11, (.tmp 12)), (12, (.tmp 13)), (13, (.tmp 14)), (14, (.tmp 15)), (15, (.tmp 16)), (16, (.tmp 17)), (17, (.tmp 18)), (18, (.tmp 19)), (19, (.tmp 20)), (20, (.tmp 21)), (21, (.tmp 22)), (22, (.tmp 23)), (23, (.tmp 24)), (24, (.tmp 25)), (25, (.tmp 26)), (26, (.tmp 27)), (27, (.tmp 28)), (28, (.tmp 29)), (29, (.tmp 30)), (30, (.tmp 31)), (31, (.tmp 32)), (32, (.tmp 33)), (33, (.tmp 34)), (34, (.tmp 35)), (35, (.tmp 36)), (36, (.tmp 37)), (37, (.tmp 38)), (38, (.tmp 39)), (39, (.tmp 40)), (40, (.tmp 41)), (41, (.tmp 42)), (42, (.tmp 43)), (43, (.tmp 44)), (44, (.tmp 45)), (45, (.tmp 46)), (46, (.tmp 47)), (47, (.tmp 48)), (48, (.tmp 49)), (49, (.tmp 50)), (50, (.tmp 51)), (51, (.tmp 52)), (52, (.tmp 53)), (53, (.tmp 54)), (54, (.tmp 55)), (55, (.tmp 56)), (56, (.tmp 57)), (57, (.tmp 58)), (58, (.tmp 59)), (59, (.tmp 60)), (60, (.tmp 61)), (61, (.tmp 62)), (62, (.tmp 63)), (63, (.tmp 64)), (64, (.tmp 65)), (65, (.tmp 66)), (66, (.tmp 67)), (67, (.tmp 68)), (68, (.tmp 69)), (69, (.tmp 70)), (70, (.tmp 71)), (71, (.tmp 72)), (72, (.tmp 73)), (73, (.tmp 74)), (74, (.tmp 75)), (75, (.tmp 76)), (76, (.tmp 77)), (77, (.tmp 78)), (78, (.tmp 79)), (79, (.tmp 80)), (80, (.tmp 81)), (81, (.tmp 82)), (82, (.tmp 83)), (83, (.tmp 84)), (84, (.tmp 85)), (85, (.tmp 86)), (86, (.tmp 87)), (87, (.tmp 88)), (88, (.tmp 89)), (89, (.tmp 90)), (90, (.tmp 91)), (91, (.tmp 92)), (92, (.tmp 93)), (93, (.tmp 94)), (94, (.tmp 95)), (95, (.tmp 96)), (96, (.tmp 97)), (97, (.tmp 98)), (98, (.tmp 99)), (99, (.tmp 100)), (100, (.tmp 101)), (101, (.tmp 102)), (102, (.tmp 103)), (103, (.tmp 104)), (104, (.tmp 105)), (105, (.tmp 106)), (106, (.tmp 107)), (107, (.tmp 108)), (108, (.tmp 109)), (109, (.tmp 110)), (110, (.tmp 111)), (111, (.tmp 112)), (112, (.tmp 113)), (113, (.tmp 114)), (114, (.tmp 115)), (115, (.tmp 116)), (116, (.tmp 117)), (117, (.tmp 118)), (118, (.tmp 119)), (119, (.tmp 120)), (120, (.tmp 121)), (121, (.tmp 122)), (122, (.tmp 123)), (123, (.tmp 124)), (124, (.tmp 125)), (125, (.tmp 126)), (126, (.tmp 127)), (127, (.tmp 128)), (128, (.tmp 129)), (129, (.tmp 130)), (130, (.tmp 131)), (131, (.tmp 132)), (132, (.tmp 133)), (133, (.tmp 134)), (134, (.tmp 135)), (135, (.tmp 136)), (136, (.tmp 137)), (137, (.tmp 138)), (138, (.tmp 139)), (139, (.tmp 140)), (140, (.tmp 141)), (141, (.tmp 142)), (142, (.tmp 143)), (143, (.tmp 144)), (144, (.tmp 145)), (145, (.tmp 146)), (146, (.tmp 147)), (147, (.tmp 148)), (148, (.tmp 149)), (149, (.tmp 150)), (150, (.tmp 151)), (151, (.tmp 152)), (152, (.tmp 153)), (153, (.tmp 154)), (154, (.tmp 155)), (155, (.tmp 156)), (156, (.tmp 157)), (157, (.tmp 158)), (158, (.tmp 159)), (159, (.tmp 160)), (160, (.tmp 161)), (161, (.tmp 162)), (162, (.tmp 163)), (163, (.tmp 164)), (164, (.tmp 165)), (165, (.tmp 166)), (166, (.tmp 167)), (167, (.tmp 168)), (168, (.tmp 169)), (169, (.tmp 170)), (170, (.tmp 171)), (171, (.tmp 172)), (172, (.tmp 173)), (173, (.tmp 174)), (174, (.tmp 175)), (175, (.tmp 176)), (176, (.tmp 177)), (177, (.tmp 178)), (178, (.tmp 179)), (179, (.tmp 180)), (180, (.tmp 181)), (181, (.tmp 182)), (182, (.tmp 183)), (183, (.tmp 184)), (184, (.tmp 185)), (185, (.tmp 186)), (186, (.tmp 187)), (187, (.tmp 188)), (188, (.tmp 189)), (189, (.tmp 190)), (190, (.tmp 191)), (191, (.tmp 192)), (192, (.tmp 193)), (193, (.tmp 194)), (194, (.tmp 195)), (195, (.tmp 196)), (196, (.tmp 197)), (197, (.tmp 198)), (198, (.tmp 199)), (199, (.tmp 200)), (200, (.tmp 201)), (201, (.tmp 202)), (202, (.tmp 203)), (203, (.tmp 204)), (204, (.tmp 205)), (205, (.tmp 206)), (206, (.tmp 207)), (207, (.tmp 208)), (208, (.tmp 209)), (209, (.tmp 210)), (210, (.tmp 211)), (211, (.tmp 212)), (212, (.tmp 213)), (213, (.tmp 214)), (214, (.tmp 215)), (215, (.tmp 216)), (216, (.tmp 217)), (217, (.tmp 218)), (218, (.tmp 219)), (219, (.tmp 220)), (220, (.tmp 221)), (221, (.tmp 222)), (222, (.tmp 223)), (223, (.tmp 224)), (224, (.tmp 225)), (225, (.tmp 226)), (226, (.tmp 227)), (227, (.tmp 228)), (228, (.tmp 229)), (229, (.tmp 230))]) none,
  .mk (some 0) (.assign (.tmp 231)) none]
def c30 : PC := (.seq (.reg false r30_0) (.seq (.reg false r30_1) .ret))
theorem e30 {args : List PV} {h : Heap} {K : PV → Heap → Prop} (hl : args.length = 0) (s : pwp Try.prog [] c30 (fin Try.prog [.tmp 0] h K) (slots0 (olds args)) h) : CanP Try.prog 30 args h K :=
  can_of2 (n := 232) mixed Try.func30 rfl (by kernel_rfl) (by rw [hl]; kernel_rfl) rfl (by kernel_rfl) s
/-! ### naskh.naskhref06.Get: function 35 -/
def r35_0 : List PS := [.mk (some 6) (.assign (.const (.int .i64 0))) none]
def r35_1 : List PS := [.mk (some 7) (.assign (.const (.int .i64 0))) none]
def r35_2 : List PS := [.mk (some 8) (.move (.tmp 7)) none,
  .mk (some 9) (.move (.tmp 0)) none,
  .mk (some 10) (.call ⟨(.builtin .len), #[(.tmp 9)], #[49]⟩) none,
  .mk (some 11) (.binOp .lss 3 (.tmp 8) (.tmp 10) 3) none]
def r35_3 : List PS := [.mk (some 14) (.move (.tmp 2)) none,
  .mk (some 15) (.move (.tmp 0)) none,
  .mk (some 16) (.move (.tmp 7)) none,
  .mk (some 17) (.indexAddr 49 (.tmp 15) (.tmp 16)) none,
  .mk (some 18) (.fieldAddr 73 (.tmp 17) 0) none,
  .mk (some 19) (.load 3 (.tmp 18)) none,
  .mk (some 20) (.binOp .geq 3 (.tmp 14) (.tmp 19) 3) none,
  .mk (some 21) (.move (.tmp 20)) none,
  .mk (some 22) (.move (.tmp 2)) (some (21, true)),
  .mk (some 23) (.move (.tmp 0)) (some (21, true)),
  .mk (some 24) (.move (.tmp 7)) (some (21, true)),
  .mk (some 25) (.indexAddr 49 (.tmp 23) (.tmp 24)) (some (21, true)),
  .mk (some 26) (.fieldAddr 73 (.tmp 25) 1) (some (21, true)),
  .mk (some 27) (.load 3 (.tmp 26)) (some (21, true)),
  .mk (some 28) (.binOp .leq 3 (.tmp 22) (.tmp 27) 3) (some (21, true)),
  .mk (some 29) (.pick (.tmp 21) (.tmp 28) (.const (.bool false))) none]
def r35_4 : List PS := [.mk (some 30) (.move (.tmp 0)) none,
  .mk (some 31) (.move (.tmp 7)) none,
  .mk (some 32) (.indexAddr 49 (.tmp 30) (.tmp 31)) none,
  .mk (some 33) (.fieldAddr 73 (.tmp 32) 2) none,
  .mk (some 34) (.load 3 (.tmp 33)) none,
  .mk (some 6) (.assign (.tmp 34)) none]
def r35_5 : List PS := [.mk (some 12) (.move (.tmp 7)) none,
  .mk (some 13) (.binOp .add 3 (.tmp 12) (.const (.int .i64 1)) 3) none,
  .mk (some 7) (.assign (.tmp 13)) none]
def r35_6 : List PS := [.mk (some 35) (.move (.tmp 1)) none,
  .mk (some 6) (.assign (.tmp 35)) none]
def c35 : PC := (.seq (.reg false r35_0) (.seq (.seq (.reg false r35_1) (.block 0 (.loop (.seq (.seq (.reg false r35_2) (.cond (.tmp 11) .skip (.exit 0))) (.seq (.block 1 (.seq (.reg false r35_3) (.cond (.tmp 29) (.seq (.reg false r35_4) .ret) .skip))) (.reg false r35_5)))))) (.seq (.reg false r35_6) .ret)))
theorem e35 {args : List PV} {h : Heap} {K : PV → Heap → Prop} (hl : args.length = 3) (s : pwp Try.prog [] c35 (fin Try.prog [.tmp 6] h K) (slots0 (olds args)) h) : CanP Try.prog 35 args h K :=
  can_of2 (n := 36) mixed Try.func35 rfl (by kernel_rfl) (by rw [hl]; kernel_rfl) rfl (by kernel_rfl) s
/-! ### naskh.naskhref07.Class: function 27 -/
def r27_0 : List PS := [.mk (some 2) (.assign (.const (.int .i64 0))) none]
def r27_1 : List PS := [.mk (some 3) (.move (.tmp 0)) none,
  .mk (some 4) (.binOp .lss 3 (.tmp 3) (.const (.int .i64 0)) 3) none,
  .mk (some 5) (.move (.tmp 4)) none,
  .mk (some 6) (.move (.tmp 0)) (some (5, false)),
  .mk (some 7) (.binOp .gtr 3 (.tmp 6) (.const (.int .i64 1114111)) 3) (some (5, false)),
  .mk (some 8) (.pick (.tmp 5) (.const (.bool true)) (.tmp 7)) none]
def r27_2 : List PS := [.mk (some 2) (.assign (.const (.int .i64 13))) none]
def r27_3 : List PS := [.mk (some 9) (.call ⟨(.value (.func 30)), #[], #[]⟩) none,
  .mk (some 10) (.move (.tmp 0)) none,
  .mk (some 11) (.call ⟨(.value (.func 35)), #[(.tmp 9), (.const (.int .i64 0)), (.tmp 10)], #[49, 3, 3]⟩) none,
  .mk (some 2) (.assign (.tmp 11)) none]
def c27 : PC := (.seq (.reg false r27_0) (.seq (.seq (.reg false r27_1) (.cond (.tmp 8) (.seq (.reg false r27_2) .ret) .skip)) (.seq (.reg false r27_3) .ret)))
theorem e27 {args : List PV} {h : Heap} {K : PV → Heap → Prop} (hl : args.length = 1) (s : pwp Try.prog [] c27 (fin Try.prog [.tmp 2] h K) (slots0 (olds args)) h) : CanP Try.prog 27 args h K :=
  can_of2 (n := 12) mixed Try.func27 rfl (by kernel_rfl) (by rw [hl]; kernel_rfl) rfl (by kernel_rfl) s
/-! ### naskh.naskhref07.Classes: function 15 -/
def r15_0 : List PS := [.mk (some 2) (.assign (.const (.slice none 0 0))) none]
def r15_1 : List PS := [.mk (some 3) (.assign (.const (.slice none 0 0))) none]
def r15_2 : List PS := [.mk (some 4) (.assign (.const (.int .i64 0))) none]
def r15_3 : List PS := [.mk (some 5) (.move (.tmp 4)) none,
  .mk (some 6) (.move (.tmp 0)) none,
  .mk (some 7) (.call ⟨(.builtin .len), #[(.tmp 6)], #[22]⟩) none,
  .mk (some 8) (.binOp .lss 3 (.tmp 5) (.tmp 7) 3) none]
def r15_4 : List PS := [.mk (some 11) (.move (.tmp 3)) none,
  .mk (some 12) (.move (.tmp 0)) none,
  .mk (some 13) (.move (.tmp 4)) none,
  .mk (some 14) (.indexAddr 22 (.tmp 12) (.tmp 13)) none,
  .mk (some 15) (.load 3 (.tmp 14)) none,
  .mk (some 16) (.call ⟨(.value (.func 27)), #[(.tmp 15)], #[3]⟩) none,
  .mk (some 17) (.buildSlice 22 1 #[(0, (.tmp 16))]) none,
  .mk (some 18) (.call ⟨(.builtin .append), #[(.tmp 11), (.tmp 17)], #[22, 22]⟩) none,
  .mk (some 3) (.assign (.tmp 18)) none]
def r15_5 : List PS := [.mk (some 9) (.move (.tmp 4)) none,
  .mk (some 10) (.binOp .add 3 (.tmp 9) (.const (.int .i64 1)) 3) none,
  .mk (some 4) (.assign (.tmp 10)) none]
def r15_6 : List PS := [.mk (some 19) (.move (.tmp 3)) none,
  .mk (some 2) (.assign (.tmp 19)) none]
def c15 : PC := (.seq (.reg false r15_0) (.seq (.reg false r15_1) (.seq (.seq (.reg false r15_2) (.block 0 (.loop (.seq (.seq (.reg false r15_3) (.cond (.tmp 8) .skip (.exit 0))) (.seq (.block 1 (.reg false r15_4)) (.reg false r15_5)))))) (.seq (.reg false r15_6) .ret))))
theorem e15 {args : List PV} {h : Heap} {K : PV → Heap → Prop} (hl : args.length = 1) (s : pwp Try.prog [] c15 (fin Try.prog [.tmp 2] h K) (slots0 (olds args)) h) : CanP Try.prog 15 args h K :=
  can_of2 (n := 20) mixed Try.func15 rfl (by kernel_rfl) (by rw [hl]; kernel_rfl) rfl (by kernel_rfl) s
/-! ### naskh.naskhlaw20.ParaFirst: function 5 -/
def r5_0 : List PS := [.mk (some 6) (.assign (.const (.bool false))) none]
def r5_1 : List PS := [.mk (some 12) (.move (.tmp 0)) none,
  .mk (some 13) (.call ⟨(.builtin .len), #[(.tmp 12)], #[22]⟩) none,
  .mk (some 14) (.binOp .gtr 3 (.tmp 13) (.const (.int .i64 300)) 3) none,
  .mk (some 15) (.move (.tmp 14)) none,
  .mk (some 16) (.move (.tmp 1)) (some (15, false)),
  .mk (some 17) (.call ⟨(.builtin .len), #[(.tmp 16)], #[22]⟩) (some (15, false)),
  .mk (some 18) (.binOp .gtr 3 (.tmp 17) (.const (.int .i64 300)) 3) (some (15, false)),
  .mk (some 19) (.pick (.tmp 15) (.const (.bool true)) (.tmp 18)) none]
def r5_2 : List PS := [.mk (some 20) (.call ⟨(.value (.func 7)), #[], #[]⟩) none,
  .mk (some 6) (.assign (.tmp 20)) none]
def r5_3 : List PS := [.mk (some 7) (.assign (.const (.slice none 0 0))) none]
def r5_4 : List PS := [.mk (some 21) (.move (.tmp 1)) none,
  .mk (some 22) (.call ⟨(.value (.func 15)), #[(.tmp 21)], #[22]⟩) none,
  .mk (some 23) (.call ⟨(.builtin .len), #[(.tmp 22)], #[22]⟩) none,
  .mk (some 24) (.move (.const (.int .i64 0))) none]
def r5_5 : List PS := [.mk (some 25) (.binOp .lss 3 (.tmp 24) (.tmp 23) 3) none]
def r5_6 : List PS := [.mk (some 26) (.indexAddr 22 (.tmp 22) (.tmp 24)) none,
  .mk (some 27) (.load 3 (.tmp 26)) none,
  .mk (some 9) (.assign (.tmp 27)) none]
def r5_7 : List PS := [.mk (some 28) (.move (.tmp 9)) none,
  .mk (some 29) (.binOp .neq 3 (.tmp 28) (.const (.int .i64 0)) 3) none,
  .mk (some 30) (.move (.tmp 29)) none,
  .mk (some 31) (.move (.tmp 9)) (some (30, true)),
  .mk (some 32) (.binOp .neq 3 (.tmp 31) (.const (.int .i64 1)) 3) (some (30, true)),
  .mk (some 33) (.pick (.tmp 30) (.tmp 32) (.const (.bool false))) none,
  .mk (some 34) (.move (.tmp 33)) none,
  .mk (some 35) (.move (.tmp 9)) (some (34, true)),
  .mk (some 36) (.binOp .neq 3 (.tmp 35) (.const (.int .i64 2)) 3) (some (34, true)),
  .mk (some 37) (.pick (.tmp 34) (.tmp 36) (.const (.bool false))) none,
  .mk (some 38) (.move (.tmp 37)) none,
  .mk (some 39) (.move (.tmp 9)) (some (38, true)),
  .mk (some 40) (.call ⟨(.value (.func 16)), #[(.tmp 39)], #[3]⟩) (some (38, true)),
  .mk (some 41) (.unOp .not 4 (.tmp 40)) (some (38, true)),
  .mk (some 42) (.pick (.tmp 38) (.tmp 41) (.const (.bool false))) none]
def r5_8 : List PS := [.mk (some 43) (.move (.tmp 7)) none,
  .mk (some 44) (.move (.tmp 9)) none,
  .mk (some 45) (.buildSlice 22 1 #[(0, (.tmp 44))]) none,
  .mk (some 46) (.call ⟨(.builtin .append), #[(.tmp 43), (.tmp 45)], #[22, 22]⟩) none,
  .mk (some 7) (.assign (.tmp 46)) none]
def r5_9 : List PS := [.mk (some 47) (.binOp .add 3 (.tmp 24) (.const (.int .i64 1)) 3) none,
  .mk (some 24) (.move (.tmp 47)) none]
def r5_10 : List PS := [.mk (some 10) (.assign (.const (.int .i64 0))) none,
  .mk (some 11) (.assign (.const (.int .i64 0))) none]
def r5_11 : List PS := [.mk (some 48) (.move (.tmp 2)) none]
def r5_12 : List PS := [.mk (some 10) (.assign (.const (.int .i64 1))) none,
  .mk (some 11) (.assign (.const (.int .i64 1))) none]
def r5_13 : List PS := [.mk (some 49) (.move (.tmp 7)) none,
  .mk (some 50) (.move (.tmp 10)) none,
  .mk (some 51) (.buildSlice 22 1 #[(0, (.tmp 50))]) none,
  .mk (some 52) (.call ⟨(.builtin .append), #[(.tmp 49), (.tmp 51)], #[22, 22]⟩) none,
  .mk (some 53) (.move (.tmp 0)) none,
  .mk (some 54) (.call ⟨(.value (.func 15)), #[(.tmp 53)], #[22]⟩) none,
  .mk (some 55) (.call ⟨(.builtin .append), #[(.tmp 52), (.tmp 54)], #[22, 22]⟩) none,
  .frz 55,
  .mk (some 7) (.assign (.tmp 55)) none]
def r5_14 : List PS := [.mk (some 56) (.move (.tmp 7)) none,
  .mk (some 57) (.call ⟨(.value (.func 11)), #[(.tmp 56), (.const (.int .i64 2))], #[22, 3]⟩) none,
  .mk (some 58) (.move (.tmp 11)) none,
  .mk (some 59) (.binOp .eql 3 (.tmp 57) (.tmp 58) 3) none,
  .mk (some 60) (.move (.tmp 59)) none,
  .mk (some 61) (.move (.tmp 7)) (some (60, true)),
  .mk (some 62) (.call ⟨(.value (.func 11)), #[(.tmp 61), (.const (.int .i64 3))], #[22, 3]⟩) (some (60, true)),
  .mk (some 63) (.move (.tmp 11)) (some (60, true)),
  .mk (some 64) (.binOp .eql 3 (.tmp 62) (.tmp 63) 3) (some (60, true)),
  .mk (some 65) (.pick (.tmp 60) (.tmp 64) (.const (.bool false))) none,
  .mk (some 66) (.move (.tmp 65)) none,
  .mk (some 67) (.move (.tmp 7)) (some (66, true)),
  .mk (some 68) (.call ⟨(.value (.func 11)), #[(.tmp 67), (.const (.int .i64 1))], #[22, 3]⟩) (some (66, true)),
  .mk (some 69) (.binOp .eql 3 (.tmp 68) (.const (.int .i64 1)) 3) (some (66, true)),
  .mk (some 70) (.pick (.tmp 66) (.tmp 69) (.const (.bool false))) none,
  .mk (some 71) (.move (.tmp 70)) none,
  .mk (some 72) (.call ⟨(.value (.func 7)), #[], #[]⟩) (some (71, true)),
  .mk (some 73) (.pick (.tmp 71) (.tmp 72) (.const (.bool false))) none,
  .mk (some 6) (.assign (.tmp 73)) none]
def c5 : PC := (.seq (.reg false r5_0) (.seq (.seq (.reg false r5_1) (.cond (.tmp 19) (.seq (.reg false r5_2) .ret) .skip)) (.seq (.reg false r5_3) (.seq (.seq (.reg false r5_4) (.block 0 (.loop (.seq (.reg false r5_5) (.seq (.cond (.tmp 25) .skip (.exit 0)) (.seq (.block 1 (.seq (.reg false r5_6) (.seq (.reg false r5_7) (.cond (.tmp 42) (.reg false r5_8) .skip)))) (.reg false r5_9))))))) (.seq (.reg false r5_10) (.seq (.seq (.reg false r5_11) (.cond (.tmp 48) (.reg false r5_12) .skip)) (.seq (.reg false r5_13) (.seq (.reg false r5_14) .ret))))))))
theorem e5 {args : List PV} {h : Heap} {K : PV → Heap → Prop} (hl : args.length = 3) (s : pwp Try.prog [] c5 (fin Try.prog [.tmp 6] h K) (slots0 (olds args)) h) : CanP Try.prog 5 args h K :=
  can_of2 (n := 74) mixed Try.func5 rfl (by kernel_rfl) (by rw [hl]; kernel_rfl) rfl (by kernel_rfl) s
/-! ### (*naskh.props.Props).made: function 36 -/
def r36_0 : List PS := [.mk (some 2) (.assign (.const (.bool false))) none]
def r36_1 : List PS := [.mk (some 3) (.move (.tmp 0)) none,
  .mk (some 4) (.binOp .neq 36 (.tmp 3) (.const (.pointer none)) 36) none,
  .mk (some 5) (.move (.tmp 4)) none,
  .mk (some 6) (.move (.tmp 0)) (some (5, true)),
  .mk (some 7) (.nilCheck (.tmp 6)) (some (5, true)),
  .mk (some 8) (.fieldAddr 54 (.tmp 7) 0) (some (5, true)),
  .mk (some 9) (.fieldAddr 52 (.tmp 8) 0) (some (5, true)),
  .mk (some 10) (.load 45 (.tmp 9)) (some (5, true)),
  .mk (some 11) (.binOp .neq 45 (.tmp 10) (.const (.pointer none)) 45) (some (5, true)),
  .mk (some 12) (.pick (.tmp 5) (.tmp 11) (.const (.bool false))) none,
  .mk (some 2) (.assign (.tmp 12)) none]
def c36 : PC := (.seq (.reg false r36_0) (.seq (.reg false r36_1) .ret))
theorem e36 {args : List PV} {h : Heap} {K : PV → Heap → Prop} (hl : args.length = 1) (s : pwp Try.prog [] c36 (fin Try.prog [.tmp 2] h K) (slots0 (olds args)) h) : CanP Try.prog 36 args h K :=
  can_of2 (n := 13) mixed Try.func36 rfl (by kernel_rfl) (by rw [hl]; kernel_rfl) rfl (by kernel_rfl) s
/-! ### naskh.props.code: function 37 -/
def r37_0 : List PS := [.mk (some 2) (.assign (.const (.bool false))) none]
def r37_1 : List PS := [.mk (some 3) (.move (.tmp 0)) none,
  .mk (some 4) (.binOp .geq 3 (.tmp 3) (.const (.int .i64 0)) 3) none,
  .mk (some 5) (.move (.tmp 4)) none,
  .mk (some 6) (.move (.tmp 0)) (some (5, true)),
  .mk (some 7) (.binOp .leq 3 (.tmp 6) (.const (.int .i64 1114111)) 3) (some (5, true)),
  .mk (some 8) (.pick (.tmp 5) (.tmp 7) (.const (.bool false))) none,
  .mk (some 2) (.assign (.tmp 8)) none]
def c37 : PC := (.seq (.reg false r37_0) (.seq (.reg false r37_1) .ret))
theorem e37 {args : List PV} {h : Heap} {K : PV → Heap → Prop} (hl : args.length = 1) (s : pwp Try.prog [] c37 (fin Try.prog [.tmp 2] h K) (slots0 (olds args)) h) : CanP Try.prog 37 args h K :=
  can_of2 (n := 9) mixed Try.func37 rfl (by kernel_rfl) (by rw [hl]; kernel_rfl) rfl (by kernel_rfl) s
/-! ### (*naskh.trie.Table).has: function 45 -/
def r45_0 : List PS := [.mk (some 4) (.assign (.const (.bool false))) none]
def r45_1 : List PS := [.mk (some 5) (.move (.tmp 0)) none,
  .mk (some 6) (.binOp .neq 45 (.tmp 5) (.const (.pointer none)) 45) none,
  .mk (some 7) (.move (.tmp 6)) none,
  .mk (some 8) (.move (.tmp 0)) (some (7, true)),
  .mk (some 9) (.nilCheck (.tmp 8)) (some (7, true)),
  .mk (some 10) (.fieldAddr 66 (.tmp 9) 2) (some (7, true)),
  .mk (some 11) (.load 4 (.tmp 10)) (some (7, true)),
  .mk (some 12) (.pick (.tmp 7) (.tmp 11) (.const (.bool false))) none,
  .mk (some 13) (.move (.tmp 12)) none,
  .mk (some 14) (.move (.tmp 1)) (some (13, true)),
  .mk (some 15) (.binOp .geq 3 (.tmp 14) (.const (.int .i64 0)) 3) (some (13, true)),
  .mk (some 16) (.pick (.tmp 13) (.tmp 15) (.const (.bool false))) none,
  .mk (some 17) (.move (.tmp 16)) none,
  .mk (some 18) (.move (.tmp 1)) (some (17, true)),
  .mk (some 19) (.binOp .leq 3 (.tmp 18) (.const (.int .i64 1114111)) 3) (some (17, true)),
  .mk (some 20) (.pick (.tmp 17) (.tmp 19) (.const (.bool false))) none,
  .mk (some 4) (.assign (.tmp 20)) none]
def c45 : PC := (.seq (.reg false r45_0) (.seq (.reg false r45_1) .ret))
theorem e45 {args : List PV} {h : Heap} {K : PV → Heap → Prop} (hl : args.length = 2) (s : pwp Try.prog [] c45 (fin Try.prog [.tmp 4] h K) (slots0 (olds args)) h) : CanP Try.prog 45 args h K :=
  can_of2 (n := 21) mixed Try.func45 rfl (by kernel_rfl) (by rw [hl]; kernel_rfl) rfl (by kernel_rfl) s
/-! ### (*naskh.trie.stages).at: function 46 -/
def r46_0 : List PS := [.mk (some 4) (.assign (.const (.int .i64 0))) none]
def r46_1 : List PS := [.mk (some 5) (.move (.tmp 0)) none,
  .mk (some 6) (.nilCheck (.tmp 5)) none,
  .mk (some 7) (.fieldAddr 64 (.tmp 6) 1) none,
  .mk (some 8) (.load 62 (.tmp 7)) none,
  .mk (some 9) (.move (.tmp 0)) none,
  .mk (some 10) (.nilCheck (.tmp 9)) none,
  .mk (some 11) (.fieldAddr 64 (.tmp 10) 0) none,
  .mk (some 12) (.load 22 (.tmp 11)) none,
  .mk (some 13) (.move (.tmp 1)) none,
  .mk (some 14) (.binOp .shr 3 (.tmp 13) (.const (.int .u64 7)) 56) none,
  .mk (some 15) (.indexAddr 22 (.tmp 12) (.tmp 14)) none,
  .mk (some 16) (.load 3 (.tmp 15)) none,
  .mk (some 17) (.move (.tmp 1)) none,
  .mk (some 18) (.binOp .and 3 (.tmp 17) (.const (.int .i64 127)) 3) none,
  .mk (some 19) (.indexAddr 62 (.tmp 8) (.tmp 16)) none,
  .mk (some 20) (.indexAddr 68 (.tmp 19) (.tmp 18)) none,
  .mk (some 21) (.load 3 (.tmp 20)) none,
  .mk (some 4) (.assign (.tmp 21)) none]
def c46 : PC := (.seq (.reg false r46_0) (.seq (.reg true r46_1) .ret))
theorem e46 {args : List PV} {h : Heap} {K : PV → Heap → Prop} (hl : args.length = 2) (s : pwp Try.prog [] c46 (fin Try.prog [.tmp 4] h K) (slots0 (olds args)) h) : CanP Try.prog 46 args h K :=
  can_of2 (n := 22) mixed Try.func46 rfl (by kernel_rfl) (by rw [hl]; kernel_rfl) rfl (by kernel_rfl) s
/-! ### (*naskh.trie.Table).Get: function 38 -/
def r38_0 : List PS := [.mk (some 4) (.assign (.const (.int .i64 0))) none]
def r38_1 : List PS := [.mk (some 6) (.move (.tmp 0)) none,
  .mk (some 7) (.move (.tmp 1)) none,
  .mk (some 8) (.call ⟨(.value (.func 45)), #[(.tmp 6), (.tmp 7)], #[45, 3]⟩) none,
  .mk (some 5) (.assign (.tmp 8)) none]
def r38_2 : List PS := [.mk (some 9) (.move (.tmp 0)) none,
  .mk (some 10) (.nilCheck (.tmp 9)) none,
  .mk (some 11) (.fieldAddr 66 (.tmp 10) 0) none,
  .mk (some 12) (.move (.tmp 1)) none,
  .mk (some 13) (.call ⟨(.value (.func 46)), #[(.tmp 11), (.tmp 12)], #[64, 3]⟩) none,
  .mk (some 4) (.assign (.tmp 13)) none]
def r38_3 : List PS := [.mk (some 15) (.move (.tmp 0)) none,
  .mk (some 16) (.binOp .eql 45 (.tmp 15) (.const (.pointer none)) 45) none,
  .mk (some 14) (.assign (.tmp 16)) none]
def r38_4 : List PS := [.mk (some 4) (.assign (.const (.int .i64 0))) none]
def r38_5 : List PS := [.mk (some 17) (.move (.tmp 0)) none,
  .mk (some 18) (.nilCheck (.tmp 17)) none,
  .mk (some 19) (.fieldAddr 66 (.tmp 18) 1) none,
  .mk (some 20) (.load 3 (.tmp 19)) none,
  .mk (some 4) (.assign (.tmp 20)) none]
def c38 : PC := (.seq (.reg false r38_0) (.seq (.block 0 (.seq (.reg false r38_1) (.cond (.tmp 5) (.seq (.reg false r38_2) .ret) (.seq (.reg false r38_3) (.cond (.tmp 14) (.seq (.reg false r38_4) .ret) .skip))))) (.seq (.reg false r38_5) .ret)))
theorem e38 {args : List PV} {h : Heap} {K : PV → Heap → Prop} (hl : args.length = 2) (s : pwp Try.prog [] c38 (fin Try.prog [.tmp 4] h K) (slots0 (olds args)) h) : CanP Try.prog 38 args h K :=
  can_of2 (n := 21) mixed Try.func38 rfl (by kernel_rfl) (by rw [hl]; kernel_rfl) rfl (by kernel_rfl) s
/-! ### (*naskh.props.Props).Class: function 28 -/
def r28_0 : List PS := [.mk (some 4) (.assign (.const (.int .i64 0))) none]
def r28_1 : List PS := [.mk (some 5) (.move (.tmp 0)) none,
  .mk (some 6) (.call ⟨(.value (.func 36)), #[(.tmp 5)], #[36]⟩) none,
  .mk (some 7) (.unOp .not 4 (.tmp 6)) none,
  .mk (some 8) (.move (.tmp 7)) none,
  .mk (some 9) (.move (.tmp 1)) (some (8, false)),
  .mk (some 10) (.call ⟨(.value (.func 37)), #[(.tmp 9)], #[3]⟩) (some (8, false)),
  .mk (some 11) (.unOp .not 4 (.tmp 10)) (some (8, false)),
  .mk (some 12) (.pick (.tmp 8) (.const (.bool true)) (.tmp 11)) none]
def r28_2 : List PS := [.mk (some 4) (.assign (.const (.int .i64 13))) none]
def r28_3 : List PS := [.mk (some 13) (.move (.tmp 0)) none,
  .mk (some 14) (.nilCheck (.tmp 13)) none,
  .mk (some 15) (.fieldAddr 54 (.tmp 14) 0) none,
  .mk (some 16) (.fieldAddr 52 (.tmp 15) 0) none,
  .mk (some 17) (.load 45 (.tmp 16)) none,
  .mk (some 18) (.move (.tmp 1)) none,
  .mk (some 19) (.call ⟨(.value (.func 38)), #[(.tmp 17), (.tmp 18)], #[45, 3]⟩) none,
  .mk (some 4) (.assign (.tmp 19)) none]
def c28 : PC := (.seq (.reg false r28_0) (.seq (.seq (.reg false r28_1) (.cond (.tmp 12) (.seq (.reg false r28_2) .ret) .skip)) (.seq (.reg false r28_3) .ret)))
theorem e28 {args : List PV} {h : Heap} {K : PV → Heap → Prop} (hl : args.length = 2) (s : pwp Try.prog [] c28 (fin Try.prog [.tmp 4] h K) (slots0 (olds args)) h) : CanP Try.prog 28 args h K :=
  can_of2 (n := 20) mixed Try.func28 rfl (by kernel_rfl) (by rw [hl]; kernel_rfl) rfl (by kernel_rfl) s
/-! ### naskh.para.Split: function 17 -/
def r17_0 : List PS := [.mk (some 4) (.assign (.const (.slice none 0 0))) none]
def r17_1 : List PS := [.mk (some 5) (.assign (.const (.slice none 0 0))) none]
def r17_2 : List PS := [.mk (some 10) (.build 28 #[]) none,
  .mk (some 6) (.alloc 28) none,
  .mk none (.store 28 (.tmp 6) (.tmp 10)) none]
def r17_3 : List PS := [.mk (some 11) (.move (.tmp 1)) none,
  .mk (some 12) (.call ⟨(.builtin .len), #[(.tmp 11)], #[22]⟩) none,
  .mk (some 13) (.move (.const (.int .i64 0))) none]
def r17_4 : List PS := [.mk (some 14) (.binOp .lss 3 (.tmp 13) (.tmp 12) 3) none]
def r17_5 : List PS := [.mk (some 15) (.move (.tmp 13)) none,
  .mk (some 16) (.indexAddr 22 (.tmp 11) (.tmp 13)) none,
  .mk (some 17) (.load 3 (.tmp 16)) none,
  .mk (some 7) (.assign (.tmp 15)) none,
  .mk (some 8) (.assign (.tmp 17)) none]
def r17_6 : List PS := [.mk (some 18) (.move (.tmp 7)) none,
  .mk (some 19) (.binOp .add 3 (.tmp 18) (.const (.int .i64 1)) 3) none,
  .mk (some 20) (.fieldAddr 28 (.tmp 6) 1) none,
  .mk none (.store 3 (.tmp 20) (.tmp 19)) none]
def r17_7 : List PS := [.mk (some 21) (.move (.tmp 8)) none,
  .mk (some 22) (.binOp .eql 3 (.tmp 21) (.const (.int .i64 13)) 3) none,
  .mk (some 23) (.move (.tmp 22)) none,
  .mk (some 24) (.move (.tmp 7)) (some (23, true)),
  .mk (some 25) (.binOp .add 3 (.tmp 24) (.const (.int .i64 1)) 3) (some (23, true)),
  .mk (some 26) (.move (.tmp 1)) (some (23, true)),
  .mk (some 27) (.call ⟨(.builtin .len), #[(.tmp 26)], #[22]⟩) (some (23, true)),
  .mk (some 28) (.binOp .lss 3 (.tmp 25) (.tmp 27) 3) (some (23, true)),
  .mk (some 29) (.pick (.tmp 23) (.tmp 28) (.const (.bool false))) none,
  .mk (some 30) (.move (.tmp 29)) none,
  .mk (some 31) (.move (.tmp 1)) (some (30, true)),
  .mk (some 32) (.move (.tmp 7)) (some (30, true)),
  .mk (some 33) (.binOp .add 3 (.tmp 32) (.const (.int .i64 1)) 3) (some (30, true)),
  .mk (some 34) (.indexAddr 22 (.tmp 31) (.tmp 33)) (some (30, true)),
  .mk (some 35) (.load 3 (.tmp 34)) (some (30, true)),
  .mk (some 36) (.binOp .eql 3 (.tmp 35) (.const (.int .i64 10)) 3) (some (30, true)),
  .mk (some 37) (.pick (.tmp 30) (.tmp 36) (.const (.bool false))) none,
  .mk (some 9) (.assign (.tmp 37)) none]
def r17_8 : List PS := [.mk (some 38) (.move (.tmp 0)) none,
  .mk (some 39) (.move (.tmp 8)) none,
  .mk (some 40) (.call ⟨(.value (.func 28)), #[(.tmp 38), (.tmp 39)], #[36, 3]⟩) none,
  .mk (some 41) (.binOp .neq 3 (.tmp 40) (.const (.int .i64 10)) 3) none,
  .mk (some 42) (.move (.tmp 41)) none,
  .mk (some 43) (.move (.tmp 9)) (some (42, false)),
  .mk (some 44) (.pick (.tmp 42) (.const (.bool true)) (.tmp 43)) none]
def r17_9 : List PS := [.mk (some 45) (.move (.tmp 5)) none,
  .mk (some 46) (.load 28 (.tmp 6)) none,
  .mk (some 47) (.buildSlice 34 1 #[(0, (.tmp 46))]) none,
  .mk (some 48) (.call ⟨(.builtin .append), #[(.tmp 45), (.tmp 47)], #[34, 34]⟩) none,
  .mk (some 5) (.assign (.tmp 48)) none]
def r17_10 : List PS := [.mk (some 49) (.move (.tmp 7)) none,
  .mk (some 50) (.binOp .add 3 (.tmp 49) (.const (.int .i64 1)) 3) none,
  .mk (some 51) (.build 28 #[(0, (.tmp 50))]) none,
  .mk none (.store 28 (.tmp 6) (.tmp 51)) none]
def r17_11 : List PS := [.mk (some 52) (.binOp .add 3 (.tmp 13) (.const (.int .i64 1)) 3) none,
  .mk (some 13) (.move (.tmp 52)) none]
def r17_12 : List PS := [.mk (some 53) (.fieldAddr 28 (.tmp 6) 1) none,
  .mk (some 54) (.load 3 (.tmp 53)) none,
  .mk (some 55) (.fieldAddr 28 (.tmp 6) 0) none,
  .mk (some 56) (.load 3 (.tmp 55)) none,
  .mk (some 57) (.binOp .gtr 3 (.tmp 54) (.tmp 56) 3) none]
def r17_13 : List PS := [.mk (some 58) (.move (.tmp 5)) none,
  .mk (some 59) (.load 28 (.tmp 6)) none,
  .mk (some 60) (.buildSlice 34 1 #[(0, (.tmp 59))]) none,
  .mk (some 61) (.call ⟨(.builtin .append), #[(.tmp 58), (.tmp 60)], #[34, 34]⟩) none,
  .mk (some 5) (.assign (.tmp 61)) none]
def r17_14 : List PS := [.mk (some 62) (.move (.tmp 5)) none,
  .mk (some 4) (.assign (.tmp 62)) none]
def c17 : PC := (.seq (.reg false r17_0) (.seq (.reg false r17_1) (.seq (.reg false r17_2) (.seq (.seq (.reg false r17_3) (.block 0 (.loop (.seq (.reg false r17_4) (.seq (.cond (.tmp 14) .skip (.exit 0)) (.seq (.block 1 (.seq (.reg false r17_5) (.seq (.reg false r17_6) (.seq (.reg false r17_7) (.seq (.seq (.reg false r17_8) (.cond (.tmp 44) (.exit 1) .skip)) (.seq (.reg false r17_9) (.reg false r17_10))))))) (.reg false r17_11))))))) (.seq (.seq (.reg false r17_12) (.cond (.tmp 57) (.reg false r17_13) .skip)) (.seq (.reg false r17_14) .ret))))))
theorem e17 {args : List PV} {h : Heap} {K : PV → Heap → Prop} (hl : args.length = 2) (s : pwp Try.prog [6] c17 (fin Try.prog [.tmp 4] h K) (slots0 (olds args)) h) : CanP Try.prog 17 args h K :=
  can_of2 (n := 63) mixed Try.func17 rfl (by kernel_rfl) (by rw [hl]; kernel_rfl) rfl (by kernel_rfl) s
/-! ### naskh.trie.may: function 39 -/
def r39_0 : List PS := [.mk (some 2) (.assign (.const (.int .i64 0))) none]
def r39_1 : List PS := [.mk (some 6) (.move (.tmp 0)) none,
  .mk (some 7) (.call ⟨(.builtin .len), #[(.tmp 6)], #[49]⟩) none,
  .mk (some 8) (.binOp .gtr 3 (.tmp 7) (.const (.int .i64 4096)) 3) none]
def r39_2 : List PS := [.mk (some 2) (.assign (.const (.int .i64 6))) none]
def r39_3 : List PS := [.mk (some 3) (.assign (.const (.int .i64 (-1)))) none]
def r39_4 : List PS := [.mk (some 9) (.move (.tmp 0)) none,
  .mk (some 10) (.call ⟨(.builtin .len), #[(.tmp 9)], #[49]⟩) none,
  .mk (some 11) (.move (.const (.int .i64 0))) none]
def r39_5 : List PS := [.mk (some 12) (.binOp .lss 3 (.tmp 11) (.tmp 10) 3) none]
def r39_6 : List PS := [.mk (some 13) (.indexAddr 49 (.tmp 9) (.tmp 11)) none,
  .mk (some 14) (.load 73 (.tmp 13)) none,
  .mk (some 5) (.alloc 73) none,
  .mk none (.store 73 (.tmp 5) (.tmp 14)) none,
  .frz 5]
def r39_7 : List PS := [.mk (some 15) (.fieldAddr 73 (.tmp 5) 0) none,
  .mk (some 16) (.load 3 (.tmp 15)) none,
  .mk (some 17) (.move (.tmp 3)) none,
  .mk (some 18) (.binOp .leq 3 (.tmp 16) (.tmp 17) 3) none,
  .mk (some 19) (.move (.tmp 18)) none,
  .mk (some 20) (.fieldAddr 73 (.tmp 5) 1) (some (19, false)),
  .mk (some 21) (.load 3 (.tmp 20)) (some (19, false)),
  .mk (some 22) (.fieldAddr 73 (.tmp 5) 0) (some (19, false)),
  .mk (some 23) (.load 3 (.tmp 22)) (some (19, false)),
  .mk (some 24) (.binOp .lss 3 (.tmp 21) (.tmp 23) 3) (some (19, false)),
  .mk (some 25) (.pick (.tmp 19) (.const (.bool true)) (.tmp 24)) none,
  .mk (some 26) (.move (.tmp 25)) none,
  .mk (some 27) (.fieldAddr 73 (.tmp 5) 1) (some (26, false)),
  .mk (some 28) (.load 3 (.tmp 27)) (some (26, false)),
  .mk (some 29) (.binOp .gtr 3 (.tmp 28) (.const (.int .i64 1114111)) 3) (some (26, false)),
  .mk (some 30) (.pick (.tmp 26) (.const (.bool true)) (.tmp 29)) none]
def r39_8 : List PS := [.mk (some 2) (.assign (.const (.int .i64 10))) none]
def r39_9 : List PS := [.mk (some 31) (.fieldAddr 73 (.tmp 5) 1) none,
  .mk (some 32) (.load 3 (.tmp 31)) none,
  .mk (some 3) (.assign (.tmp 32)) none]
def r39_10 : List PS := [.mk (some 33) (.binOp .add 3 (.tmp 11) (.const (.int .i64 1)) 3) none,
  .mk (some 11) (.move (.tmp 33)) none]
def r39_11 : List PS := [.mk (some 2) (.assign (.const (.int .i64 0))) none]
def c39 : PC := (.seq (.reg false r39_0) (.seq (.seq (.reg false r39_1) (.cond (.tmp 8) (.seq (.reg false r39_2) .ret) .skip)) (.seq (.reg false r39_3) (.seq (.seq (.reg false r39_4) (.block 0 (.loop (.seq (.reg false r39_5) (.seq (.cond (.tmp 12) .skip (.exit 0)) (.seq (.block 1 (.seq (.reg false r39_6) (.seq (.seq (.reg false r39_7) (.cond (.tmp 30) (.seq (.reg false r39_8) .ret) .skip)) (.reg false r39_9)))) (.reg false r39_10))))))) (.seq (.reg false r39_11) .ret)))))
theorem e39 {args : List PV} {h : Heap} {K : PV → Heap → Prop} (hl : args.length = 1) (s : pwp Try.prog [5] c39 (fin Try.prog [.tmp 2] h K) (slots0 (olds args)) h) : CanP Try.prog 39 args h K :=
  can_of2 (n := 34) mixed Try.func39 rfl (by kernel_rfl) (by rw [hl]; kernel_rfl) rfl (by kernel_rfl) s
/-! ### naskh.trie.even: function 47 -/
def r47_0 : List PS := [.mk (some 2) (.alloc 68) none]
def r47_1 : List PS := [.mk (some 3) (.alloc 68) none]
def r47_2 : List PS := [.mk (some 5) (.move (.const (.int .i64 0))) none]
def r47_3 : List PS := [.mk (some 6) (.binOp .lss 3 (.tmp 5) (.const (.int .i64 128)) 3) none]
def r47_4 : List PS := [.mk (some 7) (.move (.tmp 5)) none,
  .mk (some 4) (.assign (.tmp 7)) none]
def r47_5 : List PS := [.mk (some 8) (.move (.tmp 4)) none,
  .mk (some 9) (.move (.tmp 0)) none,
  .mk (some 10) (.indexAddr 68 (.tmp 3) (.tmp 8)) none,
  .mk none (.store 3 (.tmp 10) (.tmp 9)) none]
def r47_6 : List PS := [.mk (some 11) (.binOp .add 3 (.tmp 5) (.const (.int .i64 1)) 3) none,
  .mk (some 5) (.move (.tmp 11)) none]
def r47_7 : List PS := [.mk (some 12) (.load 68 (.tmp 3)) none,
  .mk none (.store 68 (.tmp 2) (.tmp 12)) none]
def c47 : PC := (.seq (.reg false r47_0) (.seq (.reg false r47_1) (.seq (.seq (.reg false r47_2) (.block 0 (.loop (.seq (.reg false r47_3) (.seq (.cond (.tmp 6) .skip (.exit 0)) (.seq (.block 1 (.seq (.reg false r47_4) (.reg false r47_5))) (.reg false r47_6))))))) (.seq (.reg false r47_7) .ret))))
theorem e47 {args : List PV} {h : Heap} {K : PV → Heap → Prop} (hl : args.length = 1) (s : pwp Try.prog [2, 3] c47 (fin Try.prog [.cell 2 68] h K) (slots0 (olds args)) h) : CanP Try.prog 47 args h K :=
  can_of2 (n := 13) mixed Try.func47 rfl (by kernel_rfl) (by rw [hl]; kernel_rfl) rfl (by kernel_rfl) s
/-! ### naskh.trie.filled: function 40 -/
def r40_0 : List PS := [.mk (some 8) (.alloc 68) none,
  .mk (some 9) (.assign (.const (.int .i64 0))) none]
def r40_1 : List PS := [.mk (some 14) (.move (.tmp 3)) none,
  .mk (some 15) (.call ⟨(.value (.func 47)), #[(.tmp 14)], #[3]⟩) none,
  .mk (some 10) (.alloc 68) none,
  .mk none (.store 68 (.tmp 10) (.tmp 15)) none]
def r40_2 : List PS := [.mk (some 16) (.move (.tmp 1)) none,
  .mk (some 17) (.binOp .mul 3 (.tmp 16) (.const (.int .i64 128)) 3) none,
  .mk (some 11) (.assign (.tmp 17)) none]
def r40_3 : List PS := [.mk (some 18) (.move (.tmp 2)) none,
  .mk (some 19) (.move (.tmp 0)) none,
  .mk (some 20) (.call ⟨(.builtin .len), #[(.tmp 19)], #[49]⟩) none,
  .mk (some 21) (.binOp .lss 3 (.tmp 18) (.tmp 20) 3) none,
  .mk (some 22) (.move (.tmp 21)) none,
  .mk (some 23) (.move (.tmp 0)) (some (22, true)),
  .mk (some 24) (.move (.tmp 2)) (some (22, true)),
  .mk (some 25) (.indexAddr 49 (.tmp 23) (.tmp 24)) (some (22, true)),
  .mk (some 26) (.fieldAddr 73 (.tmp 25) 0) (some (22, true)),
  .mk (some 27) (.load 3 (.tmp 26)) (some (22, true)),
  .mk (some 28) (.move (.tmp 11)) (some (22, true)),
  .mk (some 29) (.binOp .add 3 (.tmp 28) (.const (.int .i64 128)) 3) (some (22, true)),
  .mk (some 30) (.binOp .lss 3 (.tmp 27) (.tmp 29) 3) (some (22, true)),
  .mk (some 31) (.pick (.tmp 22) (.tmp 30) (.const (.bool false))) none]
def r40_4 : List PS := [.mk (some 34) (.move (.tmp 0)) none,
  .mk (some 35) (.move (.tmp 2)) none,
  .mk (some 36) (.indexAddr 49 (.tmp 34) (.tmp 35)) none,
  .mk (some 37) (.load 73 (.tmp 36)) none,
  .mk (some 12) (.alloc 73) none,
  .mk none (.store 73 (.tmp 12) (.tmp 37)) none,
  .frz 12]
def r40_5 : List PS := [.mk (some 38) (.fieldAddr 73 (.tmp 12) 0) none,
  .mk (some 39) (.load 3 (.tmp 38)) none,
  .mk (some 40) (.move (.tmp 11)) none,
  .mk (some 41) (.call ⟨(.builtin .max), #[(.tmp 39), (.tmp 40)], #[3, 3]⟩) none,
  .mk (some 13) (.assign (.tmp 41)) none]
def r40_6 : List PS := [.mk (some 42) (.move (.tmp 13)) none,
  .mk (some 43) (.fieldAddr 73 (.tmp 12) 1) none,
  .mk (some 44) (.load 3 (.tmp 43)) none,
  .mk (some 45) (.move (.tmp 11)) none,
  .mk (some 46) (.binOp .add 3 (.tmp 45) (.const (.int .i64 128)) 3) none,
  .mk (some 47) (.binOp .sub 3 (.tmp 46) (.const (.int .i64 1)) 3) none,
  .mk (some 48) (.call ⟨(.builtin .min), #[(.tmp 44), (.tmp 47)], #[3, 3]⟩) none,
  .mk (some 49) (.binOp .leq 3 (.tmp 42) (.tmp 48) 3) none]
def r40_7 : List PS := [.mk (some 52) (.move (.tmp 13)) none,
  .mk (some 53) (.move (.tmp 11)) none,
  .mk (some 54) (.binOp .sub 3 (.tmp 52) (.tmp 53) 3) none,
  .mk (some 55) (.fieldAddr 73 (.tmp 12) 2) none,
  .mk (some 56) (.load 3 (.tmp 55)) none,
  .mk (some 57) (.indexAddr 68 (.tmp 10) (.tmp 54)) none,
  .mk none (.store 3 (.tmp 57) (.tmp 56)) none]
def r40_8 : List PS := [.mk (some 50) (.move (.tmp 13)) none,
  .mk (some 51) (.binOp .add 3 (.tmp 50) (.const (.int .i64 1)) 3) none,
  .mk (some 13) (.assign (.tmp 51)) none]
def r40_9 : List PS := [.mk (some 58) (.fieldAddr 73 (.tmp 12) 1) none,
  .mk (some 59) (.load 3 (.tmp 58)) none,
  .mk (some 60) (.move (.tmp 11)) none,
  .mk (some 61) (.binOp .add 3 (.tmp 60) (.const (.int .i64 128)) 3) none,
  .mk (some 62) (.binOp .geq 3 (.tmp 59) (.tmp 61) 3) none]
def r40_10 : List PS := [.mk (some 32) (.move (.tmp 2)) none,
  .mk (some 33) (.binOp .add 3 (.tmp 32) (.const (.int .i64 1)) 3) none,
  .mk (some 2) (.assign (.tmp 33)) none]
def r40_11 : List PS := [.mk (some 63) (.load 68 (.tmp 10)) none,
  .mk (some 64) (.move (.tmp 2)) none,
  .mk none (.store 68 (.tmp 8) (.tmp 63)) none,
  .mk (some 9) (.assign (.tmp 64)) none]
def c40 : PC := (.seq (.reg false r40_0) (.seq (.reg false r40_1) (.seq (.reg false r40_2) (.seq (.block 0 (.loop (.seq (.seq (.reg false r40_3) (.cond (.tmp 31) .skip (.exit 0))) (.seq (.block 1 (.seq (.reg false r40_4) (.seq (.seq (.reg false r40_5) (.block 2 (.loop (.seq (.seq (.reg false r40_6) (.cond (.tmp 49) .skip (.exit 2))) (.seq (.block 3 (.reg false r40_7)) (.reg false r40_8)))))) (.seq (.reg false r40_9) (.cond (.tmp 62) (.exit 0) .skip))))) (.reg false r40_10))))) (.seq (.reg false r40_11) .ret)))))
theorem e40 {args : List PV} {h : Heap} {K : PV → Heap → Prop} (hl : args.length = 4) (s : pwp Try.prog [8, 10, 12] c40 (fin Try.prog [.cell 8 68, .tmp 9] h K) (slots0 (olds args)) h) : CanP Try.prog 40 args h K :=
  can_of2 (n := 65) mixed Try.func40 rfl (by kernel_rfl) (by rw [hl]; kernel_rfl) rfl (by kernel_rfl) s
/-! ### (*naskh.trie.stages).add: function 41 -/
def r41_0 : List PS := [.mk (some 3) (.box 68 (.tmp 1)) none,
  .mk (some 4) (.assign (.const (.int .i64 0))) none]
def r41_1 : List PS := [.mk (some 6) (.move (.tmp 0)) none,
  .mk (some 7) (.nilCheck (.tmp 6)) none,
  .mk (some 8) (.fieldAddr 64 (.tmp 7) 1) none,
  .mk (some 9) (.load 62 (.tmp 8)) none,
  .mk (some 10) (.call ⟨(.builtin .len), #[(.tmp 9)], #[62]⟩) none,
  .mk (some 11) (.move (.const (.int .i64 0))) none]
def r41_2 : List PS := [.mk (some 12) (.binOp .lss 3 (.tmp 11) (.tmp 10) 3) none]
def r41_3 : List PS := [.mk (some 13) (.move (.tmp 11)) none,
  .mk (some 5) (.assign (.tmp 13)) none]
def r41_4 : List PS := [.mk (some 14) (.move (.tmp 0)) none,
  .mk (some 15) (.nilCheck (.tmp 14)) none,
  .mk (some 16) (.fieldAddr 64 (.tmp 15) 1) none,
  .mk (some 17) (.load 62 (.tmp 16)) none,
  .mk (some 18) (.move (.tmp 5)) none,
  .mk (some 19) (.indexAddr 62 (.tmp 17) (.tmp 18)) none,
  .mk (some 20) (.load 68 (.tmp 19)) none,
  .mk (some 21) (.load 68 (.tmp 3)) none,
  .mk (some 22) (.binOp .eql 68 (.tmp 20) (.tmp 21) 68) none]
def r41_5 : List PS := [.mk (some 23) (.move (.tmp 5)) none,
  .mk (some 4) (.assign (.tmp 23)) none]
def r41_6 : List PS := [.mk (some 24) (.binOp .add 3 (.tmp 11) (.const (.int .i64 1)) 3) none,
  .mk (some 11) (.move (.tmp 24)) none]
def r41_7 : List PS := [.mk (some 25) (.move (.tmp 0)) none,
  .mk (some 26) (.move (.tmp 0)) none,
  .mk (some 27) (.nilCheck (.tmp 26)) none,
  .mk (some 28) (.fieldAddr 64 (.tmp 27) 1) none,
  .mk (some 29) (.load 62 (.tmp 28)) none,
  .mk (some 30) (.load 68 (.tmp 3)) none,
  .mk (some 31) (.buildSlice 62 1 #[(0, (.tmp 30))]) none,
  .mk (some 32) (.call ⟨(.builtin .append), #[(.tmp 29), (.tmp 31)], #[62, 62]⟩) none,
  .mk (some 33) (.nilCheck (.tmp 25)) none,
  .mk (some 34) (.fieldAddr 64 (.tmp 33) 1) none,
  .mk none (.store 62 (.tmp 34) (.tmp 32)) none]
def r41_8 : List PS := [.mk (some 35) (.move (.tmp 0)) none,
  .mk (some 36) (.nilCheck (.tmp 35)) none,
  .mk (some 37) (.fieldAddr 64 (.tmp 36) 1) none,
  .mk (some 38) (.load 62 (.tmp 37)) none,
  .mk (some 39) (.call ⟨(.builtin .len), #[(.tmp 38)], #[62]⟩) none,
  .mk (some 40) (.binOp .sub 3 (.tmp 39) (.const (.int .i64 1)) 3) none,
  .mk (some 4) (.assign (.tmp 40)) none]
def c41 : PC := (.seq (.reg false r41_0) (.seq (.seq (.reg false r41_1) (.block 0 (.loop (.seq (.reg false r41_2) (.seq (.cond (.tmp 12) .skip (.exit 0)) (.seq (.block 1 (.seq (.reg false r41_3) (.seq (.reg true r41_4) (.cond (.tmp 22) (.seq (.reg false r41_5) .ret) .skip)))) (.reg false r41_6))))))) (.seq (.reg true r41_7) (.seq (.reg false r41_8) .ret))))
theorem e41 {args : List PV} {h : Heap} {K : PV → Heap → Prop} (hl : args.length = 2) (s : pwp Try.prog [] c41 (fin Try.prog [.tmp 4] h K) (slots0 (olds args)) h) : CanP Try.prog 41 args h K :=
  can_of2 (n := 41) mixed Try.func41 rfl (by kernel_rfl) (by rw [hl]; kernel_rfl) rfl (by kernel_rfl) s
/-! ### naskh.trie.Build: function 29 -/
def r29_0 : List PS := [.mk (some 4) (.assign (.const (.pointer none))) none,
  .mk (some 5) (.assign (.const (.int .i64 0))) none]
def r29_1 : List PS := [.mk (some 13) (.move (.tmp 0)) none,
  .mk (some 14) (.call ⟨(.value (.func 39)), #[(.tmp 13)], #[49]⟩) none,
  .mk (some 6) (.assign (.tmp 14)) none]
def r29_2 : List PS := [.mk (some 15) (.move (.tmp 6)) none,
  .mk (some 16) (.binOp .neq 46 (.tmp 15) (.const (.int .i64 0)) 46) none]
def r29_3 : List PS := [.mk (some 17) (.move (.tmp 6)) none,
  .mk (some 4) (.assign (.const (.pointer none))) none,
  .mk (some 5) (.assign (.tmp 17)) none]
def r29_4 : List PS := [.mk (some 18) (.move (.tmp 1)) none,
  .mk (some 19) (.build 66 #[(1, (.tmp 18)), (2, (.const (.bool true)))]) none,
  .mk (some 20) (.box 66 (.tmp 19)) none,
  .mk (some 7) (.assign (.tmp 20)) none]
def r29_5 : List PS := [.mk (some 21) (.move (.tmp 7)) none,
  .mk (some 22) (.makeSlice 22 (.const (.int .i64 8704)) (.const (.int .i64 8704))) none,
  .mk (some 23) (.nilCheck (.tmp 21)) none,
  .mk (some 24) (.fieldAddr 66 (.tmp 23) 0) none,
  .mk (some 25) (.fieldAddr 64 (.tmp 24) 0) none,
  .mk none (.store 22 (.tmp 25) (.tmp 22)) none]
def r29_6 : List PS := [.mk (some 8) (.assign (.const (.int .i64 0))) none]
def r29_7 : List PS := [.mk (some 26) (.build 68 #[]) none,
  .mk (some 9) (.alloc 68) none,
  .mk none (.store 68 (.tmp 9) (.tmp 26)) none,
  .mk (some 10) (.assign (.const (.int .i64 (-1)))) none]
def r29_8 : List PS := [.mk (some 27) (.move (.const (.int .i64 0))) none]
def r29_9 : List PS := [.mk (some 28) (.binOp .lss 3 (.tmp 27) (.const (.int .i64 8704)) 3) none]
def r29_10 : List PS := [.mk (some 29) (.move (.tmp 27)) none,
  .mk (some 11) (.assign (.tmp 29)) none]
def r29_11 : List PS := [.mk (some 12) (.alloc 68) none]
def r29_12 : List PS := [.mk (some 31) (.move (.tmp 0)) none,
  .mk (some 32) (.move (.tmp 11)) none,
  .mk (some 33) (.move (.tmp 8)) none,
  .mk (some 34) (.move (.tmp 1)) none,
  .mk (some 35) (.call ⟨(.value (.func 40)), #[(.tmp 31), (.tmp 32), (.tmp 33), (.tmp 34)], #[49, 3, 3, 3]⟩) none,
  .mk (some 30) (.move (.tmp 35)) none,
  .mk (some 36) (.extract (.tmp 30) 0) none,
  .mk (some 37) (.extract (.tmp 30) 1) none,
  .mk none (.store 68 (.tmp 12) (.tmp 36)) none,
  .frz 12,
  .mk (some 8) (.assign (.tmp 37)) none]
def r29_13 : List PS := [.mk (some 38) (.move (.tmp 10)) none,
  .mk (some 39) (.binOp .lss 3 (.tmp 38) (.const (.int .i64 0)) 3) none,
  .mk (some 40) (.move (.tmp 39)) none,
  .mk (some 41) (.load 68 (.tmp 12)) (some (40, false)),
  .mk (some 42) (.load 68 (.tmp 9)) (some (40, false)),
  .mk (some 43) (.binOp .neq 68 (.tmp 41) (.tmp 42) 68) (some (40, false)),
  .mk (some 44) (.pick (.tmp 40) (.const (.bool true)) (.tmp 43)) none]
def r29_14 : List PS := [.mk (some 45) (.load 68 (.tmp 12)) none,
  .mk (some 46) (.move (.tmp 7)) none,
  .mk (some 47) (.nilCheck (.tmp 46)) none,
  .mk (some 48) (.fieldAddr 66 (.tmp 47) 0) none,
  .mk (some 49) (.load 68 (.tmp 12)) none,
  .mk (some 50) (.call ⟨(.value (.func 41)), #[(.tmp 48), (.tmp 49)], #[64, 68]⟩) none,
  .mk none (.store 68 (.tmp 9) (.tmp 45)) none,
  .mk (some 10) (.assign (.tmp 50)) none]
def r29_15 : List PS := [.mk (some 51) (.move (.tmp 7)) none,
  .mk (some 52) (.nilCheck (.tmp 51)) none,
  .mk (some 53) (.fieldAddr 66 (.tmp 52) 0) none,
  .mk (some 54) (.fieldAddr 64 (.tmp 53) 0) none,
  .mk (some 55) (.load 22 (.tmp 54)) none,
  .mk (some 56) (.move (.tmp 11)) none,
  .mk (some 57) (.move (.tmp 10)) none,
  .mk (some 58) (.indexAddr 22 (.tmp 55) (.tmp 56)) none,
  .mk none (.store 3 (.tmp 58) (.tmp 57)) none]
def r29_16 : List PS := [.mk (some 59) (.binOp .add 3 (.tmp 27) (.const (.int .i64 1)) 3) none,
  .mk (some 27) (.move (.tmp 59)) none]
def r29_17 : List PS := [.frzc 7 0,
  .frzc 7 1,
  .mk (some 60) (.move (.tmp 7)) none,
  .mk (some 4) (.assign (.tmp 60)) none,
  .mk (some 5) (.assign (.const (.int .i64 0))) none]
def c29 : PC := (.seq (.reg false r29_0) (.seq (.seq (.reg false r29_1) (.seq (.reg false r29_2) (.cond (.tmp 16) (.seq (.reg false r29_3) .ret) .skip))) (.seq (.reg false r29_4) (.seq (.reg false r29_5) (.seq (.reg false r29_6) (.seq (.reg false r29_7) (.seq (.seq (.reg false r29_8) (.block 0 (.loop (.seq (.reg false r29_9) (.seq (.cond (.tmp 28) .skip (.exit 0)) (.seq (.block 1 (.seq (.reg false r29_10) (.seq (.reg false r29_11) (.seq (.reg false r29_12) (.seq (.seq (.reg false r29_13) (.cond (.tmp 44) (.reg true r29_14) .skip)) (.reg false r29_15)))))) (.reg false r29_16))))))) (.seq (.reg false r29_17) .ret))))))))
theorem e29 {args : List PV} {h : Heap} {K : PV → Heap → Prop} (hl : args.length = 2) (s : pwp Try.prog [9, 12, 20, 45, 50] c29 (fin Try.prog [.tmp 4, .tmp 5] h K) (slots0 (olds args)) h) : CanP Try.prog 29 args h K :=
  can_of2 (n := 61) mixed Try.func29 rfl (by kernel_rfl) (by rw [hl]; kernel_rfl) rfl (by kernel_rfl) s
/-! ### naskh.api.JoinRanges: function 31 -/
def r31_0 : List PS := [.mk (some 0) (.assign (.const (.slice none 0 0))) none]
def r31_1 : List PS := [.mk (some 1) (.build 73 #[(0, (.const (.int .i64 768))), (1, (.const (.int .i64 879))), (2, (.const (.int .i64 1)))]) none,
  .mk (some 2) (.build 73 #[(0, (.const (.int .i64 1155))), (1, (.const (.int .i64 1161))), (2, (.const (.int .i64 1)))]) none,
  .mk (some 3) (.build 73 #[(0, (.const (.int .i64 1425))), (1, (.const (.int .i64 1469))), (2, (.const (.int .i64 1)))]) none,
  .mk (some 4) (.build 73 #[(0, (.const (.int .i64 1471))), (1, (.const (.int .i64 1471))), (2, (.const (.int .i64 1)))]) none,
  .mk (some 5) (.build 73 #[(0, (.const (.int .i64 1473))), (1, (.const (.int .i64 1474))), (2, (.const (.int .i64 1)))]) none,
  .mk (some 6) (.build 73 #[(0, (.const (.int .i64 1476))), (1, (.const (.int .i64 1477))), (2, (.const (.int .i64 1)))]) none,
  .mk (some 7) (.build 73 #[(0, (.const (.int .i64 1479))), (1, (.const (.int .i64 1479))), (2, (.const (.int .i64 1)))]) none,
  .mk (some 8) (.build 73 #[(0, (.const (.int .i64 1552))), (1, (.const (.int .i64 1562))), (2, (.const (.int .i64 1)))]) none,
  .mk (some 9) (.build 73 #[(0, (.const (.int .i64 1564))), (1, (.const (.int .i64 1564))), (2, (.const (.int .i64 1)))]) none,
  .mk (some 10) (.build 73 #[(0, (.const (.int .i64 1568))), (1, (.const (.int .i64 1568))), (2, (.const (.int .i64 3)))]) none,
  .mk (some 11) (.build 73 #[(0, (.const (.int .i64 1570))), (1, (.const (.int .i64 1573))), (2, (.const (.int .i64 2)))]) none,
  .mk (some 12) (.build 73 #[(0, (.const (.int .i64 1574))), (1, (.const (.int .i64 1574))), (2, (.const (.int .i64 3)))]) none,
  .mk (some 13) (.build 73 #[(0, (.const (.int .i64 1575))), (1, (.const (.int .i64 1575))), (2, (.const (.int .i64 2)))]) none,
  .mk (some 14) (.build 73 #[(0, (.const (.int .i64 1576))), (1, (.const (.int .i64 1576))), (2, (.const (.int .i64 3)))]) none,
  .mk (some 15) (.build 73 #[(0, (.const (.int .i64 1577))), (1, (.const (.int .i64 1577))), (2, (.const (.int .i64 2)))]) none,
  .mk (some 16) (.build 73 #[(0, (.const (.int .i64 1578))), (1, (.const (.int .i64 1582))), (2, (.const (.int .i64 3)))]) none,
  .mk (some 17) (.build 73 #[(0, (.const (.int .i64 1583))), (1, (.const (.int .i64 1586))), (2, (.const (.int .i64 2)))]) none,
  .mk (some 18) (.build 73 #[(0, (.const (.int .i64 1587))), (1, (.const (.int .i64 1599))), (2, (.const (.int .i64 3)))]) none,
  .mk (some 19) (.build 73 #[(0, (.const (.int .i64 1600))), (1, (.const (.int .i64 1600))), (2, (.const (.int .i64 5)))]) none,
  .mk (some 20) (.build 73 #[(0, (.const (.int .i64 1601))), (1, (.const (.int .i64 1607))), (2, (.const (.int .i64 3)))]) none,
  .mk (some 21) (.build 73 #[(0, (.const (.int .i64 1608))), (1, (.const (.int .i64 1608))), (2, (.const (.int .i64 2)))]) none,
  .mk (some 22) (.build 73 #[(0, (.const (.int .i64 1609))), (1, (.const (.int .i64 1610))), (2, (.const (.int .i64 3)))]) none,
  .mk (some 23) (.build 73 #[(0, (.const (.int .i64 1611))), (1, (.const (.int .i64 1631))), (2, (.const (.int .i64 1)))]) none,
  .mk (some 24) (.build 73 #[(0, (.const (.int .i64 1646))), (1, (.const (.int .i64 1647))), (2, (.const (.int .i64 3)))]) none,
  .mk (some 25) (.build 73 #[(0, (.const (.int .i64 1648))), (1, (.const (.int .i64 1648))), (2, (.const (.int .i64 1)))]) none,
  .mk (some 26) (.build 73 #[(0, (.const (.int .i64 1649))), (1, (.const (.int .i64 1651))), (2, (.const (.int .i64 2)))]) none,
  .mk (some 27) (.build 73 #[(0, (.const (.int .i64 1653))), (1, (.const (.int .i64 1655))), (2, (.const (.int .i64 2)))]) none,
  .mk (some 28) (.build 73 #[(0, (.const (.int .i64 1656))), (1, (.const (.int .i64 1671))), (2, (.const (.int .i64 3)))]) none,
  .mk (some 29) (.build 73 #[(0, (.const (.int .i64 1672))), (1, (.const (.int .i64 1689))), (2, (.const (.int .i64 2)))]) none,
  .mk (some 30) (.build 73 #[(0, (.const (.int .i64 1690))), (1, (.const (.int .i64 1727))), (2, (.const (.int .i64 3)))]) none,
  .mk (some 31) (.build 73 #[(0, (.const (.int .i64 1728))), (1, (.const (.int .i64 1728))), (2, (.const (.int .i64 2)))]) none,
  .mk (some 32) (.build 73 #[(0, (.const (.int .i64 1729))), (1, (.const (.int .i64 1730))), (2, (.const (.int .i64 3)))]) none,
  .mk (some 33) (.build 73 #[(0, (.const (.int .i64 1731))), (1, (.const (.int .i64 1739))), (2, (.const (.int .i64 2)))]) none,
  .mk (some 34) (.build 73 #[(0, (.const (.int .i64 1740))), (1, (.const (.int .i64 1740))), (2, (.const (.int .i64 3)))]) none,
  .mk (some 35) (.build 73 #[(0, (.const (.int .i64 1741))), (1, (.const (.int .i64 1741))), (2, (.const (.int .i64 2)))]) none,
  .mk (some 36) (.build 73 #[(0, (.const (.int .i64 1742))), (1, (.const (.int .i64 1742))), (2, (.const (.int .i64 3)))]) none,
  .mk (some 37) (.build 73 #[(0, (.const (.int .i64 1743))), (1, (.const (.int .i64 1743))), (2, (.const (.int .i64 2)))]) none,
  .mk (some 38) (.build 73 #[(0, (.const (.int .i64 1744))), (1, (.const (.int .i64 1745))), (2, (.const (.int .i64 3)))]) none,
  .mk (some 39) (.build 73 #[(0, (.const (.int .i64 1746))), (1, (.const (.int .i64 1747))), (2, (.const (.int .i64 2)))]) none,
  .mk (some 40) (.build 73 #[(0, (.const (.int .i64 1749))), (1, (.const (.int .i64 1749))), (2, (.const (.int .i64 2)))]) none,
  .mk (some 41) (.build 73 #[(0, (.const (.int .i64 1750))), (1, (.const (.int .i64 1756))), (2, (.const (.int .i64 1)))]) none,
  .mk (some 42) (.build 73 #[(0, (.const (.int .i64 1759))), (1, (.const (.int .i64 1764))), (2, (.const (.int .i64 1)))]) none,
  .mk (some 43) (.build 73 #[(0, (.const (.int .i64 1767))), (1, (.const (.int .i64 1768))), (2, (.const (.int .i64 1)))]) none,
  .mk (some 44) (.build 73 #[(0, (.const (.int .i64 1770))), (1, (.const (.int .i64 1773))), (2, (.const (.int .i64 1)))]) none,
  .mk (some 45) (.build 73 #[(0, (.const (.int .i64 1774))), (1, (.const (.int .i64 1775))), (2, (.const (.int .i64 2)))]) none,
  .mk (some 46) (.build 73 #[(0, (.const (.int .i64 1786))), (1, (.const (.int .i64 1788))), (2, (.const (.int .i64 3)))]) none,
  .mk (some 47) (.build 73 #[(0, (.const (.int .i64 1791))), (1, (.const (.int .i64 1791))), (2, (.const (.int .i64 3)))]) none,
  .mk (some 48) (.build 73 #[(0, (.const (.int .i64 1840))), (1, (.const (.int .i64 1866))), (2, (.const (.int .i64 1)))]) none,
  .mk (some 49) (.build 73 #[(0, (.const (.int .i64 1958))), (1, (.const (.int .i64 1968))), (2, (.const (.int .i64 1)))]) none,
  .mk (some 50) (.build 73 #[(0, (.const (.int .i64 1994))), (1, (.const (.int .i64 2026))), (2, (.const (.int .i64 3)))]) none,
  .mk (some 51) (.build 73 #[(0, (.const (.int .i64 2027))), (1, (.const (.int .i64 2035))), (2, (.const (.int .i64 1)))]) none,
  .mk (some 52) (.build 73 #[(0, (.const (.int .i64 2042))), (1, (.const (.int .i64 2042))), (2, (.const (.int .i64 5)))]) none,
  .mk (some 53) (.build 73 #[(0, (.const (.int .i64 2200))), (1, (.const (.int .i64 2207))), (2, (.const (.int .i64 1)))]) none,
  .mk (some 54) (.build 73 #[(0, (.const (.int .i64 2250))), (1, (.const (.int .i64 2273))), (2, (.const (.int .i64 1)))]) none,
  .mk (some 55) (.build 73 #[(0, (.const (.int .i64 2275))), (1, (.const (.int .i64 2306))), (2, (.const (.int .i64 1)))]) none,
  .mk (some 56) (.build 73 #[(0, (.const (.int .i64 8203))), (1, (.const (.int .i64 8203))), (2, (.const (.int .i64 1)))]) none,
  .mk (some 57) (.build 73 #[(0, (.const (.int .i64 8205))), (1, (.const (.int .i64 8205))), (2, (.const (.int .i64 5)))]) none,
  .mk (some 58) (.build 73 #[(0, (.const (.int .i64 8206))), (1, (.const (.int .i64 8207))), (2, (.const (.int .i64 1)))]) none,
  .mk (some 59) (.build 73 #[(0, (.const (.int .i64 8234))), (1, (.const (.int .i64 8238))), (2, (.const (.int .i64 1)))]) none,
  .mk (some 60) (.build 73 #[(0, (.const (.int .i64 8288))), (1, (.const (.int .i64 8292))), (2, (.const (.int .i64 1)))]) none,
  .mk (some 61) (.build 73 #[(0, (.const (.int .i64 8298))), (1, (.const (.int .i64 8303))), (2, (.const (.int .i64 1)))]) none,
  .mk (some 62) (.build 73 #[(0, (.const (.int .i64 8400))), (1, (.const (.int .i64 8432))), (2, (.const (.int .i64 1)))]) none,
  .mk (some 63) (.build 73 #[(0, (.const (.int .i64 43072))), (1, (.const (.int .i64 43121))), (2, (.const (.int .i64 3)))]) none,
  .mk (some 64) (.build 73 #[(0, (.const (.int .i64 43122))), (1, (.const (.int .i64 43122))), (2, (.const (.int .i64 4)))]) none,
  .mk (some 65) (.build 73 #[(0, (.const (.int .i64 65024))), (1, (.const (.int .i64 65039))), (2, (.const (.int .i64 1)))]) none,
  .mk (some 66) (.build 73 #[(0, (.const (.int .i64 65056))), (1, (.const (.int .i64 65071))), (2, (.const (.int .i64 1)))]) none,
  .mk (some 67) (.build 73 #[(0, (.const (.int .i64 65279))), (1, (.const (.int .i64 65279))), (2, (.const (.int .i64 1)))]) none,
  .mk (some 68) (.build 73 #[(0, (.const (.int .i64 917760))), (1, (.const (.int .i64 917999))), (2, (.const (.int .i64 1)))]) none,
  .mk (some 69) (.buildSlice 49 68 #[(0, (.tmp 1)), (1, (.tmp 2)), (2, (.tmp 3)), (3, (.tmp 4)), (4, (.tmp 5)), (5, (.tmp 6)), (6, (.tmp 7)), (7, (.tmp 8)), (8, (.tmp 9)), (9, (.tmp 10)), (10, (.tmp 11)), (11, (.tmp 12)), (12, (.tmp 13)), (13, (.tmp 14)), (14, (.tmp 15)), (15, (.tmp 16)), (16, (.tmp 17)), (17, (.tmp 18)), (18, (.tmp 19)), (19, (.tmp 20)), (20, (.tmp 21)), (21, (.tmp 22)), (22, (.tmp 23)), (23, (.tmp 24)), (24, (.tmp 25)), (25, (.tmp 26)), (26, (.tmp 27)), (27, (.tmp 28)), (28, (.tmp 29)), (29, (.tmp 30)), (30, (.tmp 31)), (31, (.tmp 32)), (32, (.tmp 33)), (33, (.tmp 34)), (34, (.tmp 35)), (35, (.tmp 36)), (36, (.tmp 37)), (37, (.tmp 38)), (38, (.tmp 39)), (39, (.tmp 40)), (40, (.tmp 41)), (41, (.tmp 42)), (42, (.tmp 43)), (43, (.tmp 44)), (44, (.tmp 45)), (45, (.tmp 46)), (46, (.tmp 47)), (47, (.tmp 48)), (48, (.tmp 49)), (49, (.tmp 50)), (50, (.tmp 51)), (51, (.tmp 52)), (52, (.tmp 53)), (53, (.tmp 54)), (54, (.tmp 55)), (55, (.tmp 56)), (56, (.tmp 57)), (57, (.tmp 58)), (58, (.tmp 59)), (59, (.tmp 60)), (60, (.tmp 61)), (61, (.tmp 62)), (62, (.tmp 63)), (63, (.tmp 64)), (64, (.tmp 65)), (65, (.tmp 66)), (66, (.tmp 67)), (67, (.tmp 68))]) none,
  .mk (some 0) (.assign (.tmp 69)) none]
def c31 : PC := (.seq (.reg false r31_0) (.seq (.reg false r31_1) .ret))
theorem e31 {args : List PV} {h : Heap} {K : PV → Heap → Prop} (hl : args.length = 0) (s : pwp Try.prog [] c31 (fin Try.prog [.tmp 0] h K) (slots0 (olds args)) h) : CanP Try.prog 31 args h K :=
  can_of2 (n := 70) mixed Try.func31 rfl (by kernel_rfl) (by rw [hl]; kernel_rfl) rfl (by kernel_rfl) s
/-! ### naskh.props.New: function 18 -/
def r18_0 : List PS := [.mk (some 0) (.assign (.const (.pointer none))) none]
def r18_1 : List PS := [.mk (some 6) (.call ⟨(.value (.func 30)), #[], #[]⟩) none,
  .mk (some 7) (.call ⟨(.value (.func 29)), #[(.tmp 6), (.const (.int .i64 0))], #[49, 3]⟩) none,
  .mk (some 5) (.move (.tmp 7)) none,
  .mk (some 8) (.extract (.tmp 5) 0) none,
  .mk (some 9) (.extract (.tmp 5) 1) none,
  .mk (some 1) (.assign (.tmp 8)) none,
  .mk (some 2) (.assign (.tmp 9)) none]
def r18_2 : List PS := [.mk (some 11) (.call ⟨(.value (.func 31)), #[], #[]⟩) none,
  .mk (some 12) (.call ⟨(.value (.func 29)), #[(.tmp 11), (.const (.int .i64 0))], #[49, 3]⟩) none,
  .mk (some 10) (.move (.tmp 12)) none,
  .mk (some 13) (.extract (.tmp 10) 0) none,
  .mk (some 14) (.extract (.tmp 10) 1) none,
  .mk (some 3) (.assign (.tmp 13)) none,
  .mk (some 4) (.assign (.tmp 14)) none]
def r18_3 : List PS := [.mk (some 15) (.move (.tmp 2)) none,
  .mk (some 16) (.binOp .neq 46 (.tmp 15) (.const (.int .i64 0)) 46) none,
  .mk (some 17) (.move (.tmp 16)) none,
  .mk (some 18) (.move (.tmp 4)) (some (17, false)),
  .mk (some 19) (.binOp .neq 46 (.tmp 18) (.const (.int .i64 0)) 46) (some (17, false)),
  .mk (some 20) (.pick (.tmp 17) (.const (.bool true)) (.tmp 19)) none]
def r18_4 : List PS := [.mk (some 0) (.assign (.const (.pointer none))) none]
def r18_5 : List PS := [.mk (some 21) (.move (.tmp 1)) none,
  .mk (some 22) (.move (.tmp 3)) none,
  .mk (some 23) (.build 52 #[(0, (.tmp 21)), (1, (.tmp 22))]) none,
  .mk (some 24) (.build 54 #[(0, (.tmp 23))]) none,
  .mk (some 25) (.box 54 (.tmp 24)) none,
  .mk (some 0) (.assign (.tmp 25)) none]
def c18 : PC := (.seq (.reg false r18_0) (.seq (.reg false r18_1) (.seq (.reg false r18_2) (.seq (.seq (.reg false r18_3) (.cond (.tmp 20) (.seq (.reg false r18_4) .ret) .skip)) (.seq (.reg false r18_5) .ret)))))
theorem e18 {args : List PV} {h : Heap} {K : PV → Heap → Prop} (hl : args.length = 0) (s : pwp Try.prog [] c18 (fin Try.prog [.tmp 0] h K) (slots0 (olds args)) h) : CanP Try.prog 18 args h K :=
  can_of2 (n := 26) mixed Try.func18 rfl (by kernel_rfl) (by rw [hl]; kernel_rfl) rfl (by kernel_rfl) s
/-! ### slices.Equal[[]naskh.api.Span,naskh.api.Span]: function 19 -/
def r19_0 : List PS := [.mk (some 4) (.assign (.const (.bool false))) none]
def r19_1 : List PS := [.mk (some 6) (.move (.tmp 0)) none,
  .mk (some 7) (.call ⟨(.builtin .len), #[(.tmp 6)], #[34]⟩) none,
  .mk (some 8) (.move (.tmp 1)) none,
  .mk (some 9) (.call ⟨(.builtin .len), #[(.tmp 8)], #[34]⟩) none,
  .mk (some 10) (.binOp .neq 3 (.tmp 7) (.tmp 9) 3) none]
def r19_2 : List PS := [.mk (some 4) (.assign (.const (.bool false))) none]
def r19_3 : List PS := [.mk (some 11) (.move (.tmp 0)) none,
  .mk (some 12) (.call ⟨(.builtin .len), #[(.tmp 11)], #[34]⟩) none,
  .mk (some 13) (.move (.const (.int .i64 0))) none]
def r19_4 : List PS := [.mk (some 14) (.binOp .lss 3 (.tmp 13) (.tmp 12) 3) none]
def r19_5 : List PS := [.mk (some 15) (.move (.tmp 13)) none,
  .mk (some 5) (.assign (.tmp 15)) none]
def r19_6 : List PS := [.mk (some 16) (.move (.tmp 0)) none,
  .mk (some 17) (.move (.tmp 5)) none,
  .mk (some 18) (.indexAddr 34 (.tmp 16) (.tmp 17)) none,
  .mk (some 19) (.load 28 (.tmp 18)) none,
  .mk (some 20) (.move (.tmp 1)) none,
  .mk (some 21) (.move (.tmp 5)) none,
  .mk (some 22) (.indexAddr 34 (.tmp 20) (.tmp 21)) none,
  .mk (some 23) (.load 28 (.tmp 22)) none,
  .mk (some 24) (.binOp .neq 28 (.tmp 19) (.tmp 23) 28) none]
def r19_7 : List PS := [.mk (some 4) (.assign (.const (.bool false))) none]
def r19_8 : List PS := [.mk (some 25) (.binOp .add 3 (.tmp 13) (.const (.int .i64 1)) 3) none,
  .mk (some 13) (.move (.tmp 25)) none]
def r19_9 : List PS := [.mk (some 4) (.assign (.const (.bool true))) none]
def c19 : PC := (.seq (.reg false r19_0) (.seq (.seq (.reg false r19_1) (.cond (.tmp 10) (.seq (.reg false r19_2) .ret) .skip)) (.seq (.seq (.reg false r19_3) (.block 0 (.loop (.seq (.reg false r19_4) (.seq (.cond (.tmp 14) .skip (.exit 0)) (.seq (.block 1 (.seq (.reg false r19_5) (.seq (.reg true r19_6) (.cond (.tmp 24) (.seq (.reg false r19_7) .ret) .skip)))) (.reg false r19_8))))))) (.seq (.reg false r19_9) .ret))))
theorem e19 {args : List PV} {h : Heap} {K : PV → Heap → Prop} (hl : args.length = 2) (s : pwp Try.prog [] c19 (fin Try.prog [.tmp 4] h K) (slots0 (olds args)) h) : CanP Try.prog 19 args h K :=
  can_of2 (n := 26) mixed Try.func19 rfl (by kernel_rfl) (by rw [hl]; kernel_rfl) rfl (by kernel_rfl) s
/-! ### naskh.naskhref20.Split: function 20 -/
def r20_0 : List PS := [.mk (some 2) (.assign (.const (.slice none 0 0))) none]
def r20_1 : List PS := [.mk (some 3) (.assign (.const (.slice none 0 0))) none]
def r20_2 : List PS := [.mk (some 4) (.assign (.const (.int .i64 0))) none]
def r20_3 : List PS := [.mk (some 5) (.assign (.const (.int .i64 0))) none]
def r20_4 : List PS := [.mk (some 7) (.move (.tmp 5)) none,
  .mk (some 8) (.move (.tmp 0)) none,
  .mk (some 9) (.call ⟨(.builtin .len), #[(.tmp 8)], #[22]⟩) none,
  .mk (some 10) (.binOp .lss 3 (.tmp 7) (.tmp 9) 3) none]
def r20_5 : List PS := [.mk (some 13) (.move (.tmp 0)) none,
  .mk (some 14) (.move (.tmp 5)) none,
  .mk (some 15) (.indexAddr 22 (.tmp 13) (.tmp 14)) none,
  .mk (some 16) (.load 3 (.tmp 15)) none,
  .mk (some 17) (.binOp .eql 3 (.tmp 16) (.const (.int .i64 13)) 3) none,
  .mk (some 18) (.move (.tmp 17)) none,
  .mk (some 19) (.move (.tmp 5)) (some (18, true)),
  .mk (some 20) (.binOp .add 3 (.tmp 19) (.const (.int .i64 1)) 3) (some (18, true)),
  .mk (some 21) (.move (.tmp 0)) (some (18, true)),
  .mk (some 22) (.call ⟨(.builtin .len), #[(.tmp 21)], #[22]⟩) (some (18, true)),
  .mk (some 23) (.binOp .lss 3 (.tmp 20) (.tmp 22) 3) (some (18, true)),
  .mk (some 24) (.pick (.tmp 18) (.tmp 23) (.const (.bool false))) none,
  .mk (some 25) (.move (.tmp 24)) none,
  .mk (some 26) (.move (.tmp 0)) (some (25, true)),
  .mk (some 27) (.move (.tmp 5)) (some (25, true)),
  .mk (some 28) (.binOp .add 3 (.tmp 27) (.const (.int .i64 1)) 3) (some (25, true)),
  .mk (some 29) (.indexAddr 22 (.tmp 26) (.tmp 28)) (some (25, true)),
  .mk (some 30) (.load 3 (.tmp 29)) (some (25, true)),
  .mk (some 31) (.binOp .eql 3 (.tmp 30) (.const (.int .i64 10)) 3) (some (25, true)),
  .mk (some 32) (.pick (.tmp 25) (.tmp 31) (.const (.bool false))) none,
  .mk (some 6) (.assign (.tmp 32)) none]
def r20_6 : List PS := [.mk (some 33) (.move (.tmp 0)) none,
  .mk (some 34) (.move (.tmp 5)) none,
  .mk (some 35) (.indexAddr 22 (.tmp 33) (.tmp 34)) none,
  .mk (some 36) (.load 3 (.tmp 35)) none,
  .mk (some 37) (.call ⟨(.value (.func 27)), #[(.tmp 36)], #[3]⟩) none,
  .mk (some 38) (.binOp .eql 3 (.tmp 37) (.const (.int .i64 10)) 3) none,
  .mk (some 39) (.move (.tmp 38)) none,
  .mk (some 40) (.move (.tmp 6)) (some (39, true)),
  .mk (some 41) (.unOp .not 4 (.tmp 40)) (some (39, true)),
  .mk (some 42) (.pick (.tmp 39) (.tmp 41) (.const (.bool false))) none,
  .mk (some 43) (.move (.tmp 42)) none,
  .mk (some 44) (.move (.tmp 5)) (some (43, false)),
  .mk (some 45) (.binOp .add 3 (.tmp 44) (.const (.int .i64 1)) 3) (some (43, false)),
  .mk (some 46) (.move (.tmp 0)) (some (43, false)),
  .mk (some 47) (.call ⟨(.builtin .len), #[(.tmp 46)], #[22]⟩) (some (43, false)),
  .mk (some 48) (.binOp .eql 3 (.tmp 45) (.tmp 47) 3) (some (43, false)),
  .mk (some 49) (.pick (.tmp 43) (.const (.bool true)) (.tmp 48)) none]
def r20_7 : List PS := [.mk (some 50) (.move (.tmp 3)) none,
  .mk (some 51) (.move (.tmp 4)) none,
  .mk (some 52) (.move (.tmp 5)) none,
  .mk (some 53) (.binOp .add 3 (.tmp 52) (.const (.int .i64 1)) 3) none,
  .mk (some 54) (.build 28 #[(0, (.tmp 51)), (1, (.tmp 53))]) none,
  .mk (some 55) (.buildSlice 34 1 #[(0, (.tmp 54))]) none,
  .mk (some 56) (.call ⟨(.builtin .append), #[(.tmp 50), (.tmp 55)], #[34, 34]⟩) none,
  .mk (some 3) (.assign (.tmp 56)) none]
def r20_8 : List PS := [.mk (some 57) (.move (.tmp 5)) none,
  .mk (some 58) (.binOp .add 3 (.tmp 57) (.const (.int .i64 1)) 3) none,
  .mk (some 4) (.assign (.tmp 58)) none]
def r20_9 : List PS := [.mk (some 11) (.move (.tmp 5)) none,
  .mk (some 12) (.binOp .add 3 (.tmp 11) (.const (.int .i64 1)) 3) none,
  .mk (some 5) (.assign (.tmp 12)) none]
def r20_10 : List PS := [.mk (some 59) (.move (.tmp 3)) none,
  .mk (some 2) (.assign (.tmp 59)) none]
def c20 : PC := (.seq (.reg false r20_0) (.seq (.reg false r20_1) (.seq (.reg false r20_2) (.seq (.seq (.reg false r20_3) (.block 0 (.loop (.seq (.seq (.reg false r20_4) (.cond (.tmp 10) .skip (.exit 0))) (.seq (.block 1 (.seq (.reg false r20_5) (.seq (.reg false r20_6) (.cond (.tmp 49) (.seq (.reg false r20_7) (.reg false r20_8)) .skip)))) (.reg false r20_9)))))) (.seq (.reg false r20_10) .ret)))))
theorem e20 {args : List PV} {h : Heap} {K : PV → Heap → Prop} (hl : args.length = 1) (s : pwp Try.prog [] c20 (fin Try.prog [.tmp 2] h K) (slots0 (olds args)) h) : CanP Try.prog 20 args h K :=
  can_of2 (n := 60) mixed Try.func20 rfl (by kernel_rfl) (by rw [hl]; kernel_rfl) rfl (by kernel_rfl) s
/-! ### naskh.span.Right: function 32 -/
def r32_0 : List PS := [.mk (some 1) (.box 28 (.tmp 0)) none,
  .mk (some 2) (.assign (.const (.bool false))) none]
def r32_1 : List PS := [.mk (some 3) (.fieldAddr 28 (.tmp 1) 0) none,
  .mk (some 4) (.load 3 (.tmp 3)) none,
  .mk (some 5) (.binOp .leq 3 (.const (.int .i64 0)) (.tmp 4) 3) none,
  .mk (some 6) (.move (.tmp 5)) none,
  .mk (some 7) (.fieldAddr 28 (.tmp 1) 0) (some (6, true)),
  .mk (some 8) (.load 3 (.tmp 7)) (some (6, true)),
  .mk (some 9) (.fieldAddr 28 (.tmp 1) 1) (some (6, true)),
  .mk (some 10) (.load 3 (.tmp 9)) (some (6, true)),
  .mk (some 11) (.binOp .lss 3 (.tmp 8) (.tmp 10) 3) (some (6, true)),
  .mk (some 12) (.pick (.tmp 6) (.tmp 11) (.const (.bool false))) none,
  .mk (some 2) (.assign (.tmp 12)) none]
def c32 : PC := (.seq (.reg false r32_0) (.seq (.reg false r32_1) .ret))
theorem e32 {args : List PV} {h : Heap} {K : PV → Heap → Prop} (hl : args.length = 1) (s : pwp Try.prog [] c32 (fin Try.prog [.tmp 2] h K) (slots0 (olds args)) h) : CanP Try.prog 32 args h K :=
  can_of2 (n := 13) mixed Try.func32 rfl (by kernel_rfl) (by rw [hl]; kernel_rfl) rfl (by kernel_rfl) s
/-! ### naskh.span.Parts: function 21 -/
def r21_0 : List PS := [.mk (some 4) (.assign (.const (.bool false))) none]
def r21_1 : List PS := [.mk (some 5) (.assign (.const (.int .i64 0))) none]
def r21_2 : List PS := [.mk (some 8) (.move (.tmp 0)) none,
  .mk (some 9) (.call ⟨(.builtin .len), #[(.tmp 8)], #[34]⟩) none,
  .mk (some 10) (.move (.const (.int .i64 0))) none]
def r21_3 : List PS := [.mk (some 11) (.binOp .lss 3 (.tmp 10) (.tmp 9) 3) none]
def r21_4 : List PS := [.mk (some 12) (.indexAddr 34 (.tmp 8) (.tmp 10)) none,
  .mk (some 13) (.load 28 (.tmp 12)) none,
  .mk (some 7) (.alloc 28) none,
  .mk none (.store 28 (.tmp 7) (.tmp 13)) none,
  .frz 7]
def r21_5 : List PS := [.mk (some 14) (.fieldAddr 28 (.tmp 7) 0) none,
  .mk (some 15) (.load 3 (.tmp 14)) none,
  .mk (some 16) (.move (.tmp 5)) none,
  .mk (some 17) (.binOp .neq 3 (.tmp 15) (.tmp 16) 3) none,
  .mk (some 18) (.move (.tmp 17)) none,
  .mk (some 19) (.load 28 (.tmp 7)) (some (18, false)),
  .mk (some 20) (.call ⟨(.value (.func 32)), #[(.tmp 19)], #[28]⟩) (some (18, false)),
  .mk (some 21) (.unOp .not 4 (.tmp 20)) (some (18, false)),
  .mk (some 22) (.pick (.tmp 18) (.const (.bool true)) (.tmp 21)) none]
def r21_6 : List PS := [.mk (some 4) (.assign (.const (.bool false))) none]
def r21_7 : List PS := [.mk (some 23) (.fieldAddr 28 (.tmp 7) 1) none,
  .mk (some 24) (.load 3 (.tmp 23)) none,
  .mk (some 5) (.assign (.tmp 24)) none]
def r21_8 : List PS := [.mk (some 25) (.binOp .add 3 (.tmp 10) (.const (.int .i64 1)) 3) none,
  .mk (some 10) (.move (.tmp 25)) none]
def r21_9 : List PS := [.mk (some 26) (.move (.tmp 5)) none,
  .mk (some 27) (.move (.tmp 1)) none,
  .mk (some 28) (.binOp .eql 3 (.tmp 26) (.tmp 27) 3) none,
  .mk (some 4) (.assign (.tmp 28)) none]
def c21 : PC := (.seq (.reg false r21_0) (.seq (.reg false r21_1) (.seq (.seq (.reg false r21_2) (.block 0 (.loop (.seq (.reg false r21_3) (.seq (.cond (.tmp 11) .skip (.exit 0)) (.seq (.block 1 (.seq (.reg false r21_4) (.seq (.seq (.reg false r21_5) (.cond (.tmp 22) (.seq (.reg false r21_6) .ret) .skip)) (.reg false r21_7)))) (.reg false r21_8))))))) (.seq (.reg false r21_9) .ret))))
theorem e21 {args : List PV} {h : Heap} {K : PV → Heap → Prop} (hl : args.length = 2) (s : pwp Try.prog [7] c21 (fin Try.prog [.tmp 4] h K) (slots0 (olds args)) h) : CanP Try.prog 21 args h K :=
  can_of2 (n := 29) mixed Try.func21 rfl (by kernel_rfl) (by rw [hl]; kernel_rfl) rfl (by kernel_rfl) s
/-! ### naskh.naskhlaw20.ParaSplits: function 6 -/
def r6_0 : List PS := [.mk (some 2) (.assign (.const (.bool false))) none]
def r6_1 : List PS := [.mk (some 4) (.move (.tmp 0)) none,
  .mk (some 5) (.call ⟨(.builtin .len), #[(.tmp 4)], #[22]⟩) none,
  .mk (some 6) (.binOp .gtr 3 (.tmp 5) (.const (.int .i64 500)) 3) none]
def r6_2 : List PS := [.mk (some 7) (.call ⟨(.value (.func 7)), #[], #[]⟩) none,
  .mk (some 2) (.assign (.tmp 7)) none]
def r6_3 : List PS := [.mk (some 8) (.call ⟨(.value (.func 18)), #[], #[]⟩) none,
  .mk (some 9) (.move (.tmp 0)) none,
  .mk (some 10) (.call ⟨(.value (.func 17)), #[(.tmp 8), (.tmp 9)], #[36, 22]⟩) none,
  .mk (some 3) (.assign (.tmp 10)) none]
def r6_4 : List PS := [.mk (some 11) (.move (.tmp 3)) none,
  .mk (some 12) (.move (.tmp 0)) none,
  .mk (some 13) (.call ⟨(.value (.func 20)), #[(.tmp 12)], #[22]⟩) none,
  .mk (some 14) (.call ⟨(.value (.func 19)), #[(.tmp 11), (.tmp 13)], #[34, 34]⟩) none,
  .mk (some 15) (.move (.tmp 14)) none,
  .mk (some 16) (.move (.tmp 3)) (some (15, true)),
  .mk (some 17) (.move (.tmp 0)) (some (15, true)),
  .mk (some 18) (.call ⟨(.builtin .len), #[(.tmp 17)], #[22]⟩) (some (15, true)),
  .mk (some 19) (.call ⟨(.value (.func 21)), #[(.tmp 16), (.tmp 18)], #[34, 3]⟩) (some (15, true)),
  .mk (some 20) (.pick (.tmp 15) (.tmp 19) (.const (.bool false))) none,
  .mk (some 21) (.move (.tmp 20)) none,
  .mk (some 22) (.call ⟨(.value (.func 7)), #[], #[]⟩) (some (21, true)),
  .mk (some 23) (.pick (.tmp 21) (.tmp 22) (.const (.bool false))) none,
  .mk (some 2) (.assign (.tmp 23)) none]
def c6 : PC := (.seq (.reg false r6_0) (.seq (.seq (.reg false r6_1) (.cond (.tmp 6) (.seq (.reg false r6_2) .ret) .skip)) (.seq (.reg false r6_3) (.seq (.reg false r6_4) .ret))))
theorem e6 {args : List PV} {h : Heap} {K : PV → Heap → Prop} (hl : args.length = 1) (s : pwp Try.prog [] c6 (fin Try.prog [.tmp 2] h K) (slots0 (olds args)) h) : CanP Try.prog 6 args h K :=
  can_of2 (n := 24) mixed Try.func6 rfl (by kernel_rfl) (by rw [hl]; kernel_rfl) rfl (by kernel_rfl) s
end Go.Proofs.Ytenmbhjjnfmlhaa
