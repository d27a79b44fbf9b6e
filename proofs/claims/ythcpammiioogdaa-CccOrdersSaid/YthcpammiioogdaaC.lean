/-
  The functions that the statements of this seat reach, told in short, and facts on their types. Printed by this project's own program.
  Conditions: none.
-/
import Derived.Test.YthcpammiioogdaaPmO
import Derived.Test.YthcpammiioogdaaProg
import Derived.KernelRfl
namespace Go.Proofs.Ythcpammiioogdaa
open Go.Pm
set_option maxRecDepth 100000
set_option linter.unusedVariables false
theorem mixed : Try.prog.follows .mixedOrders = true := by kernel_rfl
theorem tag3 : tag Try.prog 3 = some false := by kernel_rfl
theorem tsz3 : tsz Try.prog 3 = some 1 := by kernel_rfl
theorem und3 : und Try.prog 3 = true := by kernel_rfl
theorem ik3 : ik Try.prog 3 = some .i64 := by kernel_rfl
theorem kd3 : kd Try.prog 3 = none := by kernel_rfl
theorem esz3 : esz Try.prog 3 = none := by kernel_rfl
theorem zc3 : zc Try.prog 3 = some [.int .i64 0] := by kernel_rfl
theorem ars3 : ars Try.prog 3 = none := by kernel_rfl
theorem tag4 : tag Try.prog 4 = some false := by kernel_rfl
theorem tsz4 : tsz Try.prog 4 = some 1 := by kernel_rfl
theorem und4 : und Try.prog 4 = true := by kernel_rfl
theorem ik4 : ik Try.prog 4 = none := by kernel_rfl
theorem kd4 : kd Try.prog 4 = some 3 := by kernel_rfl
theorem esz4 : esz Try.prog 4 = none := by kernel_rfl
theorem zc4 : zc Try.prog 4 = some [.bool false] := by kernel_rfl
theorem ars4 : ars Try.prog 4 = none := by kernel_rfl
theorem tag5 : tag Try.prog 5 = some false := by kernel_rfl
theorem tsz5 : tsz Try.prog 5 = some 1 := by kernel_rfl
theorem und5 : und Try.prog 5 = true := by kernel_rfl
theorem ik5 : ik Try.prog 5 = some .u8 := by kernel_rfl
theorem kd5 : kd Try.prog 5 = none := by kernel_rfl
theorem esz5 : esz Try.prog 5 = none := by kernel_rfl
theorem zc5 : zc Try.prog 5 = some [.int .u8 0] := by kernel_rfl
theorem ars5 : ars Try.prog 5 = none := by kernel_rfl
theorem tag9 : tag Try.prog 9 = some false := by kernel_rfl
theorem tsz9 : tsz Try.prog 9 = some 1 := by kernel_rfl
theorem und9 : und Try.prog 9 = true := by kernel_rfl
theorem ik9 : ik Try.prog 9 = none := by kernel_rfl
theorem kd9 : kd Try.prog 9 = some 0 := by kernel_rfl
theorem esz9 : esz Try.prog 9 = none := by kernel_rfl
theorem zc9 : zc Try.prog 9 = some [.str ⟨#[]⟩] := by kernel_rfl
theorem ars9 : ars Try.prog 9 = none := by kernel_rfl
theorem tag22 : tag Try.prog 22 = some false := by kernel_rfl
theorem tsz22 : tsz Try.prog 22 = some 1 := by kernel_rfl
theorem und22 : und Try.prog 22 = true := by kernel_rfl
theorem ik22 : ik Try.prog 22 = none := by kernel_rfl
theorem kd22 : kd Try.prog 22 = some 1 := by kernel_rfl
theorem esz22 : esz Try.prog 22 = some 1 := by kernel_rfl
theorem elt22 : elt Try.prog 22 = some 3 := by kernel_rfl
theorem zc22 : zc Try.prog 22 = some [.nils] := by kernel_rfl
theorem ars22 : ars Try.prog 22 = none := by kernel_rfl
theorem eli22 : eli Try.prog 22 = some (1, 8, [.int .i64 0]) := by kernel_rfl
theorem tag24 : tag Try.prog 24 = some false := by kernel_rfl
theorem tsz24 : tsz Try.prog 24 = some 1 := by kernel_rfl
theorem und24 : und Try.prog 24 = true := by kernel_rfl
theorem ik24 : ik Try.prog 24 = none := by kernel_rfl
theorem kd24 : kd Try.prog 24 = some 2 := by kernel_rfl
theorem esz24 : esz Try.prog 24 = none := by kernel_rfl
theorem zc24 : zc Try.prog 24 = some [.nilp] := by kernel_rfl
theorem ars24 : ars Try.prog 24 = none := by kernel_rfl
theorem tag30 : tag Try.prog 30 = some false := by kernel_rfl
theorem tsz30 : tsz Try.prog 30 = some 1 := by kernel_rfl
theorem und30 : und Try.prog 30 = true := by kernel_rfl
theorem ik30 : ik Try.prog 30 = none := by kernel_rfl
theorem kd30 : kd Try.prog 30 = some 2 := by kernel_rfl
theorem esz30 : esz Try.prog 30 = none := by kernel_rfl
theorem zc30 : zc Try.prog 30 = some [.nilp] := by kernel_rfl
theorem ars30 : ars Try.prog 30 = none := by kernel_rfl
theorem tag32 : tag Try.prog 32 = some true := by kernel_rfl
theorem tsz32 : tsz Try.prog 32 = some 1 := by kernel_rfl
theorem und32 : und Try.prog 32 = true := by kernel_rfl
theorem ik32 : ik Try.prog 32 = none := by kernel_rfl
theorem kd32 : kd Try.prog 32 = none := by kernel_rfl
theorem esz32 : esz Try.prog 32 = none := by kernel_rfl
theorem zc32 : zc Try.prog 32 = some [.nilp] := by kernel_rfl
theorem ars32 : ars Try.prog 32 = none := by kernel_rfl
theorem fld32_0 : fld Try.prog 32 0 = some (0, false, 1) := by kernel_rfl
theorem plc32 : plc Try.prog 32 = some fun i => [(0, 1)][i]? := by kernel_rfl
theorem tag34 : tag Try.prog 34 = some true := by kernel_rfl
theorem tsz34 : tsz Try.prog 34 = some 1 := by kernel_rfl
theorem und34 : und Try.prog 34 = true := by kernel_rfl
theorem ik34 : ik Try.prog 34 = none := by kernel_rfl
theorem kd34 : kd Try.prog 34 = none := by kernel_rfl
theorem esz34 : esz Try.prog 34 = none := by kernel_rfl
theorem zc34 : zc Try.prog 34 = some [.nilp] := by kernel_rfl
theorem ars34 : ars Try.prog 34 = none := by kernel_rfl
theorem fld34_0 : fld Try.prog 34 0 = some (0, true, 1) := by kernel_rfl
theorem plc34 : plc Try.prog 34 = some fun i => [(0, 1)][i]? := by kernel_rfl
theorem tag36 : tag Try.prog 36 = some false := by kernel_rfl
theorem tsz36 : tsz Try.prog 36 = some 1 := by kernel_rfl
theorem und36 : und Try.prog 36 = true := by kernel_rfl
theorem ik36 : ik Try.prog 36 = some .i64 := by kernel_rfl
theorem kd36 : kd Try.prog 36 = none := by kernel_rfl
theorem esz36 : esz Try.prog 36 = none := by kernel_rfl
theorem zc36 : zc Try.prog 36 = some [.int .i64 0] := by kernel_rfl
theorem ars36 : ars Try.prog 36 = none := by kernel_rfl
theorem tag39 : tag Try.prog 39 = some false := by kernel_rfl
theorem tsz39 : tsz Try.prog 39 = some 1 := by kernel_rfl
theorem und39 : und Try.prog 39 = true := by kernel_rfl
theorem ik39 : ik Try.prog 39 = none := by kernel_rfl
theorem kd39 : kd Try.prog 39 = some 1 := by kernel_rfl
theorem esz39 : esz Try.prog 39 = some 3 := by kernel_rfl
theorem elt39 : elt Try.prog 39 = some 62 := by kernel_rfl
theorem zc39 : zc Try.prog 39 = some [.nils] := by kernel_rfl
theorem ars39 : ars Try.prog 39 = none := by kernel_rfl
theorem eli39 : eli Try.prog 39 = some (3, 24, [.int .i64 0, .int .i64 0, .int .i64 0]) := by kernel_rfl
theorem tag45 : tag Try.prog 45 = some false := by kernel_rfl
theorem tsz45 : tsz Try.prog 45 = some 1 := by kernel_rfl
theorem und45 : und Try.prog 45 = true := by kernel_rfl
theorem ik45 : ik Try.prog 45 = none := by kernel_rfl
theorem kd45 : kd Try.prog 45 = none := by kernel_rfl
theorem esz45 : esz Try.prog 45 = none := by kernel_rfl
theorem zc45 : zc Try.prog 45 = some [.nilf] := by kernel_rfl
theorem ars45 : ars Try.prog 45 = none := by kernel_rfl
theorem tag46 : tag Try.prog 46 = some false := by kernel_rfl
theorem tsz46 : tsz Try.prog 46 = some 1 := by kernel_rfl
theorem und46 : und Try.prog 46 = true := by kernel_rfl
theorem ik46 : ik Try.prog 46 = none := by kernel_rfl
theorem kd46 : kd Try.prog 46 = none := by kernel_rfl
theorem esz46 : esz Try.prog 46 = none := by kernel_rfl
theorem zc46 : zc Try.prog 46 = some [.nilf] := by kernel_rfl
theorem ars46 : ars Try.prog 46 = none := by kernel_rfl
theorem tag49 : tag Try.prog 49 = some false := by kernel_rfl
theorem tsz49 : tsz Try.prog 49 = some 1 := by kernel_rfl
theorem und49 : und Try.prog 49 = true := by kernel_rfl
theorem ik49 : ik Try.prog 49 = some .u64 := by kernel_rfl
theorem kd49 : kd Try.prog 49 = none := by kernel_rfl
theorem esz49 : esz Try.prog 49 = none := by kernel_rfl
theorem zc49 : zc Try.prog 49 = some [.int .u64 0] := by kernel_rfl
theorem ars49 : ars Try.prog 49 = none := by kernel_rfl
theorem tag51 : tag Try.prog 51 = some false := by kernel_rfl
theorem tsz51 : tsz Try.prog 51 = some 1 := by kernel_rfl
theorem und51 : und Try.prog 51 = true := by kernel_rfl
theorem ik51 : ik Try.prog 51 = none := by kernel_rfl
theorem kd51 : kd Try.prog 51 = some 1 := by kernel_rfl
theorem esz51 : esz Try.prog 51 = some 128 := by kernel_rfl
theorem elt51 : elt Try.prog 51 = some 57 := by kernel_rfl
theorem zc51 : zc Try.prog 51 = some [.nils] := by kernel_rfl
theorem ars51 : ars Try.prog 51 = none := by kernel_rfl
theorem eli51 : eli Try.prog 51 = some (128, 1024, List.replicate 128 (.int .i64 0)) := by kernel_rfl
theorem tag53 : tag Try.prog 53 = some true := by kernel_rfl
theorem tsz53 : tsz Try.prog 53 = some 2 := by kernel_rfl
theorem und53 : und Try.prog 53 = true := by kernel_rfl
theorem ik53 : ik Try.prog 53 = none := by kernel_rfl
theorem kd53 : kd Try.prog 53 = none := by kernel_rfl
theorem esz53 : esz Try.prog 53 = none := by kernel_rfl
theorem zc53 : zc Try.prog 53 = some [.nils, .nils] := by kernel_rfl
theorem ars53 : ars Try.prog 53 = none := by kernel_rfl
theorem fld53_0 : fld Try.prog 53 0 = some (0, false, 1) := by kernel_rfl
theorem fld53_1 : fld Try.prog 53 1 = some (1, false, 1) := by kernel_rfl
theorem plc53 : plc Try.prog 53 = some fun i => [(0, 1), (1, 1)][i]? := by kernel_rfl
theorem tag55 : tag Try.prog 55 = some true := by kernel_rfl
theorem tsz55 : tsz Try.prog 55 = some 4 := by kernel_rfl
theorem und55 : und Try.prog 55 = true := by kernel_rfl
theorem ik55 : ik Try.prog 55 = none := by kernel_rfl
theorem kd55 : kd Try.prog 55 = none := by kernel_rfl
theorem esz55 : esz Try.prog 55 = none := by kernel_rfl
theorem zc55 : zc Try.prog 55 = some [.nils, .nils, .int .i64 0, .bool false] := by kernel_rfl
theorem ars55 : ars Try.prog 55 = none := by kernel_rfl
theorem fld55_0 : fld Try.prog 55 0 = some (0, true, 2) := by kernel_rfl
theorem fld55_1 : fld Try.prog 55 1 = some (2, false, 1) := by kernel_rfl
theorem fld55_2 : fld Try.prog 55 2 = some (3, false, 1) := by kernel_rfl
theorem plc55 : plc Try.prog 55 = some fun i => [(0, 2), (2, 1), (3, 1)][i]? := by kernel_rfl
theorem tag57 : tag Try.prog 57 = some true := by kernel_rfl
theorem tsz57 : tsz Try.prog 57 = some 128 := by kernel_rfl
theorem und57 : und Try.prog 57 = true := by kernel_rfl
theorem ik57 : ik Try.prog 57 = none := by kernel_rfl
theorem kd57 : kd Try.prog 57 = some 266 := by kernel_rfl
theorem esz57 : esz Try.prog 57 = none := by kernel_rfl
theorem zc57 : zc Try.prog 57 = some (List.replicate 128 (.int .i64 0)) := by kernel_rfl
theorem ars57 : ars Try.prog 57 = some (128, 1, false) := by kernel_rfl
theorem plc57 : plc Try.prog 57 = some fun i => some (i * 1, 1) := by kernel_rfl
theorem tag62 : tag Try.prog 62 = some true := by kernel_rfl
theorem tsz62 : tsz Try.prog 62 = some 3 := by kernel_rfl
theorem und62 : und Try.prog 62 = true := by kernel_rfl
theorem ik62 : ik Try.prog 62 = none := by kernel_rfl
theorem kd62 : kd Try.prog 62 = some 16 := by kernel_rfl
theorem esz62 : esz Try.prog 62 = none := by kernel_rfl
theorem zc62 : zc Try.prog 62 = some [.int .i64 0, .int .i64 0, .int .i64 0] := by kernel_rfl
theorem ars62 : ars Try.prog 62 = none := by kernel_rfl
theorem fld62_0 : fld Try.prog 62 0 = some (0, false, 1) := by kernel_rfl
theorem fld62_1 : fld Try.prog 62 1 = some (1, false, 1) := by kernel_rfl
theorem fld62_2 : fld Try.prog 62 2 = some (2, false, 1) := by kernel_rfl
theorem plc62 : plc Try.prog 62 = some fun i => [(0, 1), (1, 1), (2, 1)][i]? := by kernel_rfl
theorem tag66 : tag Try.prog 66 = some false := by kernel_rfl
theorem tsz66 : tsz Try.prog 66 = some 1 := by kernel_rfl
theorem und66 : und Try.prog 66 = true := by kernel_rfl
theorem ik66 : ik Try.prog 66 = some .i64 := by kernel_rfl
theorem kd66 : kd Try.prog 66 = none := by kernel_rfl
theorem esz66 : esz Try.prog 66 = none := by kernel_rfl
theorem zc66 : zc Try.prog 66 = some [.int .i64 0] := by kernel_rfl
theorem ars66 : ars Try.prog 66 = none := by kernel_rfl
theorem tag74 : tag Try.prog 74 = some false := by kernel_rfl
theorem tsz74 : tsz Try.prog 74 = some 1 := by kernel_rfl
theorem und74 : und Try.prog 74 = true := by kernel_rfl
theorem ik74 : ik Try.prog 74 = some .u32 := by kernel_rfl
theorem kd74 : kd Try.prog 74 = none := by kernel_rfl
theorem esz74 : esz Try.prog 74 = none := by kernel_rfl
theorem zc74 : zc Try.prog 74 = some [.int .u32 0] := by kernel_rfl
theorem ars74 : ars Try.prog 74 = none := by kernel_rfl
theorem tag76 : tag Try.prog 76 = some false := by kernel_rfl
theorem tsz76 : tsz Try.prog 76 = some 1 := by kernel_rfl
theorem und76 : und Try.prog 76 = true := by kernel_rfl
theorem ik76 : ik Try.prog 76 = some .u64 := by kernel_rfl
theorem kd76 : kd Try.prog 76 = none := by kernel_rfl
theorem esz76 : esz Try.prog 76 = none := by kernel_rfl
theorem zc76 : zc Try.prog 76 = some [.int .u64 0] := by kernel_rfl
theorem ars76 : ars Try.prog 76 = none := by kernel_rfl
theorem tag78 : tag Try.prog 78 = some false := by kernel_rfl
theorem tsz78 : tsz Try.prog 78 = some 1 := by kernel_rfl
theorem und78 : und Try.prog 78 = true := by kernel_rfl
theorem ik78 : ik Try.prog 78 = none := by kernel_rfl
theorem kd78 : kd Try.prog 78 = some 2 := by kernel_rfl
theorem esz78 : esz Try.prog 78 = none := by kernel_rfl
theorem zc78 : zc Try.prog 78 = some [.nilp] := by kernel_rfl
theorem ars78 : ars Try.prog 78 = none := by kernel_rfl
theorem tag81 : tag Try.prog 81 = some false := by kernel_rfl
theorem tsz81 : tsz Try.prog 81 = some 1 := by kernel_rfl
theorem und81 : und Try.prog 81 = true := by kernel_rfl
theorem ik81 : ik Try.prog 81 = some .u64 := by kernel_rfl
theorem kd81 : kd Try.prog 81 = none := by kernel_rfl
theorem esz81 : esz Try.prog 81 = none := by kernel_rfl
theorem zc81 : zc Try.prog 81 = some [.int .u64 0] := by kernel_rfl
theorem ars81 : ars Try.prog 81 = none := by kernel_rfl
theorem tag85 : tag Try.prog 85 = some false := by kernel_rfl
theorem tsz85 : tsz Try.prog 85 = some 1 := by kernel_rfl
theorem und85 : und Try.prog 85 = true := by kernel_rfl
theorem ik85 : ik Try.prog 85 = none := by kernel_rfl
theorem kd85 : kd Try.prog 85 = some 2 := by kernel_rfl
theorem esz85 : esz Try.prog 85 = none := by kernel_rfl
theorem zc85 : zc Try.prog 85 = some [.nilp] := by kernel_rfl
theorem ars85 : ars Try.prog 85 = none := by kernel_rfl
theorem tag87 : tag Try.prog 87 = some false := by kernel_rfl
theorem tsz87 : tsz Try.prog 87 = some 1 := by kernel_rfl
theorem und87 : und Try.prog 87 = true := by kernel_rfl
theorem ik87 : ik Try.prog 87 = none := by kernel_rfl
theorem kd87 : kd Try.prog 87 = some 2 := by kernel_rfl
theorem esz87 : esz Try.prog 87 = none := by kernel_rfl
theorem zc87 : zc Try.prog 87 = some [.nilp] := by kernel_rfl
theorem ars87 : ars Try.prog 87 = none := by kernel_rfl
theorem ft : (tag Try.prog 3 = some false) ∧
    (tsz Try.prog 3 = some 1) ∧
    (und Try.prog 3 = true) ∧
    (ik Try.prog 3 = some .i64) ∧
    (kd Try.prog 3 = none) ∧
    (esz Try.prog 3 = none) ∧
    (zc Try.prog 3 = some [.int .i64 0]) ∧
    (ars Try.prog 3 = none) ∧
    (tag Try.prog 4 = some false) ∧
    (tsz Try.prog 4 = some 1) ∧
    (und Try.prog 4 = true) ∧
    (ik Try.prog 4 = none) ∧
    (kd Try.prog 4 = some 3) ∧
    (esz Try.prog 4 = none) ∧
    (zc Try.prog 4 = some [.bool false]) ∧
    (ars Try.prog 4 = none) ∧
    (tag Try.prog 5 = some false) ∧
    (tsz Try.prog 5 = some 1) ∧
    (und Try.prog 5 = true) ∧
    (ik Try.prog 5 = some .u8) ∧
    (kd Try.prog 5 = none) ∧
    (esz Try.prog 5 = none) ∧
    (zc Try.prog 5 = some [.int .u8 0]) ∧
    (ars Try.prog 5 = none) ∧
    (tag Try.prog 9 = some false) ∧
    (tsz Try.prog 9 = some 1) ∧
    (und Try.prog 9 = true) ∧
    (ik Try.prog 9 = none) ∧
    (kd Try.prog 9 = some 0) ∧
    (esz Try.prog 9 = none) ∧
    (zc Try.prog 9 = some [.str ⟨#[]⟩]) ∧
    (ars Try.prog 9 = none) ∧
    (tag Try.prog 22 = some false) ∧
    (tsz Try.prog 22 = some 1) ∧
    (und Try.prog 22 = true) ∧
    (ik Try.prog 22 = none) ∧
    (kd Try.prog 22 = some 1) ∧
    (esz Try.prog 22 = some 1) ∧
    (elt Try.prog 22 = some 3) ∧
    (zc Try.prog 22 = some [.nils]) ∧
    (ars Try.prog 22 = none) ∧
    (eli Try.prog 22 = some (1, 8, [.int .i64 0])) ∧
    (tag Try.prog 24 = some false) ∧
    (tsz Try.prog 24 = some 1) ∧
    (und Try.prog 24 = true) ∧
    (ik Try.prog 24 = none) ∧
    (kd Try.prog 24 = some 2) ∧
    (esz Try.prog 24 = none) ∧
    (zc Try.prog 24 = some [.nilp]) ∧
    (ars Try.prog 24 = none) ∧
    (tag Try.prog 30 = some false) ∧
    (tsz Try.prog 30 = some 1) ∧
    (und Try.prog 30 = true) ∧
    (ik Try.prog 30 = none) ∧
    (kd Try.prog 30 = some 2) ∧
    (esz Try.prog 30 = none) ∧
    (zc Try.prog 30 = some [.nilp]) ∧
    (ars Try.prog 30 = none) ∧
    (tag Try.prog 32 = some true) ∧
    (tsz Try.prog 32 = some 1) ∧
    (und Try.prog 32 = true) ∧
    (ik Try.prog 32 = none) ∧
    (kd Try.prog 32 = none) ∧
    (esz Try.prog 32 = none) ∧
    (zc Try.prog 32 = some [.nilp]) ∧
    (ars Try.prog 32 = none) ∧
    (fld Try.prog 32 0 = some (0, false, 1)) ∧
    (plc Try.prog 32 = some fun i => [(0, 1)][i]?) ∧
    (tag Try.prog 34 = some true) ∧
    (tsz Try.prog 34 = some 1) ∧
    (und Try.prog 34 = true) ∧
    (ik Try.prog 34 = none) ∧
    (kd Try.prog 34 = none) ∧
    (esz Try.prog 34 = none) ∧
    (zc Try.prog 34 = some [.nilp]) ∧
    (ars Try.prog 34 = none) ∧
    (fld Try.prog 34 0 = some (0, true, 1)) ∧
    (plc Try.prog 34 = some fun i => [(0, 1)][i]?) ∧
    (tag Try.prog 36 = some false) ∧
    (tsz Try.prog 36 = some 1) ∧
    (und Try.prog 36 = true) ∧
    (ik Try.prog 36 = some .i64) ∧
    (kd Try.prog 36 = none) ∧
    (esz Try.prog 36 = none) ∧
    (zc Try.prog 36 = some [.int .i64 0]) ∧
    (ars Try.prog 36 = none) ∧
    (tag Try.prog 39 = some false) ∧
    (tsz Try.prog 39 = some 1) ∧
    (und Try.prog 39 = true) ∧
    (ik Try.prog 39 = none) ∧
    (kd Try.prog 39 = some 1) ∧
    (esz Try.prog 39 = some 3) ∧
    (elt Try.prog 39 = some 62) ∧
    (zc Try.prog 39 = some [.nils]) ∧
    (ars Try.prog 39 = none) ∧
    (eli Try.prog 39 = some (3, 24, [.int .i64 0, .int .i64 0, .int .i64 0])) ∧
    (tag Try.prog 45 = some false) ∧
    (tsz Try.prog 45 = some 1) ∧
    (und Try.prog 45 = true) ∧
    (ik Try.prog 45 = none) ∧
    (kd Try.prog 45 = none) ∧
    (esz Try.prog 45 = none) ∧
    (zc Try.prog 45 = some [.nilf]) ∧
    (ars Try.prog 45 = none) ∧
    (tag Try.prog 46 = some false) ∧
    (tsz Try.prog 46 = some 1) ∧
    (und Try.prog 46 = true) ∧
    (ik Try.prog 46 = none) ∧
    (kd Try.prog 46 = none) ∧
    (esz Try.prog 46 = none) ∧
    (zc Try.prog 46 = some [.nilf]) ∧
    (ars Try.prog 46 = none) ∧
    (tag Try.prog 49 = some false) ∧
    (tsz Try.prog 49 = some 1) ∧
    (und Try.prog 49 = true) ∧
    (ik Try.prog 49 = some .u64) ∧
    (kd Try.prog 49 = none) ∧
    (esz Try.prog 49 = none) ∧
    (zc Try.prog 49 = some [.int .u64 0]) ∧
    (ars Try.prog 49 = none) ∧
    (tag Try.prog 51 = some false) ∧
    (tsz Try.prog 51 = some 1) ∧
    (und Try.prog 51 = true) ∧
    (ik Try.prog 51 = none) ∧
    (kd Try.prog 51 = some 1) ∧
    (esz Try.prog 51 = some 128) ∧
    (elt Try.prog 51 = some 57) ∧
    (zc Try.prog 51 = some [.nils]) ∧
    (ars Try.prog 51 = none) ∧
    (eli Try.prog 51 = some (128, 1024, List.replicate 128 (.int .i64 0))) ∧
    (tag Try.prog 53 = some true) ∧
    (tsz Try.prog 53 = some 2) ∧
    (und Try.prog 53 = true) ∧
    (ik Try.prog 53 = none) ∧
    (kd Try.prog 53 = none) ∧
    (esz Try.prog 53 = none) ∧
    (zc Try.prog 53 = some [.nils, .nils]) ∧
    (ars Try.prog 53 = none) ∧
    (fld Try.prog 53 0 = some (0, false, 1)) ∧
    (fld Try.prog 53 1 = some (1, false, 1)) ∧
    (plc Try.prog 53 = some fun i => [(0, 1), (1, 1)][i]?) ∧
    (tag Try.prog 55 = some true) ∧
    (tsz Try.prog 55 = some 4) ∧
    (und Try.prog 55 = true) ∧
    (ik Try.prog 55 = none) ∧
    (kd Try.prog 55 = none) ∧
    (esz Try.prog 55 = none) ∧
    (zc Try.prog 55 = some [.nils, .nils, .int .i64 0, .bool false]) ∧
    (ars Try.prog 55 = none) ∧
    (fld Try.prog 55 0 = some (0, true, 2)) ∧
    (fld Try.prog 55 1 = some (2, false, 1)) ∧
    (fld Try.prog 55 2 = some (3, false, 1)) ∧
    (plc Try.prog 55 = some fun i => [(0, 2), (2, 1), (3, 1)][i]?) ∧
    (tag Try.prog 57 = some true) ∧
    (tsz Try.prog 57 = some 128) ∧
    (und Try.prog 57 = true) ∧
    (ik Try.prog 57 = none) ∧
    (kd Try.prog 57 = some 266) ∧
    (esz Try.prog 57 = none) ∧
    (zc Try.prog 57 = some (List.replicate 128 (.int .i64 0))) ∧
    (ars Try.prog 57 = some (128, 1, false)) ∧
    (plc Try.prog 57 = some fun i => some (i * 1, 1)) ∧
    (tag Try.prog 62 = some true) ∧
    (tsz Try.prog 62 = some 3) ∧
    (und Try.prog 62 = true) ∧
    (ik Try.prog 62 = none) ∧
    (kd Try.prog 62 = some 16) ∧
    (esz Try.prog 62 = none) ∧
    (zc Try.prog 62 = some [.int .i64 0, .int .i64 0, .int .i64 0]) ∧
    (ars Try.prog 62 = none) ∧
    (fld Try.prog 62 0 = some (0, false, 1)) ∧
    (fld Try.prog 62 1 = some (1, false, 1)) ∧
    (fld Try.prog 62 2 = some (2, false, 1)) ∧
    (plc Try.prog 62 = some fun i => [(0, 1), (1, 1), (2, 1)][i]?) ∧
    (tag Try.prog 66 = some false) ∧
    (tsz Try.prog 66 = some 1) ∧
    (und Try.prog 66 = true) ∧
    (ik Try.prog 66 = some .i64) ∧
    (kd Try.prog 66 = none) ∧
    (esz Try.prog 66 = none) ∧
    (zc Try.prog 66 = some [.int .i64 0]) ∧
    (ars Try.prog 66 = none) ∧
    (tag Try.prog 74 = some false) ∧
    (tsz Try.prog 74 = some 1) ∧
    (und Try.prog 74 = true) ∧
    (ik Try.prog 74 = some .u32) ∧
    (kd Try.prog 74 = none) ∧
    (esz Try.prog 74 = none) ∧
    (zc Try.prog 74 = some [.int .u32 0]) ∧
    (ars Try.prog 74 = none) ∧
    (tag Try.prog 76 = some false) ∧
    (tsz Try.prog 76 = some 1) ∧
    (und Try.prog 76 = true) ∧
    (ik Try.prog 76 = some .u64) ∧
    (kd Try.prog 76 = none) ∧
    (esz Try.prog 76 = none) ∧
    (zc Try.prog 76 = some [.int .u64 0]) ∧
    (ars Try.prog 76 = none) ∧
    (tag Try.prog 78 = some false) ∧
    (tsz Try.prog 78 = some 1) ∧
    (und Try.prog 78 = true) ∧
    (ik Try.prog 78 = none) ∧
    (kd Try.prog 78 = some 2) ∧
    (esz Try.prog 78 = none) ∧
    (zc Try.prog 78 = some [.nilp]) ∧
    (ars Try.prog 78 = none) ∧
    (tag Try.prog 81 = some false) ∧
    (tsz Try.prog 81 = some 1) ∧
    (und Try.prog 81 = true) ∧
    (ik Try.prog 81 = some .u64) ∧
    (kd Try.prog 81 = none) ∧
    (esz Try.prog 81 = none) ∧
    (zc Try.prog 81 = some [.int .u64 0]) ∧
    (ars Try.prog 81 = none) ∧
    (tag Try.prog 85 = some false) ∧
    (tsz Try.prog 85 = some 1) ∧
    (und Try.prog 85 = true) ∧
    (ik Try.prog 85 = none) ∧
    (kd Try.prog 85 = some 2) ∧
    (esz Try.prog 85 = none) ∧
    (zc Try.prog 85 = some [.nilp]) ∧
    (ars Try.prog 85 = none) ∧
    (tag Try.prog 87 = some false) ∧
    (tsz Try.prog 87 = some 1) ∧
    (und Try.prog 87 = true) ∧
    (ik Try.prog 87 = none) ∧
    (kd Try.prog 87 = some 2) ∧
    (esz Try.prog 87 = none) ∧
    (zc Try.prog 87 = some [.nilp]) ∧
    (ars Try.prog 87 = none) :=
  ⟨tag3, tsz3, und3, ik3, kd3, esz3, zc3, ars3, tag4, tsz4, und4, ik4, kd4, esz4, zc4, ars4, tag5, tsz5, und5, ik5, kd5, esz5, zc5, ars5, tag9, tsz9, und9, ik9, kd9, esz9, zc9, ars9, tag22, tsz22, und22, ik22, kd22, esz22, elt22, zc22, ars22, eli22, tag24, tsz24, und24, ik24, kd24, esz24, zc24, ars24, tag30, tsz30, und30, ik30, kd30, esz30, zc30, ars30, tag32, tsz32, und32, ik32, kd32, esz32, zc32, ars32, fld32_0, plc32, tag34, tsz34, und34, ik34, kd34, esz34, zc34, ars34, fld34_0, plc34, tag36, tsz36, und36, ik36, kd36, esz36, zc36, ars36, tag39, tsz39, und39, ik39, kd39, esz39, elt39, zc39, ars39, eli39, tag45, tsz45, und45, ik45, kd45, esz45, zc45, ars45, tag46, tsz46, und46, ik46, kd46, esz46, zc46, ars46, tag49, tsz49, und49, ik49, kd49, esz49, zc49, ars49, tag51, tsz51, und51, ik51, kd51, esz51, elt51, zc51, ars51, eli51, tag53, tsz53, und53, ik53, kd53, esz53, zc53, ars53, fld53_0, fld53_1, plc53, tag55, tsz55, und55, ik55, kd55, esz55, zc55, ars55, fld55_0, fld55_1, fld55_2, plc55, tag57, tsz57, und57, ik57, kd57, esz57, zc57, ars57, plc57, tag62, tsz62, und62, ik62, kd62, esz62, zc62, ars62, fld62_0, fld62_1, fld62_2, plc62, tag66, tsz66, und66, ik66, kd66, esz66, zc66, ars66, tag74, tsz74, und74, ik74, kd74, esz74, zc74, ars74, tag76, tsz76, und76, ik76, kd76, esz76, zc76, ars76, tag78, tsz78, und78, ik78, kd78, esz78, zc78, ars78, tag81, tsz81, und81, ik81, kd81, esz81, zc81, ars81, tag85, tsz85, und85, ik85, kd85, esz85, zc85, ars85, tag87, tsz87, und87, ik87, kd87, esz87, zc87, ars87⟩
/-! ### naskh.trie.may: function 30 -/
def r30_0 : List PS := [.mk (some 2) (.assign (.const (.int .i64 0))) none]
def r30_1 : List PS := [.mk (some 6) (.move (.tmp 0)) none,
  .mk (some 7) (.call ⟨(.builtin .len), #[(.tmp 6)], #[39]⟩) none,
  .mk (some 8) (.binOp .gtr 3 (.tmp 7) (.const (.int .i64 4096)) 3) none]
def r30_2 : List PS := [.mk (some 2) (.assign (.const (.int .i64 6))) none]
def r30_3 : List PS := [.mk (some 3) (.assign (.const (.int .i64 (-1)))) none]
def r30_4 : List PS := [.mk (some 9) (.move (.tmp 0)) none,
  .mk (some 10) (.call ⟨(.builtin .len), #[(.tmp 9)], #[39]⟩) none,
  .mk (some 11) (.move (.const (.int .i64 0))) none]
def r30_5 : List PS := [.mk (some 12) (.binOp .lss 3 (.tmp 11) (.tmp 10) 3) none]
def r30_6 : List PS := [.mk (some 13) (.indexAddr 39 (.tmp 9) (.tmp 11)) none,
  .mk (some 14) (.load 62 (.tmp 13)) none,
  .mk (some 5) (.alloc 62) none,
  .mk none (.store 62 (.tmp 5) (.tmp 14)) none,
  .frz 5]
def r30_7 : List PS := [.mk (some 15) (.fieldAddr 62 (.tmp 5) 0) none,
  .mk (some 16) (.load 3 (.tmp 15)) none,
  .mk (some 17) (.move (.tmp 3)) none,
  .mk (some 18) (.binOp .leq 3 (.tmp 16) (.tmp 17) 3) none,
  .mk (some 19) (.move (.tmp 18)) none,
  .mk (some 20) (.fieldAddr 62 (.tmp 5) 1) (some (19, false)),
  .mk (some 21) (.load 3 (.tmp 20)) (some (19, false)),
  .mk (some 22) (.fieldAddr 62 (.tmp 5) 0) (some (19, false)),
  .mk (some 23) (.load 3 (.tmp 22)) (some (19, false)),
  .mk (some 24) (.binOp .lss 3 (.tmp 21) (.tmp 23) 3) (some (19, false)),
  .mk (some 25) (.pick (.tmp 19) (.const (.bool true)) (.tmp 24)) none,
  .mk (some 26) (.move (.tmp 25)) none,
  .mk (some 27) (.fieldAddr 62 (.tmp 5) 1) (some (26, false)),
  .mk (some 28) (.load 3 (.tmp 27)) (some (26, false)),
  .mk (some 29) (.binOp .gtr 3 (.tmp 28) (.const (.int .i64 1114111)) 3) (some (26, false)),
  .mk (some 30) (.pick (.tmp 26) (.const (.bool true)) (.tmp 29)) none]
def r30_8 : List PS := [.mk (some 2) (.assign (.const (.int .i64 10))) none]
def r30_9 : List PS := [.mk (some 31) (.fieldAddr 62 (.tmp 5) 1) none,
  .mk (some 32) (.load 3 (.tmp 31)) none,
  .mk (some 3) (.assign (.tmp 32)) none]
def r30_10 : List PS := [.mk (some 33) (.binOp .add 3 (.tmp 11) (.const (.int .i64 1)) 3) none,
  .mk (some 11) (.move (.tmp 33)) none]
def r30_11 : List PS := [.mk (some 2) (.assign (.const (.int .i64 0))) none]
def c30 : PC := (.seq (.reg false r30_0) (.seq (.seq (.reg false r30_1) (.cond (.tmp 8) (.seq (.reg false r30_2) .ret) .skip)) (.seq (.reg false r30_3) (.seq (.seq (.reg false r30_4) (.block 0 (.loop (.seq (.reg false r30_5) (.seq (.cond (.tmp 12) .skip (.exit 0)) (.seq (.block 1 (.seq (.reg false r30_6) (.seq (.seq (.reg false r30_7) (.cond (.tmp 30) (.seq (.reg false r30_8) .ret) .skip)) (.reg false r30_9)))) (.reg false r30_10))))))) (.seq (.reg false r30_11) .ret)))))
theorem e30 {args : List PV} {h : Heap} {K : PV → Heap → Prop} (hl : args.length = 1) (s : pwp Try.prog [5] c30 (fin Try.prog [.tmp 2] h K) (slots0 (olds args)) h) : CanP Try.prog 30 args h K :=
  can_of2 (n := 34) mixed Try.func30 rfl (by kernel_rfl) (by rw [hl]; kernel_rfl) rfl (by kernel_rfl) s
/-! ### naskh.trie.even: function 47 -/
def r47_0 : List PS := [.mk (some 2) (.alloc 57) none]
def r47_1 : List PS := [.mk (some 3) (.alloc 57) none]
def r47_2 : List PS := [.mk (some 5) (.move (.const (.int .i64 0))) none]
def r47_3 : List PS := [.mk (some 6) (.binOp .lss 3 (.tmp 5) (.const (.int .i64 128)) 3) none]
def r47_4 : List PS := [.mk (some 7) (.move (.tmp 5)) none,
  .mk (some 4) (.assign (.tmp 7)) none]
def r47_5 : List PS := [.mk (some 8) (.move (.tmp 4)) none,
  .mk (some 9) (.move (.tmp 0)) none,
  .mk (some 10) (.indexAddr 57 (.tmp 3) (.tmp 8)) none,
  .mk none (.store 3 (.tmp 10) (.tmp 9)) none]
def r47_6 : List PS := [.mk (some 11) (.binOp .add 3 (.tmp 5) (.const (.int .i64 1)) 3) none,
  .mk (some 5) (.move (.tmp 11)) none]
def r47_7 : List PS := [.mk (some 12) (.load 57 (.tmp 3)) none,
  .mk none (.store 57 (.tmp 2) (.tmp 12)) none]
def c47 : PC := (.seq (.reg false r47_0) (.seq (.reg false r47_1) (.seq (.seq (.reg false r47_2) (.block 0 (.loop (.seq (.reg false r47_3) (.seq (.cond (.tmp 6) .skip (.exit 0)) (.seq (.block 1 (.seq (.reg false r47_4) (.reg false r47_5))) (.reg false r47_6))))))) (.seq (.reg false r47_7) .ret))))
theorem e47 {args : List PV} {h : Heap} {K : PV → Heap → Prop} (hl : args.length = 1) (s : pwp Try.prog [2, 3] c47 (fin Try.prog [.cell 2 57] h K) (slots0 (olds args)) h) : CanP Try.prog 47 args h K :=
  can_of2 (n := 13) mixed Try.func47 rfl (by kernel_rfl) (by rw [hl]; kernel_rfl) rfl (by kernel_rfl) s
/-! ### naskh.trie.filled: function 31 -/
def r31_0 : List PS := [.mk (some 8) (.alloc 57) none,
  .mk (some 9) (.assign (.const (.int .i64 0))) none]
def r31_1 : List PS := [.mk (some 14) (.move (.tmp 3)) none,
  .mk (some 15) (.call ⟨(.value (.func 47)), #[(.tmp 14)], #[3]⟩) none,
  .mk (some 10) (.alloc 57) none,
  .mk none (.store 57 (.tmp 10) (.tmp 15)) none]
def r31_2 : List PS := [.mk (some 16) (.move (.tmp 1)) none,
  .mk (some 17) (.binOp .mul 3 (.tmp 16) (.const (.int .i64 128)) 3) none,
  .mk (some 11) (.assign (.tmp 17)) none]
def r31_3 : List PS := [.mk (some 18) (.move (.tmp 2)) none,
  .mk (some 19) (.move (.tmp 0)) none,
  .mk (some 20) (.call ⟨(.builtin .len), #[(.tmp 19)], #[39]⟩) none,
  .mk (some 21) (.binOp .lss 3 (.tmp 18) (.tmp 20) 3) none,
  .mk (some 22) (.move (.tmp 21)) none,
  .mk (some 23) (.move (.tmp 0)) (some (22, true)),
  .mk (some 24) (.move (.tmp 2)) (some (22, true)),
  .mk (some 25) (.indexAddr 39 (.tmp 23) (.tmp 24)) (some (22, true)),
  .mk (some 26) (.fieldAddr 62 (.tmp 25) 0) (some (22, true)),
  .mk (some 27) (.load 3 (.tmp 26)) (some (22, true)),
  .mk (some 28) (.move (.tmp 11)) (some (22, true)),
  .mk (some 29) (.binOp .add 3 (.tmp 28) (.const (.int .i64 128)) 3) (some (22, true)),
  .mk (some 30) (.binOp .lss 3 (.tmp 27) (.tmp 29) 3) (some (22, true)),
  .mk (some 31) (.pick (.tmp 22) (.tmp 30) (.const (.bool false))) none]
def r31_4 : List PS := [.mk (some 34) (.move (.tmp 0)) none,
  .mk (some 35) (.move (.tmp 2)) none,
  .mk (some 36) (.indexAddr 39 (.tmp 34) (.tmp 35)) none,
  .mk (some 37) (.load 62 (.tmp 36)) none,
  .mk (some 12) (.alloc 62) none,
  .mk none (.store 62 (.tmp 12) (.tmp 37)) none,
  .frz 12]
def r31_5 : List PS := [.mk (some 38) (.fieldAddr 62 (.tmp 12) 0) none,
  .mk (some 39) (.load 3 (.tmp 38)) none,
  .mk (some 40) (.move (.tmp 11)) none,
  .mk (some 41) (.call ⟨(.builtin .max), #[(.tmp 39), (.tmp 40)], #[3, 3]⟩) none,
  .mk (some 13) (.assign (.tmp 41)) none]
def r31_6 : List PS := [.mk (some 42) (.move (.tmp 13)) none,
  .mk (some 43) (.fieldAddr 62 (.tmp 12) 1) none,
  .mk (some 44) (.load 3 (.tmp 43)) none,
  .mk (some 45) (.move (.tmp 11)) none,
  .mk (some 46) (.binOp .add 3 (.tmp 45) (.const (.int .i64 128)) 3) none,
  .mk (some 47) (.binOp .sub 3 (.tmp 46) (.const (.int .i64 1)) 3) none,
  .mk (some 48) (.call ⟨(.builtin .min), #[(.tmp 44), (.tmp 47)], #[3, 3]⟩) none,
  .mk (some 49) (.binOp .leq 3 (.tmp 42) (.tmp 48) 3) none]
def r31_7 : List PS := [.mk (some 52) (.move (.tmp 13)) none,
  .mk (some 53) (.move (.tmp 11)) none,
  .mk (some 54) (.binOp .sub 3 (.tmp 52) (.tmp 53) 3) none,
  .mk (some 55) (.fieldAddr 62 (.tmp 12) 2) none,
  .mk (some 56) (.load 3 (.tmp 55)) none,
  .mk (some 57) (.indexAddr 57 (.tmp 10) (.tmp 54)) none,
  .mk none (.store 3 (.tmp 57) (.tmp 56)) none]
def r31_8 : List PS := [.mk (some 50) (.move (.tmp 13)) none,
  .mk (some 51) (.binOp .add 3 (.tmp 50) (.const (.int .i64 1)) 3) none,
  .mk (some 13) (.assign (.tmp 51)) none]
def r31_9 : List PS := [.mk (some 58) (.fieldAddr 62 (.tmp 12) 1) none,
  .mk (some 59) (.load 3 (.tmp 58)) none,
  .mk (some 60) (.move (.tmp 11)) none,
  .mk (some 61) (.binOp .add 3 (.tmp 60) (.const (.int .i64 128)) 3) none,
  .mk (some 62) (.binOp .geq 3 (.tmp 59) (.tmp 61) 3) none]
def r31_10 : List PS := [.mk (some 32) (.move (.tmp 2)) none,
  .mk (some 33) (.binOp .add 3 (.tmp 32) (.const (.int .i64 1)) 3) none,
  .mk (some 2) (.assign (.tmp 33)) none]
def r31_11 : List PS := [.mk (some 63) (.load 57 (.tmp 10)) none,
  .mk (some 64) (.move (.tmp 2)) none,
  .mk none (.store 57 (.tmp 8) (.tmp 63)) none,
  .mk (some 9) (.assign (.tmp 64)) none]
def c31 : PC := (.seq (.reg false r31_0) (.seq (.reg false r31_1) (.seq (.reg false r31_2) (.seq (.block 0 (.loop (.seq (.seq (.reg false r31_3) (.cond (.tmp 31) .skip (.exit 0))) (.seq (.block 1 (.seq (.reg false r31_4) (.seq (.seq (.reg false r31_5) (.block 2 (.loop (.seq (.seq (.reg false r31_6) (.cond (.tmp 49) .skip (.exit 2))) (.seq (.block 3 (.reg false r31_7)) (.reg false r31_8)))))) (.seq (.reg false r31_9) (.cond (.tmp 62) (.exit 0) .skip))))) (.reg false r31_10))))) (.seq (.reg false r31_11) .ret)))))
theorem e31 {args : List PV} {h : Heap} {K : PV → Heap → Prop} (hl : args.length = 4) (s : pwp Try.prog [8, 10, 12] c31 (fin Try.prog [.cell 8 57, .tmp 9] h K) (slots0 (olds args)) h) : CanP Try.prog 31 args h K :=
  can_of2 (n := 65) mixed Try.func31 rfl (by kernel_rfl) (by rw [hl]; kernel_rfl) rfl (by kernel_rfl) s
/-! ### (*naskh.trie.stages).add: function 32 -/
def r32_0 : List PS := [.mk (some 3) (.box 57 (.tmp 1)) none,
  .mk (some 4) (.assign (.const (.int .i64 0))) none]
def r32_1 : List PS := [.mk (some 6) (.move (.tmp 0)) none,
  .mk (some 7) (.nilCheck (.tmp 6)) none,
  .mk (some 8) (.fieldAddr 53 (.tmp 7) 1) none,
  .mk (some 9) (.load 51 (.tmp 8)) none,
  .mk (some 10) (.call ⟨(.builtin .len), #[(.tmp 9)], #[51]⟩) none,
  .mk (some 11) (.move (.const (.int .i64 0))) none]
def r32_2 : List PS := [.mk (some 12) (.binOp .lss 3 (.tmp 11) (.tmp 10) 3) none]
def r32_3 : List PS := [.mk (some 13) (.move (.tmp 11)) none,
  .mk (some 5) (.assign (.tmp 13)) none]
def r32_4 : List PS := [.mk (some 14) (.move (.tmp 0)) none,
  .mk (some 15) (.nilCheck (.tmp 14)) none,
  .mk (some 16) (.fieldAddr 53 (.tmp 15) 1) none,
  .mk (some 17) (.load 51 (.tmp 16)) none,
  .mk (some 18) (.move (.tmp 5)) none,
  .mk (some 19) (.indexAddr 51 (.tmp 17) (.tmp 18)) none,
  .mk (some 20) (.load 57 (.tmp 19)) none,
  .mk (some 21) (.load 57 (.tmp 3)) none,
  .mk (some 22) (.binOp .eql 57 (.tmp 20) (.tmp 21) 57) none]
def r32_5 : List PS := [.mk (some 23) (.move (.tmp 5)) none,
  .mk (some 4) (.assign (.tmp 23)) none]
def r32_6 : List PS := [.mk (some 24) (.binOp .add 3 (.tmp 11) (.const (.int .i64 1)) 3) none,
  .mk (some 11) (.move (.tmp 24)) none]
def r32_7 : List PS := [.mk (some 25) (.move (.tmp 0)) none,
  .mk (some 26) (.move (.tmp 0)) none,
  .mk (some 27) (.nilCheck (.tmp 26)) none,
  .mk (some 28) (.fieldAddr 53 (.tmp 27) 1) none,
  .mk (some 29) (.load 51 (.tmp 28)) none,
  .mk (some 30) (.load 57 (.tmp 3)) none,
  .mk (some 31) (.buildSlice 51 1 #[(0, (.tmp 30))]) none,
  .mk (some 32) (.call ⟨(.builtin .append), #[(.tmp 29), (.tmp 31)], #[51, 51]⟩) none,
  .mk (some 33) (.nilCheck (.tmp 25)) none,
  .mk (some 34) (.fieldAddr 53 (.tmp 33) 1) none,
  .mk none (.store 51 (.tmp 34) (.tmp 32)) none]
def r32_8 : List PS := [.mk (some 35) (.move (.tmp 0)) none,
  .mk (some 36) (.nilCheck (.tmp 35)) none,
  .mk (some 37) (.fieldAddr 53 (.tmp 36) 1) none,
  .mk (some 38) (.load 51 (.tmp 37)) none,
  .mk (some 39) (.call ⟨(.builtin .len), #[(.tmp 38)], #[51]⟩) none,
  .mk (some 40) (.binOp .sub 3 (.tmp 39) (.const (.int .i64 1)) 3) none,
  .mk (some 4) (.assign (.tmp 40)) none]
def c32 : PC := (.seq (.reg false r32_0) (.seq (.seq (.reg false r32_1) (.block 0 (.loop (.seq (.reg false r32_2) (.seq (.cond (.tmp 12) .skip (.exit 0)) (.seq (.block 1 (.seq (.reg false r32_3) (.seq (.reg true r32_4) (.cond (.tmp 22) (.seq (.reg false r32_5) .ret) .skip)))) (.reg false r32_6))))))) (.seq (.reg true r32_7) (.seq (.reg false r32_8) .ret))))
theorem e32 {args : List PV} {h : Heap} {K : PV → Heap → Prop} (hl : args.length = 2) (s : pwp Try.prog [] c32 (fin Try.prog [.tmp 4] h K) (slots0 (olds args)) h) : CanP Try.prog 32 args h K :=
  can_of2 (n := 41) mixed Try.func32 rfl (by kernel_rfl) (by rw [hl]; kernel_rfl) rfl (by kernel_rfl) s
/-! ### naskh.trie.Build: function 19 -/
def r19_0 : List PS := [.mk (some 4) (.assign (.const (.pointer none))) none,
  .mk (some 5) (.assign (.const (.int .i64 0))) none]
def r19_1 : List PS := [.mk (some 13) (.move (.tmp 0)) none,
  .mk (some 14) (.call ⟨(.value (.func 30)), #[(.tmp 13)], #[39]⟩) none,
  .mk (some 6) (.assign (.tmp 14)) none]
def r19_2 : List PS := [.mk (some 15) (.move (.tmp 6)) none,
  .mk (some 16) (.binOp .neq 36 (.tmp 15) (.const (.int .i64 0)) 36) none]
def r19_3 : List PS := [.mk (some 17) (.move (.tmp 6)) none,
  .mk (some 4) (.assign (.const (.pointer none))) none,
  .mk (some 5) (.assign (.tmp 17)) none]
def r19_4 : List PS := [.mk (some 18) (.move (.tmp 1)) none,
  .mk (some 19) (.build 55 #[(1, (.tmp 18)), (2, (.const (.bool true)))]) none,
  .mk (some 20) (.box 55 (.tmp 19)) none,
  .mk (some 7) (.assign (.tmp 20)) none]
def r19_5 : List PS := [.mk (some 21) (.move (.tmp 7)) none,
  .mk (some 22) (.makeSlice 22 (.const (.int .i64 8704)) (.const (.int .i64 8704))) none,
  .mk (some 23) (.nilCheck (.tmp 21)) none,
  .mk (some 24) (.fieldAddr 55 (.tmp 23) 0) none,
  .mk (some 25) (.fieldAddr 53 (.tmp 24) 0) none,
  .mk none (.store 22 (.tmp 25) (.tmp 22)) none]
def r19_6 : List PS := [.mk (some 8) (.assign (.const (.int .i64 0))) none]
def r19_7 : List PS := [.mk (some 26) (.build 57 #[]) none,
  .mk (some 9) (.alloc 57) none,
  .mk none (.store 57 (.tmp 9) (.tmp 26)) none,
  .mk (some 10) (.assign (.const (.int .i64 (-1)))) none]
def r19_8 : List PS := [.mk (some 27) (.move (.const (.int .i64 0))) none]
def r19_9 : List PS := [.mk (some 28) (.binOp .lss 3 (.tmp 27) (.const (.int .i64 8704)) 3) none]
def r19_10 : List PS := [.mk (some 29) (.move (.tmp 27)) none,
  .mk (some 11) (.assign (.tmp 29)) none]
def r19_11 : List PS := [.mk (some 12) (.alloc 57) none]
def r19_12 : List PS := [.mk (some 31) (.move (.tmp 0)) none,
  .mk (some 32) (.move (.tmp 11)) none,
  .mk (some 33) (.move (.tmp 8)) none,
  .mk (some 34) (.move (.tmp 1)) none,
  .mk (some 35) (.call ⟨(.value (.func 31)), #[(.tmp 31), (.tmp 32), (.tmp 33), (.tmp 34)], #[39, 3, 3, 3]⟩) none,
  .mk (some 30) (.move (.tmp 35)) none,
  .mk (some 36) (.extract (.tmp 30) 0) none,
  .mk (some 37) (.extract (.tmp 30) 1) none,
  .mk none (.store 57 (.tmp 12) (.tmp 36)) none,
  .frz 12,
  .mk (some 8) (.assign (.tmp 37)) none]
def r19_13 : List PS := [.mk (some 38) (.move (.tmp 10)) none,
  .mk (some 39) (.binOp .lss 3 (.tmp 38) (.const (.int .i64 0)) 3) none,
  .mk (some 40) (.move (.tmp 39)) none,
  .mk (some 41) (.load 57 (.tmp 12)) (some (40, false)),
  .mk (some 42) (.load 57 (.tmp 9)) (some (40, false)),
  .mk (some 43) (.binOp .neq 57 (.tmp 41) (.tmp 42) 57) (some (40, false)),
  .mk (some 44) (.pick (.tmp 40) (.const (.bool true)) (.tmp 43)) none]
def r19_14 : List PS := [.mk (some 45) (.load 57 (.tmp 12)) none,
  .mk (some 46) (.move (.tmp 7)) none,
  .mk (some 47) (.nilCheck (.tmp 46)) none,
  .mk (some 48) (.fieldAddr 55 (.tmp 47) 0) none,
  .mk (some 49) (.load 57 (.tmp 12)) none,
  .mk (some 50) (.call ⟨(.value (.func 32)), #[(.tmp 48), (.tmp 49)], #[53, 57]⟩) none,
  .mk none (.store 57 (.tmp 9) (.tmp 45)) none,
  .mk (some 10) (.assign (.tmp 50)) none]
def r19_15 : List PS := [.mk (some 51) (.move (.tmp 7)) none,
  .mk (some 52) (.nilCheck (.tmp 51)) none,
  .mk (some 53) (.fieldAddr 55 (.tmp 52) 0) none,
  .mk (some 54) (.fieldAddr 53 (.tmp 53) 0) none,
  .mk (some 55) (.load 22 (.tmp 54)) none,
  .mk (some 56) (.move (.tmp 11)) none,
  .mk (some 57) (.move (.tmp 10)) none,
  .mk (some 58) (.indexAddr 22 (.tmp 55) (.tmp 56)) none,
  .mk none (.store 3 (.tmp 58) (.tmp 57)) none]
def r19_16 : List PS := [.mk (some 59) (.binOp .add 3 (.tmp 27) (.const (.int .i64 1)) 3) none,
  .mk (some 27) (.move (.tmp 59)) none]
def r19_17 : List PS := [.frzc 7 0,
  .frzc 7 1,
  .mk (some 60) (.move (.tmp 7)) none,
  .mk (some 4) (.assign (.tmp 60)) none,
  .mk (some 5) (.assign (.const (.int .i64 0))) none]
def c19 : PC := (.seq (.reg false r19_0) (.seq (.seq (.reg false r19_1) (.seq (.reg false r19_2) (.cond (.tmp 16) (.seq (.reg false r19_3) .ret) .skip))) (.seq (.reg false r19_4) (.seq (.reg false r19_5) (.seq (.reg false r19_6) (.seq (.reg false r19_7) (.seq (.seq (.reg false r19_8) (.block 0 (.loop (.seq (.reg false r19_9) (.seq (.cond (.tmp 28) .skip (.exit 0)) (.seq (.block 1 (.seq (.reg false r19_10) (.seq (.reg false r19_11) (.seq (.reg false r19_12) (.seq (.seq (.reg false r19_13) (.cond (.tmp 44) (.reg true r19_14) .skip)) (.reg false r19_15)))))) (.reg false r19_16))))))) (.seq (.reg false r19_17) .ret))))))))
theorem e19 {args : List PV} {h : Heap} {K : PV → Heap → Prop} (hl : args.length = 2) (s : pwp Try.prog [9, 12, 20, 45, 50] c19 (fin Try.prog [.tmp 4, .tmp 5] h K) (slots0 (olds args)) h) : CanP Try.prog 19 args h K :=
  can_of2 (n := 61) mixed Try.func19 rfl (by kernel_rfl) (by rw [hl]; kernel_rfl) rfl (by kernel_rfl) s
/-! ### naskh.api.Combining: function 20 -/
def r20_0 : List PS := [.mk (some 0) (.assign (.const (.slice none 0 0))) none]
def r20_1 : List PS := [.mk (some 1) (.build 62 #[(0, (.const (.int .i64 768))), (1, (.const (.int .i64 788))), (2, (.const (.int .i64 230)))]) none,
  .mk (some 2) (.build 62 #[(0, (.const (.int .i64 789))), (1, (.const (.int .i64 789))), (2, (.const (.int .i64 232)))]) none,
  .mk (some 3) (.build 62 #[(0, (.const (.int .i64 790))), (1, (.const (.int .i64 793))), (2, (.const (.int .i64 220)))]) none,
  .mk (some 4) (.build 62 #[(0, (.const (.int .i64 794))), (1, (.const (.int .i64 794))), (2, (.const (.int .i64 232)))]) none,
  .mk (some 5) (.build 62 #[(0, (.const (.int .i64 795))), (1, (.const (.int .i64 795))), (2, (.const (.int .i64 216)))]) none,
  .mk (some 6) (.build 62 #[(0, (.const (.int .i64 796))), (1, (.const (.int .i64 800))), (2, (.const (.int .i64 220)))]) none,
  .mk (some 7) (.build 62 #[(0, (.const (.int .i64 801))), (1, (.const (.int .i64 802))), (2, (.const (.int .i64 202)))]) none,
  .mk (some 8) (.build 62 #[(0, (.const (.int .i64 803))), (1, (.const (.int .i64 806))), (2, (.const (.int .i64 220)))]) none,
  .mk (some 9) (.build 62 #[(0, (.const (.int .i64 807))), (1, (.const (.int .i64 808))), (2, (.const (.int .i64 202)))]) none,
  .mk (some 10) (.build 62 #[(0, (.const (.int .i64 809))), (1, (.const (.int .i64 819))), (2, (.const (.int .i64 220)))]) none,
  .mk (some 11) (.build 62 #[(0, (.const (.int .i64 820))), (1, (.const (.int .i64 824))), (2, (.const (.int .i64 1)))]) none,
  .mk (some 12) (.build 62 #[(0, (.const (.int .i64 825))), (1, (.const (.int .i64 828))), (2, (.const (.int .i64 220)))]) none,
  .mk (some 13) (.build 62 #[(0, (.const (.int .i64 829))), (1, (.const (.int .i64 836))), (2, (.const (.int .i64 230)))]) none,
  .mk (some 14) (.build 62 #[(0, (.const (.int .i64 837))), (1, (.const (.int .i64 837))), (2, (.const (.int .i64 240)))]) none,
  .mk (some 15) (.build 62 #[(0, (.const (.int .i64 838))), (1, (.const (.int .i64 838))), (2, (.const (.int .i64 230)))]) none,
  .mk (some 16) (.build 62 #[(0, (.const (.int .i64 839))), (1, (.const (.int .i64 841))), (2, (.const (.int .i64 220)))]) none,
  .mk (some 17) (.build 62 #[(0, (.const (.int .i64 842))), (1, (.const (.int .i64 844))), (2, (.const (.int .i64 230)))]) none,
  .mk (some 18) (.build 62 #[(0, (.const (.int .i64 845))), (1, (.const (.int .i64 846))), (2, (.const (.int .i64 220)))]) none,
  .mk (some 19) (.build 62 #[(0, (.const (.int .i64 848))), (1, (.const (.int .i64 850))), (2, (.const (.int .i64 230)))]) none,
  .mk (some 20) (.build 62 #[(0, (.const (.int .i64 851))), (1, (.const (.int .i64 854))), (2, (.const (.int .i64 220)))]) none,
  .mk (some 21) (.build 62 #[(0, (.const (.int .i64 855))), (1, (.const (.int .i64 855))), (2, (.const (.int .i64 230)))]) none,
  .mk (some 22) (.build 62 #[(0, (.const (.int .i64 856))), (1, (.const (.int .i64 856))), (2, (.const (.int .i64 232)))]) none,
  .mk (some 23) (.build 62 #[(0, (.const (.int .i64 857))), (1, (.const (.int .i64 858))), (2, (.const (.int .i64 220)))]) none,
  .mk (some 24) (.build 62 #[(0, (.const (.int .i64 859))), (1, (.const (.int .i64 859))), (2, (.const (.int .i64 230)))]) none,
  .mk (some 25) (.build 62 #[(0, (.const (.int .i64 860))), (1, (.const (.int .i64 860))), (2, (.const (.int .i64 233)))]) none,
  .mk (some 26) (.build 62 #[(0, (.const (.int .i64 861))), (1, (.const (.int .i64 862))), (2, (.const (.int .i64 234)))]) none,
  .mk (some 27) (.build 62 #[(0, (.const (.int .i64 863))), (1, (.const (.int .i64 863))), (2, (.const (.int .i64 233)))]) none,
  .mk (some 28) (.build 62 #[(0, (.const (.int .i64 864))), (1, (.const (.int .i64 865))), (2, (.const (.int .i64 234)))]) none,
  .mk (some 29) (.build 62 #[(0, (.const (.int .i64 866))), (1, (.const (.int .i64 866))), (2, (.const (.int .i64 233)))]) none,
  .mk (some 30) (.build 62 #[(0, (.const (.int .i64 867))), (1, (.const (.int .i64 879))), (2, (.const (.int .i64 230)))]) none,
  .mk (some 31) (.build 62 #[(0, (.const (.int .i64 1425))), (1, (.const (.int .i64 1425))), (2, (.const (.int .i64 220)))]) none,
  .mk (some 32) (.build 62 #[(0, (.const (.int .i64 1426))), (1, (.const (.int .i64 1429))), (2, (.const (.int .i64 230)))]) none,
  .mk (some 33) (.build 62 #[(0, (.const (.int .i64 1430))), (1, (.const (.int .i64 1430))), (2, (.const (.int .i64 220)))]) none,
  .mk (some 34) (.build 62 #[(0, (.const (.int .i64 1431))), (1, (.const (.int .i64 1433))), (2, (.const (.int .i64 230)))]) none,
  .mk (some 35) (.build 62 #[(0, (.const (.int .i64 1434))), (1, (.const (.int .i64 1434))), (2, (.const (.int .i64 222)))]) none,
  .mk (some 36) (.build 62 #[(0, (.const (.int .i64 1435))), (1, (.const (.int .i64 1435))), (2, (.const (.int .i64 220)))]) none,
  .mk (some 37) (.build 62 #[(0, (.const (.int .i64 1436))), (1, (.const (.int .i64 1441))), (2, (.const (.int .i64 230)))]) none,
  .mk (some 38) (.build 62 #[(0, (.const (.int .i64 1442))), (1, (.const (.int .i64 1447))), (2, (.const (.int .i64 220)))]) none,
  .mk (some 39) (.build 62 #[(0, (.const (.int .i64 1448))), (1, (.const (.int .i64 1449))), (2, (.const (.int .i64 230)))]) none,
  .mk (some 40) (.build 62 #[(0, (.const (.int .i64 1450))), (1, (.const (.int .i64 1450))), (2, (.const (.int .i64 220)))]) none,
  .mk (some 41) (.build 62 #[(0, (.const (.int .i64 1451))), (1, (.const (.int .i64 1452))), (2, (.const (.int .i64 230)))]) none,
  .mk (some 42) (.build 62 #[(0, (.const (.int .i64 1453))), (1, (.const (.int .i64 1453))), (2, (.const (.int .i64 222)))]) none,
  .mk (some 43) (.build 62 #[(0, (.const (.int .i64 1454))), (1, (.const (.int .i64 1454))), (2, (.const (.int .i64 228)))]) none,
  .mk (some 44) (.build 62 #[(0, (.const (.int .i64 1455))), (1, (.const (.int .i64 1455))), (2, (.const (.int .i64 230)))]) none,
  .mk (some 45) (.build 62 #[(0, (.const (.int .i64 1456))), (1, (.const (.int .i64 1456))), (2, (.const (.int .i64 10)))]) none,
  .mk (some 46) (.build 62 #[(0, (.const (.int .i64 1457))), (1, (.const (.int .i64 1457))), (2, (.const (.int .i64 11)))]) none,
  .mk (some 47) (.build 62 #[(0, (.const (.int .i64 1458))), (1, (.const (.int .i64 1458))), (2, (.const (.int .i64 12)))]) none,
  .mk (some 48) (.build 62 #[(0, (.const (.int .i64 1459))), (1, (.const (.int .i64 1459))), (2, (.const (.int .i64 13)))]) none,
  .mk (some 49) (.build 62 #[(0, (.const (.int .i64 1460))), (1, (.const (.int .i64 1460))), (2, (.const (.int .i64 14)))]) none,
  .mk (some 50) (.build 62 #[(0, (.const (.int .i64 1461))), (1, (.const (.int .i64 1461))), (2, (.const (.int .i64 15)))]) none,
  .mk (some 51) (.build 62 #[(0, (.const (.int .i64 1462))), (1, (.const (.int .i64 1462))), (2, (.const (.int .i64 16)))]) none,
  .mk (some 52) (.build 62 #[(0, (.const (.int .i64 1463))), (1, (.const (.int .i64 1463))), (2, (.const (.int .i64 17)))]) none,
  .mk (some 53) (.build 62 #[(0, (.const (.int .i64 1464))), (1, (.const (.int .i64 1464))), (2, (.const (.int .i64 18)))]) none,
  .mk (some 54) (.build 62 #[(0, (.const (.int .i64 1465))), (1, (.const (.int .i64 1466))), (2, (.const (.int .i64 19)))]) none,
  .mk (some 55) (.build 62 #[(0, (.const (.int .i64 1467))), (1, (.const (.int .i64 1467))), (2, (.const (.int .i64 20)))]) none,
  .mk (some 56) (.build 62 #[(0, (.const (.int .i64 1468))), (1, (.const (.int .i64 1468))), (2, (.const (.int .i64 21)))]) none,
  .mk (some 57) (.build 62 #[(0, (.const (.int .i64 1469))), (1, (.const (.int .i64 1469))), (2, (.const (.int .i64 22)))]) none,
  .mk (some 58) (.build 62 #[(0, (.const (.int .i64 1471))), (1, (.const (.int .i64 1471))), (2, (.const (.int .i64 23)))]) none,
  .mk (some 59) (.build 62 #[(0, (.const (.int .i64 1473))), (1, (.const (.int .i64 1473))), (2, (.const (.int .i64 24)))]) none,
  .mk (some 60) (.build 62 #[(0, (.const (.int .i64 1474))), (1, (.const (.int .i64 1474))), (2, (.const (.int .i64 25)))]) none,
  .mk (some 61) (.build 62 #[(0, (.const (.int .i64 1476))), (1, (.const (.int .i64 1476))), (2, (.const (.int .i64 230)))]) none,
  .mk (some 62) (.build 62 #[(0, (.const (.int .i64 1477))), (1, (.const (.int .i64 1477))), (2, (.const (.int .i64 220)))]) none,
  .mk (some 63) (.build 62 #[(0, (.const (.int .i64 1479))), (1, (.const (.int .i64 1479))), (2, (.const (.int .i64 18)))]) none,
  .mk (some 64) (.build 62 #[(0, (.const (.int .i64 1552))), (1, (.const (.int .i64 1559))), (2, (.const (.int .i64 230)))]) none,
  .mk (some 65) (.build 62 #[(0, (.const (.int .i64 1560))), (1, (.const (.int .i64 1560))), (2, (.const (.int .i64 30)))]) none,
  .mk (some 66) (.build 62 #[(0, (.const (.int .i64 1561))), (1, (.const (.int .i64 1561))), (2, (.const (.int .i64 31)))]) none,
  .mk (some 67) (.build 62 #[(0, (.const (.int .i64 1562))), (1, (.const (.int .i64 1562))), (2, (.const (.int .i64 32)))]) none,
  .mk (some 68) (.build 62 #[(0, (.const (.int .i64 1611))), (1, (.const (.int .i64 1611))), (2, (.const (.int .i64 27)))]) none,
  .mk (some 69) (.build 62 #[(0, (.const (.int .i64 1612))), (1, (.const (.int .i64 1612))), (2, (.const (.int .i64 28)))]) none,
  .mk (some 70) (.build 62 #[(0, (.const (.int .i64 1613))), (1, (.const (.int .i64 1613))), (2, (.const (.int .i64 29)))]) none,
  .mk (some 71) (.build 62 #[(0, (.const (.int .i64 1614))), (1, (.const (.int .i64 1614))), (2, (.const (.int .i64 30)))]) none,
  .mk (some 72) (.build 62 #[(0, (.const (.int .i64 1615))), (1, (.const (.int .i64 1615))), (2, (.const (.int .i64 31)))]) none,
  .mk (some 73) (.build 62 #[(0, (.const (.int .i64 1616))), (1, (.const (.int .i64 1616))), (2, (.const (.int .i64 32)))]) none,
  .mk (some 74) (.build 62 #[(0, (.const (.int .i64 1617))), (1, (.const (.int .i64 1617))), (2, (.const (.int .i64 33)))]) none,
  .mk (some 75) (.build 62 #[(0, (.const (.int .i64 1618))), (1, (.const (.int .i64 1618))), (2, (.const (.int .i64 34)))]) none,
  .mk (some 76) (.build 62 #[(0, (.const (.int .i64 1619))), (1, (.const (.int .i64 1620))), (2, (.const (.int .i64 230)))]) none,
  .mk (some 77) (.build 62 #[(0, (.const (.int .i64 1621))), (1, (.const (.int .i64 1622))), (2, (.const (.int .i64 220)))]) none,
  .mk (some 78) (.build 62 #[(0, (.const (.int .i64 1623))), (1, (.const (.int .i64 1627))), (2, (.const (.int .i64 230)))]) none,
  .mk (some 79) (.build 62 #[(0, (.const (.int .i64 1628))), (1, (.const (.int .i64 1628))), (2, (.const (.int .i64 220)))]) none,
  .mk (some 80) (.build 62 #[(0, (.const (.int .i64 1629))), (1, (.const (.int .i64 1630))), (2, (.const (.int .i64 230)))]) none,
  .mk (some 81) (.build 62 #[(0, (.const (.int .i64 1631))), (1, (.const (.int .i64 1631))), (2, (.const (.int .i64 220)))]) none,
  .mk (some 82) (.build 62 #[(0, (.const (.int .i64 1648))), (1, (.const (.int .i64 1648))), (2, (.const (.int .i64 35)))]) none,
  .mk (some 83) (.build 62 #[(0, (.const (.int .i64 1750))), (1, (.const (.int .i64 1756))), (2, (.const (.int .i64 230)))]) none,
  .mk (some 84) (.build 62 #[(0, (.const (.int .i64 1759))), (1, (.const (.int .i64 1762))), (2, (.const (.int .i64 230)))]) none,
  .mk (some 85) (.build 62 #[(0, (.const (.int .i64 1763))), (1, (.const (.int .i64 1763))), (2, (.const (.int .i64 220)))]) none,
  .mk (some 86) (.build 62 #[(0, (.const (.int .i64 1764))), (1, (.const (.int .i64 1764))), (2, (.const (.int .i64 230)))]) none,
  .mk (some 87) (.build 62 #[(0, (.const (.int .i64 1767))), (1, (.const (.int .i64 1768))), (2, (.const (.int .i64 230)))]) none,
  .mk (some 88) (.build 62 #[(0, (.const (.int .i64 1770))), (1, (.const (.int .i64 1770))), (2, (.const (.int .i64 220)))]) none,
  .mk (some 89) (.build 62 #[(0, (.const (.int .i64 1771))), (1, (.const (.int .i64 1772))), (2, (.const (.int .i64 230)))]) none,
  .mk (some 90) (.build 62 #[(0, (.const (.int .i64 1773))), (1, (.const (.int .i64 1773))), (2, (.const (.int .i64 220)))]) none,
  .mk (some 91) (.build 62 #[(0, (.const (.int .i64 1809))), (1, (.const (.int .i64 1809))), (2, (.const (.int .i64 36)))]) none,
  .mk (some 92) (.build 62 #[(0, (.const (.int .i64 1840))), (1, (.const (.int .i64 1840))), (2, (.const (.int .i64 230)))]) none,
  .mk (some 93) (.build 62 #[(0, (.const (.int .i64 1841))), (1, (.const (.int .i64 1841))), (2, (.const (.int .i64 220)))]) none,
  .mk (some 94) (.build 62 #[(0, (.const (.int .i64 1842))), (1, (.const (.int .i64 1843))), (2, (.const (.int .i64 230)))]) none,
  .mk (some 95) (.build 62 #[(0, (.const (.int .i64 1844))), (1, (.const (.int .i64 1844))), (2, (.const (.int .i64 220)))]) none,
  .mk (some 96) (.build 62 #[(0, (.const (.int .i64 1845))), (1, (.const (.int .i64 1846))), (2, (.const (.int .i64 230)))]) none,
  .mk (some 97) (.build 62 #[(0, (.const (.int .i64 1847))), (1, (.const (.int .i64 1849))), (2, (.const (.int .i64 220)))]) none,
  .mk (some 98) (.build 62 #[(0, (.const (.int .i64 1850))), (1, (.const (.int .i64 1850))), (2, (.const (.int .i64 230)))]) none,
  .mk (some 99) (.build 62 #[(0, (.const (.int .i64 1851))), (1, (.const (.int .i64 1852))), (2, (.const (.int .i64 220)))]) none,
  .mk (some 100) (.build 62 #[(0, (.const (.int .i64 1853))), (1, (.const (.int .i64 1853))), (2, (.const (.int .i64 230)))]) none,
  .mk (some 101) (.build 62 #[(0, (.const (.int .i64 1854))), (1, (.const (.int .i64 1854))), (2, (.const (.int .i64 220)))]) none,
  .mk (some 102) (.build 62 #[(0, (.const (.int .i64 1855))), (1, (.const (.int .i64 1857))), (2, (.const (.int .i64 230)))]) none,
  .mk (some 103) (.build 62 #[(0, (.const (.int .i64 1858))), (1, (.const (.int .i64 1858))), (2, (.const (.int .i64 220)))]) none,
  .mk (some 104) (.build 62 #[(0, (.const (.int .i64 1859))), (1, (.const (.int .i64 1859))), (2, (.const (.int .i64 230)))]) none,
  .mk (some 105) (.build 62 #[(0, (.const (.int .i64 1860))), (1, (.const (.int .i64 1860))), (2, (.const (.int .i64 220)))]) none,
  .mk (some 106) (.build 62 #[(0, (.const (.int .i64 1861))), (1, (.const (.int .i64 1861))), (2, (.const (.int .i64 230)))]) none,
  .mk (some 107) (.build 62 #[(0, (.const (.int .i64 1862))), (1, (.const (.int .i64 1862))), (2, (.const (.int .i64 220)))]) none,
  .mk (some 108) (.build 62 #[(0, (.const (.int .i64 1863))), (1, (.const (.int .i64 1863))), (2, (.const (.int .i64 230)))]) none,
  .mk (some 109) (.build 62 #[(0, (.const (.int .i64 1864))), (1, (.const (.int .i64 1864))), (2, (.const (.int .i64 220)))]) none,
  .mk (some 110) (.build 62 #[(0, (.const (.int .i64 1865))), (1, (.const (.int .i64 1866))), (2, (.const (.int .i64 230)))]) none,
  .mk (some 111) (.build 62 #[(0, (.const (.int .i64 2259))), (1, (.const (.int .i64 2259))), (2, (.const (.int .i64 220)))]) none,
  .mk (some 112) (.build 62 #[(0, (.const (.int .i64 2260))), (1, (.const (.int .i64 2273))), (2, (.const (.int .i64 230)))]) none,
  .mk (some 113) (.build 62 #[(0, (.const (.int .i64 2275))), (1, (.const (.int .i64 2275))), (2, (.const (.int .i64 220)))]) none,
  .mk (some 114) (.build 62 #[(0, (.const (.int .i64 2276))), (1, (.const (.int .i64 2277))), (2, (.const (.int .i64 230)))]) none,
  .mk (some 115) (.build 62 #[(0, (.const (.int .i64 2278))), (1, (.const (.int .i64 2278))), (2, (.const (.int .i64 220)))]) none,
  .mk (some 116) (.build 62 #[(0, (.const (.int .i64 2279))), (1, (.const (.int .i64 2280))), (2, (.const (.int .i64 230)))]) none,
  .mk (some 117) (.build 62 #[(0, (.const (.int .i64 2281))), (1, (.const (.int .i64 2281))), (2, (.const (.int .i64 220)))]) none,
  .mk (some 118) (.build 62 #[(0, (.const (.int .i64 2282))), (1, (.const (.int .i64 2284))), (2, (.const (.int .i64 230)))]) none,
  .mk (some 119) (.build 62 #[(0, (.const (.int .i64 2285))), (1, (.const (.int .i64 2287))), (2, (.const (.int .i64 220)))]) none,
  .mk (some 120) (.build 62 #[(0, (.const (.int .i64 2288))), (1, (.const (.int .i64 2288))), (2, (.const (.int .i64 27)))]) none,
  .mk (some 121) (.build 62 #[(0, (.const (.int .i64 2289))), (1, (.const (.int .i64 2289))), (2, (.const (.int .i64 28)))]) none,
  .mk (some 122) (.build 62 #[(0, (.const (.int .i64 2290))), (1, (.const (.int .i64 2290))), (2, (.const (.int .i64 29)))]) none,
  .mk (some 123) (.build 62 #[(0, (.const (.int .i64 2291))), (1, (.const (.int .i64 2293))), (2, (.const (.int .i64 230)))]) none,
  .mk (some 124) (.build 62 #[(0, (.const (.int .i64 2294))), (1, (.const (.int .i64 2294))), (2, (.const (.int .i64 220)))]) none,
  .mk (some 125) (.build 62 #[(0, (.const (.int .i64 2295))), (1, (.const (.int .i64 2296))), (2, (.const (.int .i64 230)))]) none,
  .mk (some 126) (.build 62 #[(0, (.const (.int .i64 2297))), (1, (.const (.int .i64 2298))), (2, (.const (.int .i64 220)))]) none,
  .mk (some 127) (.build 62 #[(0, (.const (.int .i64 2299))), (1, (.const (.int .i64 2303))), (2, (.const (.int .i64 230)))]) none,
  .mk (some 128) (.build 62 #[(0, (.const (.int .i64 8400))), (1, (.const (.int .i64 8401))), (2, (.const (.int .i64 230)))]) none,
  .mk (some 129) (.build 62 #[(0, (.const (.int .i64 64286))), (1, (.const (.int .i64 64286))), (2, (.const (.int .i64 26)))]) none,
  .mk (some 130) (.build 62 #[(0, (.const (.int .i64 65056))), (1, (.const (.int .i64 65062))), (2, (.const (.int .i64 230)))]) none,
  .mk (some 131) (.build 62 #[(0, (.const (.int .i64 65063))), (1, (.const (.int .i64 65069))), (2, (.const (.int .i64 220)))]) none,
  .mk (some 132) (.build 62 #[(0, (.const (.int .i64 65070))), (1, (.const (.int .i64 65071))), (2, (.const (.int .i64 230)))]) none,
  .mk (some 133) (.buildSlice 39 132 #[(0, (.tmp 1)), (1, (.tmp 2)), (2, (.tmp 3)), (3, (.tmp 4)), (4, (.tmp 5)), (5, (.tmp 6)), (6, (.tmp 7)), (7, (.tmp 8)), (8, (.tmp 9)), (9, (.tmp 10)), (10, (.tmp 11)), (11, (.tmp 12)), (12, (.tmp 13)), (13, (.tmp 14)), (14, (.tmp 15)), (15, (.tmp 16)), (16, (.tmp 17)), (17, (.tmp 18)), (18, (.tmp 19)), (19, (.tmp 20)), (20, (.tmp 21)), (21, (.tmp 22)), (22, (.tmp 23)), (23, (.tmp 24)), (24, (.tmp 25)), (25, (.tmp 26)), (26, (.tmp 27)), (27, (.tmp 28)), (28, (.tmp 29)), (29, (.tmp 30)), (30, (.tmp 31)), (31, (.tmp 32)), (32, (.tmp 33)), (33, (.tmp 34)), (34, (.tmp 35)), (35, (.tmp 36)), (36, (.tmp 37)), (37, (.tmp 38)), (38, (.tmp 39)), (39, (.tmp 40)), (40, (.tmp 41)), (41, (.tmp 42)), (42, (.tmp 43)), (43, (.tmp 44)), (44, (.tmp 45)), (45, (.tmp 46)), (46, (.tmp 47)), (47, (.tmp 48)), (48, (.tmp 49)), (49, (.tmp 50)), (50, (.tmp 51)), (51, (.tmp 52)), (52, (.tmp 53)), (53, (.tmp 54)), (54, (.tmp 55)), (55, (.tmp 56)), (56, (.tmp 57)), (57, (.tmp 58)), (58, (.tmp 59)), (59, (.tmp 60)), (60, (.tmp 61)), (61, (.tmp 62)), (62, (.tmp 63)), (63, (.tmp 64)), (64, (.tmp 65)), (65, (.tmp 66)), (66, (.tmp 67)), (67, (.tmp 68)), (68, (.tmp 69)), (69, (.tmp 70)), (70, (.tmp 71)), (71, (.tmp 72)), (72, (.tmp 73)), (73, (.tmp 74)), (74, (.tmp 75)), (75, (.tmp 76)), (76, (.tmp 77)), (77, (.tmp 78)), (78, (.tmp 79)), (79, (.tmp 80)), (80, (.tmp 81)), (81, (.tmp 82)), (82, (.tmp 83)), (83, (.tmp 84)), (84, (.tmp 85)), (85, (.tmp 86)), (86, (.tmp 87)), (87, (.tmp 88)), (88, (.tmp 89)), (89, (.tmp 90)), (90, (.tmp 91)), (91, (.tmp 92)), (92, (.tmp 93)), (93, (.tmp 94)), (94, (.tmp 95)), (95, (.tmp 96)), (96, (.tmp 97)), (97, (.tmp 98)), (98, (.tmp 99)), (99, (.tmp 100)), (100, (.tmp 101)), (101, (.tmp 102)), (102, (.tmp 103)), (103, (.tmp 104)), (104, (.tmp 105)), (105, (.tmp 106)), (106, (.tmp 107)), (107, (.tmp 108)), (108, (.tmp 109)), (109, (.tmp 110)), (110, (.tmp 111)), (111, (.tmp 112)), (112, (.tmp 113)), (113, (.tmp 114)), (114, (.tmp 115)), (115, (.tmp 116)), (116, (.tmp 117)), (117, (.tmp 118)), (118, (.tmp 119)), (119, (.tmp 120)), (120, (.tmp 121)), (121, (.tmp 122)), (122, (.tmp 123)), (123, (.tmp 124)), (124, (.tmp 125)), (125, (.tmp 126)), (126, (.tmp 127)), (127, (.tmp 128)), (128, (.tmp 129)), (129, (.tmp 130)), (130, (.tmp 131)), (131, (.tmp 132))]) none,
  .mk (some 0) (.assign (.tmp 133)) none]
def c20 : PC := (.seq (.reg false r20_0) (.seq (.reg false r20_1) .ret))
theorem e20 {args : List PV} {h : Heap} {K : PV → Heap → Prop} (hl : args.length = 0) (s : pwp Try.prog [] c20 (fin Try.prog [.tmp 0] h K) (slots0 (olds args)) h) : CanP Try.prog 20 args h K :=
  can_of2 (n := 134) mixed Try.func20 rfl (by kernel_rfl) (by rw [hl]; kernel_rfl) rfl (by kernel_rfl) s
/-! ### naskh.ccc.New: function 7 -/
def r7_0 : List PS := [.mk (some 0) (.assign (.const (.pointer none))) none]
def r7_1 : List PS := [.mk (some 4) (.call ⟨(.value (.func 20)), #[], #[]⟩) none,
  .mk (some 5) (.call ⟨(.value (.func 19)), #[(.tmp 4), (.const (.int .i64 0))], #[39, 3]⟩) none,
  .mk (some 3) (.move (.tmp 5)) none,
  .mk (some 6) (.extract (.tmp 3) 0) none,
  .mk (some 7) (.extract (.tmp 3) 1) none,
  .mk (some 1) (.assign (.tmp 6)) none,
  .mk (some 2) (.assign (.tmp 7)) none]
def r7_2 : List PS := [.mk (some 8) (.move (.tmp 2)) none,
  .mk (some 9) (.binOp .neq 36 (.tmp 8) (.const (.int .i64 0)) 36) none]
def r7_3 : List PS := [.mk (some 0) (.assign (.const (.pointer none))) none]
def r7_4 : List PS := [.mk (some 10) (.move (.tmp 1)) none,
  .mk (some 11) (.build 32 #[(0, (.tmp 10))]) none,
  .mk (some 12) (.build 34 #[(0, (.tmp 11))]) none,
  .mk (some 13) (.box 34 (.tmp 12)) none,
  .mk (some 0) (.assign (.tmp 13)) none]
def c7 : PC := (.seq (.reg false r7_0) (.seq (.reg false r7_1) (.seq (.seq (.reg false r7_2) (.cond (.tmp 9) (.seq (.reg false r7_3) .ret) .skip)) (.seq (.reg false r7_4) .ret))))
theorem e7 {args : List PV} {h : Heap} {K : PV → Heap → Prop} (hl : args.length = 0) (s : pwp Try.prog [] c7 (fin Try.prog [.tmp 0] h K) (slots0 (olds args)) h) : CanP Try.prog 7 args h K :=
  can_of2 (n := 14) mixed Try.func7 rfl (by kernel_rfl) (by rw [hl]; kernel_rfl) rfl (by kernel_rfl) s
/-! ### (*naskh.trie.Table).has: function 33 -/
def r33_0 : List PS := [.mk (some 4) (.assign (.const (.bool false))) none]
def r33_1 : List PS := [.mk (some 5) (.move (.tmp 0)) none,
  .mk (some 6) (.binOp .neq 30 (.tmp 5) (.const (.pointer none)) 30) none,
  .mk (some 7) (.move (.tmp 6)) none,
  .mk (some 8) (.move (.tmp 0)) (some (7, true)),
  .mk (some 9) (.nilCheck (.tmp 8)) (some (7, true)),
  .mk (some 10) (.fieldAddr 55 (.tmp 9) 2) (some (7, true)),
  .mk (some 11) (.load 4 (.tmp 10)) (some (7, true)),
  .mk (some 12) (.pick (.tmp 7) (.tmp 11) (.const (.bool false))) none,
  .mk (some 13) (.move (.tmp 12)) none,
  .mk (some 14) (.move (.tmp 1)) (some (13, true)),
  .mk (some 15) (.binOp .geq 3 (.tmp 14) (.const (.int .i64 0)) 3) (some (13, true)),
  .mk (some 16) (.pick (.tmp 13) (.tmp 15) (.const (.bool false))) none,
  .mk (some 17) (.move (.tmp 16)) none,
  .mk (some 18) (.move (.tmp 1)) (some (17, true)),
  .mk (some 19) (.binOp .leq 3 (.tmp 18) (.const (.int .i64 1114111)) 3) (some (17, true)),
  .mk (some 20) (.pick (.tmp 17) (.tmp 19) (.const (.bool false))) none,
  .mk (some 4) (.assign (.tmp 20)) none]
def c33 : PC := (.seq (.reg false r33_0) (.seq (.reg false r33_1) .ret))
theorem e33 {args : List PV} {h : Heap} {K : PV → Heap → Prop} (hl : args.length = 2) (s : pwp Try.prog [] c33 (fin Try.prog [.tmp 4] h K) (slots0 (olds args)) h) : CanP Try.prog 33 args h K :=
  can_of2 (n := 21) mixed Try.func33 rfl (by kernel_rfl) (by rw [hl]; kernel_rfl) rfl (by kernel_rfl) s
/-! ### (*naskh.trie.stages).at: function 34 -/
def r34_0 : List PS := [.mk (some 4) (.assign (.const (.int .i64 0))) none]
def r34_1 : List PS := [.mk (some 5) (.move (.tmp 0)) none,
  .mk (some 6) (.nilCheck (.tmp 5)) none,
  .mk (some 7) (.fieldAddr 53 (.tmp 6) 1) none,
  .mk (some 8) (.load 51 (.tmp 7)) none,
  .mk (some 9) (.move (.tmp 0)) none,
  .mk (some 10) (.nilCheck (.tmp 9)) none,
  .mk (some 11) (.fieldAddr 53 (.tmp 10) 0) none,
  .mk (some 12) (.load 22 (.tmp 11)) none,
  .mk (some 13) (.move (.tmp 1)) none,
  .mk (some 14) (.binOp .shr 3 (.tmp 13) (.const (.int .u64 7)) 49) none,
  .mk (some 15) (.indexAddr 22 (.tmp 12) (.tmp 14)) none,
  .mk (some 16) (.load 3 (.tmp 15)) none,
  .mk (some 17) (.move (.tmp 1)) none,
  .mk (some 18) (.binOp .and 3 (.tmp 17) (.const (.int .i64 127)) 3) none,
  .mk (some 19) (.indexAddr 51 (.tmp 8) (.tmp 16)) none,
  .mk (some 20) (.indexAddr 57 (.tmp 19) (.tmp 18)) none,
  .mk (some 21) (.load 3 (.tmp 20)) none,
  .mk (some 4) (.assign (.tmp 21)) none]
def c34 : PC := (.seq (.reg false r34_0) (.seq (.reg true r34_1) .ret))
theorem e34 {args : List PV} {h : Heap} {K : PV → Heap → Prop} (hl : args.length = 2) (s : pwp Try.prog [] c34 (fin Try.prog [.tmp 4] h K) (slots0 (olds args)) h) : CanP Try.prog 34 args h K :=
  can_of2 (n := 22) mixed Try.func34 rfl (by kernel_rfl) (by rw [hl]; kernel_rfl) rfl (by kernel_rfl) s
/-! ### (*naskh.trie.Table).Get: function 21 -/
def r21_0 : List PS := [.mk (some 4) (.assign (.const (.int .i64 0))) none]
def r21_1 : List PS := [.mk (some 6) (.move (.tmp 0)) none,
  .mk (some 7) (.move (.tmp 1)) none,
  .mk (some 8) (.call ⟨(.value (.func 33)), #[(.tmp 6), (.tmp 7)], #[30, 3]⟩) none,
  .mk (some 5) (.assign (.tmp 8)) none]
def r21_2 : List PS := [.mk (some 9) (.move (.tmp 0)) none,
  .mk (some 10) (.nilCheck (.tmp 9)) none,
  .mk (some 11) (.fieldAddr 55 (.tmp 10) 0) none,
  .mk (some 12) (.move (.tmp 1)) none,
  .mk (some 13) (.call ⟨(.value (.func 34)), #[(.tmp 11), (.tmp 12)], #[53, 3]⟩) none,
  .mk (some 4) (.assign (.tmp 13)) none]
def r21_3 : List PS := [.mk (some 15) (.move (.tmp 0)) none,
  .mk (some 16) (.binOp .eql 30 (.tmp 15) (.const (.pointer none)) 30) none,
  .mk (some 14) (.assign (.tmp 16)) none]
def r21_4 : List PS := [.mk (some 4) (.assign (.const (.int .i64 0))) none]
def r21_5 : List PS := [.mk (some 17) (.move (.tmp 0)) none,
  .mk (some 18) (.nilCheck (.tmp 17)) none,
  .mk (some 19) (.fieldAddr 55 (.tmp 18) 1) none,
  .mk (some 20) (.load 3 (.tmp 19)) none,
  .mk (some 4) (.assign (.tmp 20)) none]
def c21 : PC := (.seq (.reg false r21_0) (.seq (.block 0 (.seq (.reg false r21_1) (.cond (.tmp 5) (.seq (.reg false r21_2) .ret) (.seq (.reg false r21_3) (.cond (.tmp 14) (.seq (.reg false r21_4) .ret) .skip))))) (.seq (.reg false r21_5) .ret)))
theorem e21 {args : List PV} {h : Heap} {K : PV → Heap → Prop} (hl : args.length = 2) (s : pwp Try.prog [] c21 (fin Try.prog [.tmp 4] h K) (slots0 (olds args)) h) : CanP Try.prog 21 args h K :=
  can_of2 (n := 21) mixed Try.func21 rfl (by kernel_rfl) (by rw [hl]; kernel_rfl) rfl (by kernel_rfl) s
/-! ### (*naskh.ccc.Classes).Of: function 8 -/
def r8_0 : List PS := [.mk (some 4) (.assign (.const (.int .i64 0))) none]
def r8_1 : List PS := [.mk (some 5) (.move (.tmp 0)) none,
  .mk (some 6) (.binOp .eql 24 (.tmp 5) (.const (.pointer none)) 24) none,
  .mk (some 7) (.move (.tmp 6)) none,
  .mk (some 8) (.move (.tmp 0)) (some (7, false)),
  .mk (some 9) (.nilCheck (.tmp 8)) (some (7, false)),
  .mk (some 10) (.fieldAddr 34 (.tmp 9) 0) (some (7, false)),
  .mk (some 11) (.fieldAddr 32 (.tmp 10) 0) (some (7, false)),
  .mk (some 12) (.load 30 (.tmp 11)) (some (7, false)),
  .mk (some 13) (.binOp .eql 30 (.tmp 12) (.const (.pointer none)) 30) (some (7, false)),
  .mk (some 14) (.pick (.tmp 7) (.const (.bool true)) (.tmp 13)) none]
def r8_2 : List PS := [.mk (some 4) (.assign (.const (.int .i64 0))) none]
def r8_3 : List PS := [.mk (some 15) (.move (.tmp 0)) none,
  .mk (some 16) (.nilCheck (.tmp 15)) none,
  .mk (some 17) (.fieldAddr 34 (.tmp 16) 0) none,
  .mk (some 18) (.fieldAddr 32 (.tmp 17) 0) none,
  .mk (some 19) (.load 30 (.tmp 18)) none,
  .mk (some 20) (.move (.tmp 1)) none,
  .mk (some 21) (.call ⟨(.value (.func 21)), #[(.tmp 19), (.tmp 20)], #[30, 3]⟩) none,
  .mk (some 4) (.assign (.tmp 21)) none]
def c8 : PC := (.seq (.reg false r8_0) (.seq (.seq (.reg false r8_1) (.cond (.tmp 14) (.seq (.reg false r8_2) .ret) .skip)) (.seq (.reg false r8_3) .ret)))
theorem e8 {args : List PV} {h : Heap} {K : PV → Heap → Prop} (hl : args.length = 2) (s : pwp Try.prog [] c8 (fin Try.prog [.tmp 4] h K) (slots0 (olds args)) h) : CanP Try.prog 8 args h K :=
  can_of2 (n := 22) mixed Try.func8 rfl (by kernel_rfl) (by rw [hl]; kernel_rfl) rfl (by kernel_rfl) s
/-! ### (*naskh.ccc.Classes).before: function 23 -/
def r23_0 : List PS := [.mk (some 6) (.assign (.const (.bool false))) none]
def r23_1 : List PS := [.mk (some 8) (.move (.tmp 0)) none,
  .mk (some 9) (.move (.tmp 2)) none,
  .mk (some 10) (.call ⟨(.value (.func 8)), #[(.tmp 8), (.tmp 9)], #[24, 3]⟩) none,
  .mk (some 7) (.assign (.tmp 10)) none]
def r23_2 : List PS := [.mk (some 11) (.move (.tmp 7)) none,
  .mk (some 12) (.binOp .eql 3 (.tmp 11) (.const (.int .i64 0)) 3) none,
  .mk (some 13) (.move (.tmp 12)) none,
  .mk (some 14) (.move (.tmp 0)) (some (13, false)),
  .mk (some 15) (.move (.tmp 1)) (some (13, false)),
  .mk (some 16) (.call ⟨(.value (.func 8)), #[(.tmp 14), (.tmp 15)], #[24, 3]⟩) (some (13, false)),
  .mk (some 17) (.move (.tmp 7)) (some (13, false)),
  .mk (some 18) (.binOp .leq 3 (.tmp 16) (.tmp 17) 3) (some (13, false)),
  .mk (some 19) (.pick (.tmp 13) (.const (.bool true)) (.tmp 18)) none,
  .mk (some 6) (.assign (.tmp 19)) none]
def c23 : PC := (.seq (.reg false r23_0) (.seq (.reg false r23_1) (.seq (.reg false r23_2) .ret)))
theorem e23 {args : List PV} {h : Heap} {K : PV → Heap → Prop} (hl : args.length = 3) (s : pwp Try.prog [] c23 (fin Try.prog [.tmp 6] h K) (slots0 (olds args)) h) : CanP Try.prog 23 args h K :=
  can_of2 (n := 20) mixed Try.func23 rfl (by kernel_rfl) (by rw [hl]; kernel_rfl) rfl (by kernel_rfl) s
/-! ### (*naskh.ccc.Classes).Ordered: function 10 -/
def r10_0 : List PS := [.mk (some 4) (.assign (.const (.bool false))) none]
def r10_1 : List PS := [.mk (some 5) (.assign (.const (.int .i64 1))) none]
def r10_2 : List PS := [.mk (some 6) (.move (.tmp 5)) none,
  .mk (some 7) (.move (.tmp 1)) none,
  .mk (some 8) (.call ⟨(.builtin .len), #[(.tmp 7)], #[22]⟩) none,
  .mk (some 9) (.binOp .lss 3 (.tmp 6) (.tmp 8) 3) none]
def r10_3 : List PS := [.mk (some 12) (.move (.tmp 0)) none,
  .mk (some 13) (.move (.tmp 1)) none,
  .mk (some 14) (.move (.tmp 5)) none,
  .mk (some 15) (.binOp .sub 3 (.tmp 14) (.const (.int .i64 1)) 3) none,
  .mk (some 16) (.indexAddr 22 (.tmp 13) (.tmp 15)) none,
  .mk (some 17) (.load 3 (.tmp 16)) none,
  .mk (some 18) (.move (.tmp 1)) none,
  .mk (some 19) (.move (.tmp 5)) none,
  .mk (some 20) (.indexAddr 22 (.tmp 18) (.tmp 19)) none,
  .mk (some 21) (.load 3 (.tmp 20)) none,
  .mk (some 22) (.call ⟨(.value (.func 23)), #[(.tmp 12), (.tmp 17), (.tmp 21)], #[24, 3, 3]⟩) none,
  .mk (some 23) (.unOp .not 4 (.tmp 22)) none]
def r10_4 : List PS := [.mk (some 4) (.assign (.const (.bool false))) none]
def r10_5 : List PS := [.mk (some 10) (.move (.tmp 5)) none,
  .mk (some 11) (.binOp .add 3 (.tmp 10) (.const (.int .i64 1)) 3) none,
  .mk (some 5) (.assign (.tmp 11)) none]
def r10_6 : List PS := [.mk (some 4) (.assign (.const (.bool true))) none]
def c10 : PC := (.seq (.reg false r10_0) (.seq (.seq (.reg false r10_1) (.block 0 (.loop (.seq (.seq (.reg false r10_2) (.cond (.tmp 9) .skip (.exit 0))) (.seq (.block 1 (.seq (.reg true r10_3) (.cond (.tmp 23) (.seq (.reg false r10_4) .ret) .skip))) (.reg false r10_5)))))) (.seq (.reg false r10_6) .ret)))
theorem e10 {args : List PV} {h : Heap} {K : PV → Heap → Prop} (hl : args.length = 2) (s : pwp Try.prog [] c10 (fin Try.prog [.tmp 4] h K) (slots0 (olds args)) h) : CanP Try.prog 10 args h K :=
  can_of2 (n := 24) mixed Try.func10 rfl (by kernel_rfl) (by rw [hl]; kernel_rfl) rfl (by kernel_rfl) s
/-! ### slices.Equal[[]int,int]: function 12 -/
def r12_0 : List PS := [.mk (some 4) (.assign (.const (.bool false))) none]
def r12_1 : List PS := [.mk (some 6) (.move (.tmp 0)) none,
  .mk (some 7) (.call ⟨(.builtin .len), #[(.tmp 6)], #[22]⟩) none,
  .mk (some 8) (.move (.tmp 1)) none,
  .mk (some 9) (.call ⟨(.builtin .len), #[(.tmp 8)], #[22]⟩) none,
  .mk (some 10) (.binOp .neq 3 (.tmp 7) (.tmp 9) 3) none]
def r12_2 : List PS := [.mk (some 4) (.assign (.const (.bool false))) none]
def r12_3 : List PS := [.mk (some 11) (.move (.tmp 0)) none,
  .mk (some 12) (.call ⟨(.builtin .len), #[(.tmp 11)], #[22]⟩) none,
  .mk (some 13) (.move (.const (.int .i64 0))) none]
def r12_4 : List PS := [.mk (some 14) (.binOp .lss 3 (.tmp 13) (.tmp 12) 3) none]
def r12_5 : List PS := [.mk (some 15) (.move (.tmp 13)) none,
  .mk (some 5) (.assign (.tmp 15)) none]
def r12_6 : List PS := [.mk (some 16) (.move (.tmp 0)) none,
  .mk (some 17) (.move (.tmp 5)) none,
  .mk (some 18) (.indexAddr 22 (.tmp 16) (.tmp 17)) none,
  .mk (some 19) (.load 3 (.tmp 18)) none,
  .mk (some 20) (.move (.tmp 1)) none,
  .mk (some 21) (.move (.tmp 5)) none,
  .mk (some 22) (.indexAddr 22 (.tmp 20) (.tmp 21)) none,
  .mk (some 23) (.load 3 (.tmp 22)) none,
  .mk (some 24) (.binOp .neq 3 (.tmp 19) (.tmp 23) 3) none]
def r12_7 : List PS := [.mk (some 4) (.assign (.const (.bool false))) none]
def r12_8 : List PS := [.mk (some 25) (.binOp .add 3 (.tmp 13) (.const (.int .i64 1)) 3) none,
  .mk (some 13) (.move (.tmp 25)) none]
def r12_9 : List PS := [.mk (some 4) (.assign (.const (.bool true))) none]
def c12 : PC := (.seq (.reg false r12_0) (.seq (.seq (.reg false r12_1) (.cond (.tmp 10) (.seq (.reg false r12_2) .ret) .skip)) (.seq (.seq (.reg false r12_3) (.block 0 (.loop (.seq (.reg false r12_4) (.seq (.cond (.tmp 14) .skip (.exit 0)) (.seq (.block 1 (.seq (.reg false r12_5) (.seq (.reg true r12_6) (.cond (.tmp 24) (.seq (.reg false r12_7) .ret) .skip)))) (.reg false r12_8))))))) (.seq (.reg false r12_9) .ret))))
theorem e12 {args : List PV} {h : Heap} {K : PV → Heap → Prop} (hl : args.length = 2) (s : pwp Try.prog [] c12 (fin Try.prog [.tmp 4] h K) (slots0 (olds args)) h) : CanP Try.prog 12 args h K :=
  can_of2 (n := 26) mixed Try.func12 rfl (by kernel_rfl) (by rw [hl]; kernel_rfl) rfl (by kernel_rfl) s
/-! ### (*naskh.ccc.Classes).rows: function 24 -/
def r24_0 : List PS := [.mk (some 6) (.assign (.const (.int .i64 0))) none]
def r24_1 : List PS := [.mk (some 9) (.move (.tmp 1)) none,
  .mk (some 10) (.call ⟨(.builtin .len), #[(.tmp 9)], #[22]⟩) none,
  .mk (some 11) (.move (.const (.int .i64 0))) none]
def r24_2 : List PS := [.mk (some 12) (.binOp .lss 3 (.tmp 11) (.tmp 10) 3) none]
def r24_3 : List PS := [.mk (some 13) (.move (.tmp 11)) none,
  .mk (some 14) (.indexAddr 22 (.tmp 9) (.tmp 11)) none,
  .mk (some 15) (.load 3 (.tmp 14)) none,
  .mk (some 7) (.assign (.tmp 13)) none,
  .mk (some 8) (.assign (.tmp 15)) none]
def r24_4 : List PS := [.mk (some 16) (.move (.tmp 0)) none,
  .mk (some 17) (.move (.tmp 8)) none,
  .mk (some 18) (.call ⟨(.value (.func 8)), #[(.tmp 16), (.tmp 17)], #[24, 3]⟩) none,
  .mk (some 19) (.binOp .eql 3 (.tmp 18) (.const (.int .i64 0)) 3) none]
def r24_5 : List PS := [.mk (some 20) (.move (.tmp 2)) none,
  .mk (some 21) (.move (.tmp 6)) none,
  .mk (some 22) (.move (.tmp 7)) none,
  .mk (some 23) (.call ⟨(.value (.tmp 20)), #[(.tmp 21), (.tmp 22)], #[3, 3]⟩) none]
def r24_6 : List PS := [.mk (some 24) (.move (.tmp 7)) none,
  .mk (some 25) (.binOp .add 3 (.tmp 24) (.const (.int .i64 1)) 3) none,
  .mk (some 6) (.assign (.tmp 25)) none]
def r24_7 : List PS := [.mk (some 26) (.binOp .add 3 (.tmp 11) (.const (.int .i64 1)) 3) none,
  .mk (some 11) (.move (.tmp 26)) none]
def r24_8 : List PS := [.mk (some 27) (.move (.tmp 2)) none,
  .mk (some 28) (.move (.tmp 6)) none,
  .mk (some 29) (.move (.tmp 1)) none,
  .mk (some 30) (.call ⟨(.builtin .len), #[(.tmp 29)], #[22]⟩) none,
  .mk (some 31) (.call ⟨(.value (.tmp 27)), #[(.tmp 28), (.tmp 30)], #[3, 3]⟩) none]
def c24 : PC := (.seq (.reg false r24_0) (.seq (.seq (.reg false r24_1) (.block 0 (.loop (.seq (.reg false r24_2) (.seq (.cond (.tmp 12) .skip (.exit 0)) (.seq (.block 1 (.seq (.reg false r24_3) (.seq (.reg false r24_4) (.cond (.tmp 19) (.seq (.reg false r24_5) (.reg false r24_6)) .skip)))) (.reg false r24_7))))))) (.reg false r24_8)))
theorem e24 {args : List PV} {h : Heap} {K : PV → Heap → Prop} (hl : args.length = 3) (s : pwp Try.prog [] c24 (fin Try.prog [] h K) (slots0 (olds args)) h) : CanP Try.prog 24 args h K :=
  can_of2 (n := 32) mixed Try.func24 rfl (by kernel_rfl) (by rw [hl]; kernel_rfl) rfl (by kernel_rfl) s
/-! ### slices.insertionSortCmpFunc[int]: function 48 -/
def r48_0 : List PS := [.mk (some 10) (.move (.tmp 1)) none,
  .mk (some 11) (.binOp .add 3 (.tmp 10) (.const (.int .i64 1)) 3) none,
  .mk (some 8) (.assign (.tmp 11)) none]
def r48_1 : List PS := [.mk (some 12) (.move (.tmp 8)) none,
  .mk (some 13) (.move (.tmp 2)) none,
  .mk (some 14) (.binOp .lss 3 (.tmp 12) (.tmp 13) 3) none]
def r48_2 : List PS := [.mk (some 17) (.move (.tmp 8)) none,
  .mk (some 9) (.assign (.tmp 17)) none]
def r48_3 : List PS := [.mk (some 18) (.move (.tmp 9)) none,
  .mk (some 19) (.move (.tmp 1)) none,
  .mk (some 20) (.binOp .gtr 3 (.tmp 18) (.tmp 19) 3) none,
  .mk (some 21) (.move (.tmp 20)) none,
  .mk (some 22) (.move (.tmp 3)) (some (21, true)),
  .mk (some 23) (.move (.tmp 0)) (some (21, true)),
  .mk (some 24) (.move (.tmp 9)) (some (21, true)),
  .mk (some 25) (.indexAddr 22 (.tmp 23) (.tmp 24)) (some (21, true)),
  .mk (some 26) (.load 3 (.tmp 25)) (some (21, true)),
  .mk (some 27) (.move (.tmp 0)) (some (21, true)),
  .mk (some 28) (.move (.tmp 9)) (some (21, true)),
  .mk (some 29) (.binOp .sub 3 (.tmp 28) (.const (.int .i64 1)) 3) (some (21, true)),
  .mk (some 30) (.indexAddr 22 (.tmp 27) (.tmp 29)) (some (21, true)),
  .mk (some 31) (.load 3 (.tmp 30)) (some (21, true)),
  .mk (some 32) (.call ⟨(.value (.tmp 22)), #[(.tmp 26), (.tmp 31)], #[3, 3]⟩) (some (21, true)),
  .mk (some 33) (.binOp .lss 3 (.tmp 32) (.const (.int .i64 0)) 3) (some (21, true)),
  .mk (some 34) (.pick (.tmp 21) (.tmp 33) (.const (.bool false))) none]
def r48_4 : List PS := [.mk (some 37) (.move (.tmp 0)) none,
  .mk (some 38) (.move (.tmp 9)) none,
  .mk (some 39) (.move (.tmp 0)) none,
  .mk (some 40) (.move (.tmp 9)) none,
  .mk (some 41) (.binOp .sub 3 (.tmp 40) (.const (.int .i64 1)) 3) none,
  .mk (some 42) (.move (.tmp 0)) none,
  .mk (some 43) (.move (.tmp 9)) none,
  .mk (some 44) (.binOp .sub 3 (.tmp 43) (.const (.int .i64 1)) 3) none,
  .mk (some 45) (.indexAddr 22 (.tmp 42) (.tmp 44)) none,
  .mk (some 46) (.load 3 (.tmp 45)) none,
  .mk (some 47) (.move (.tmp 0)) none,
  .mk (some 48) (.move (.tmp 9)) none,
  .mk (some 49) (.indexAddr 22 (.tmp 47) (.tmp 48)) none,
  .mk (some 50) (.load 3 (.tmp 49)) none,
  .mk (some 51) (.indexAddr 22 (.tmp 37) (.tmp 38)) none,
  .mk none (.store 3 (.tmp 51) (.tmp 46)) none,
  .mk (some 52) (.indexAddr 22 (.tmp 39) (.tmp 41)) none,
  .mk none (.store 3 (.tmp 52) (.tmp 50)) none]
def r48_5 : List PS := [.mk (some 35) (.move (.tmp 9)) none,
  .mk (some 36) (.binOp .sub 3 (.tmp 35) (.const (.int .i64 1)) 3) none,
  .mk (some 9) (.assign (.tmp 36)) none]
def r48_6 : List PS := [.mk (some 15) (.move (.tmp 8)) none,
  .mk (some 16) (.binOp .add 3 (.tmp 15) (.const (.int .i64 1)) 3) none,
  .mk (some 8) (.assign (.tmp 16)) none]
def c48 : PC := (.seq (.reg false r48_0) (.block 0 (.loop (.seq (.seq (.reg false r48_1) (.cond (.tmp 14) .skip (.exit 0))) (.seq (.block 1 (.seq (.reg false r48_2) (.block 2 (.loop (.seq (.seq (.reg true r48_3) (.cond (.tmp 34) .skip (.exit 2))) (.seq (.block 3 (.reg true r48_4)) (.reg false r48_5))))))) (.reg false r48_6))))))
theorem e48 {args : List PV} {h : Heap} {K : PV → Heap → Prop} (hl : args.length = 4) (s : pwp Try.prog [] c48 (fin Try.prog [] h K) (slots0 (olds args)) h) : CanP Try.prog 48 args h K :=
  can_of2 (n := 53) mixed Try.func48 rfl (by kernel_rfl) (by rw [hl]; kernel_rfl) rfl (by kernel_rfl) s
/-! ### slices.swapRangeCmpFunc[int]: function 58 -/
def r58_0 : List PS := [.mk (some 10) (.assign (.const (.int .i64 0))) none]
def r58_1 : List PS := [.mk (some 11) (.move (.tmp 10)) none,
  .mk (some 12) (.move (.tmp 3)) none,
  .mk (some 13) (.binOp .lss 3 (.tmp 11) (.tmp 12) 3) none]
def r58_2 : List PS := [.mk (some 16) (.move (.tmp 0)) none,
  .mk (some 17) (.move (.tmp 1)) none,
  .mk (some 18) (.move (.tmp 10)) none,
  .mk (some 19) (.binOp .add 3 (.tmp 17) (.tmp 18) 3) none,
  .mk (some 20) (.move (.tmp 0)) none,
  .mk (some 21) (.move (.tmp 2)) none,
  .mk (some 22) (.move (.tmp 10)) none,
  .mk (some 23) (.binOp .add 3 (.tmp 21) (.tmp 22) 3) none,
  .mk (some 24) (.move (.tmp 0)) none,
  .mk (some 25) (.move (.tmp 2)) none,
  .mk (some 26) (.move (.tmp 10)) none,
  .mk (some 27) (.binOp .add 3 (.tmp 25) (.tmp 26) 3) none,
  .mk (some 28) (.indexAddr 22 (.tmp 24) (.tmp 27)) none,
  .mk (some 29) (.load 3 (.tmp 28)) none,
  .mk (some 30) (.move (.tmp 0)) none,
  .mk (some 31) (.move (.tmp 1)) none,
  .mk (some 32) (.move (.tmp 10)) none,
  .mk (some 33) (.binOp .add 3 (.tmp 31) (.tmp 32) 3) none,
  .mk (some 34) (.indexAddr 22 (.tmp 30) (.tmp 33)) none,
  .mk (some 35) (.load 3 (.tmp 34)) none,
  .mk (some 36) (.indexAddr 22 (.tmp 16) (.tmp 19)) none,
  .mk none (.store 3 (.tmp 36) (.tmp 29)) none,
  .mk (some 37) (.indexAddr 22 (.tmp 20) (.tmp 23)) none,
  .mk none (.store 3 (.tmp 37) (.tmp 35)) none]
def r58_3 : List PS := [.mk (some 14) (.move (.tmp 10)) none,
  .mk (some 15) (.binOp .add 3 (.tmp 14) (.const (.int .i64 1)) 3) none,
  .mk (some 10) (.assign (.tmp 15)) none]
def c58 : PC := (.seq (.reg false r58_0) (.block 0 (.loop (.seq (.seq (.reg false r58_1) (.cond (.tmp 13) .skip (.exit 0))) (.seq (.block 1 (.reg true r58_2)) (.reg false r58_3))))))
theorem e58 {args : List PV} {h : Heap} {K : PV → Heap → Prop} (hl : args.length = 5) (s : pwp Try.prog [] c58 (fin Try.prog [] h K) (slots0 (olds args)) h) : CanP Try.prog 58 args h K :=
  can_of2 (n := 38) mixed Try.func58 rfl (by kernel_rfl) (by rw [hl]; kernel_rfl) rfl (by kernel_rfl) s
/-! ### slices.rotateCmpFunc[int]: function 56 -/
def r56_0 : List PS := [.mk (some 12) (.move (.tmp 2)) none,
  .mk (some 13) (.move (.tmp 1)) none,
  .mk (some 14) (.binOp .sub 3 (.tmp 12) (.tmp 13) 3) none,
  .mk (some 10) (.assign (.tmp 14)) none]
def r56_1 : List PS := [.mk (some 15) (.move (.tmp 3)) none,
  .mk (some 16) (.move (.tmp 2)) none,
  .mk (some 17) (.binOp .sub 3 (.tmp 15) (.tmp 16) 3) none,
  .mk (some 11) (.assign (.tmp 17)) none]
def r56_2 : List PS := [.mk (some 18) (.move (.tmp 10)) none,
  .mk (some 19) (.move (.tmp 11)) none,
  .mk (some 20) (.binOp .neq 3 (.tmp 18) (.tmp 19) 3) none]
def r56_3 : List PS := [.mk (some 21) (.move (.tmp 10)) none,
  .mk (some 22) (.move (.tmp 11)) none,
  .mk (some 23) (.binOp .gtr 3 (.tmp 21) (.tmp 22) 3) none]
def r56_4 : List PS := [.mk (some 24) (.move (.tmp 0)) none,
  .mk (some 25) (.move (.tmp 2)) none,
  .mk (some 26) (.move (.tmp 10)) none,
  .mk (some 27) (.binOp .sub 3 (.tmp 25) (.tmp 26) 3) none,
  .mk (some 28) (.move (.tmp 2)) none,
  .mk (some 29) (.move (.tmp 11)) none,
  .mk (some 30) (.move (.tmp 4)) none,
  .mk (some 31) (.call ⟨(.value (.func 58)), #[(.tmp 24), (.tmp 27), (.tmp 28), (.tmp 29), (.tmp 30)], #[22, 3, 3, 3, 45]⟩) none]
def r56_5 : List PS := [.mk (some 32) (.move (.tmp 10)) none,
  .mk (some 33) (.move (.tmp 11)) none,
  .mk (some 34) (.binOp .sub 3 (.tmp 32) (.tmp 33) 3) none,
  .mk (some 10) (.assign (.tmp 34)) none]
def r56_6 : List PS := [.mk (some 35) (.move (.tmp 0)) none,
  .mk (some 36) (.move (.tmp 2)) none,
  .mk (some 37) (.move (.tmp 10)) none,
  .mk (some 38) (.binOp .sub 3 (.tmp 36) (.tmp 37) 3) none,
  .mk (some 39) (.move (.tmp 2)) none,
  .mk (some 40) (.move (.tmp 11)) none,
  .mk (some 41) (.binOp .add 3 (.tmp 39) (.tmp 40) 3) none,
  .mk (some 42) (.move (.tmp 10)) none,
  .mk (some 43) (.binOp .sub 3 (.tmp 41) (.tmp 42) 3) none,
  .mk (some 44) (.move (.tmp 10)) none,
  .mk (some 45) (.move (.tmp 4)) none,
  .mk (some 46) (.call ⟨(.value (.func 58)), #[(.tmp 35), (.tmp 38), (.tmp 43), (.tmp 44), (.tmp 45)], #[22, 3, 3, 3, 45]⟩) none]
def r56_7 : List PS := [.mk (some 47) (.move (.tmp 11)) none,
  .mk (some 48) (.move (.tmp 10)) none,
  .mk (some 49) (.binOp .sub 3 (.tmp 47) (.tmp 48) 3) none,
  .mk (some 11) (.assign (.tmp 49)) none]
def r56_8 : List PS := [.mk (some 50) (.move (.tmp 0)) none,
  .mk (some 51) (.move (.tmp 2)) none,
  .mk (some 52) (.move (.tmp 10)) none,
  .mk (some 53) (.binOp .sub 3 (.tmp 51) (.tmp 52) 3) none,
  .mk (some 54) (.move (.tmp 2)) none,
  .mk (some 55) (.move (.tmp 10)) none,
  .mk (some 56) (.move (.tmp 4)) none,
  .mk (some 57) (.call ⟨(.value (.func 58)), #[(.tmp 50), (.tmp 53), (.tmp 54), (.tmp 55), (.tmp 56)], #[22, 3, 3, 3, 45]⟩) none]
def c56 : PC := (.seq (.reg false r56_0) (.seq (.reg false r56_1) (.seq (.block 0 (.loop (.seq (.seq (.reg false r56_2) (.cond (.tmp 20) .skip (.exit 0))) (.block 1 (.seq (.reg false r56_3) (.cond (.tmp 23) (.seq (.reg false r56_4) (.reg false r56_5)) (.seq (.reg false r56_6) (.reg false r56_7)))))))) (.reg false r56_8))))
theorem e56 {args : List PV} {h : Heap} {K : PV → Heap → Prop} (hl : args.length = 5) (s : pwp Try.prog [] c56 (fin Try.prog [] h K) (slots0 (olds args)) h) : CanP Try.prog 56 args h K :=
  can_of2 (n := 58) mixed Try.func56 rfl (by kernel_rfl) (by rw [hl]; kernel_rfl) rfl (by kernel_rfl) s
/-! ### slices.symMergeCmpFunc[int]: function 49 -/
def r49_0 : List PS := [.mk (some 25) (.move (.tmp 2)) none,
  .mk (some 26) (.move (.tmp 1)) none,
  .mk (some 27) (.binOp .sub 3 (.tmp 25) (.tmp 26) 3) none,
  .mk (some 28) (.binOp .eql 3 (.tmp 27) (.const (.int .i64 1)) 3) none]
def r49_1 : List PS := [.mk (some 29) (.move (.tmp 2)) none,
  .mk (some 10) (.assign (.tmp 29)) none]
def r49_2 : List PS := [.mk (some 30) (.move (.tmp 3)) none,
  .mk (some 11) (.assign (.tmp 30)) none]
def r49_3 : List PS := [.mk (some 31) (.move (.tmp 10)) none,
  .mk (some 32) (.move (.tmp 11)) none,
  .mk (some 33) (.binOp .lss 3 (.tmp 31) (.tmp 32) 3) none]
def r49_4 : List PS := [.mk (some 34) (.move (.tmp 10)) none,
  .mk (some 35) (.move (.tmp 11)) none,
  .mk (some 36) (.binOp .add 3 (.tmp 34) (.tmp 35) 3) none,
  .mk (some 37) (.convert 3 49 (.tmp 36)) none,
  .mk (some 38) (.binOp .shr 49 (.tmp 37) (.const (.int .u64 1)) 49) none,
  .mk (some 39) (.convert 49 3 (.tmp 38)) none,
  .mk (some 12) (.assign (.tmp 39)) none]
def r49_5 : List PS := [.mk (some 40) (.move (.tmp 4)) none,
  .mk (some 41) (.move (.tmp 0)) none,
  .mk (some 42) (.move (.tmp 12)) none,
  .mk (some 43) (.indexAddr 22 (.tmp 41) (.tmp 42)) none,
  .mk (some 44) (.load 3 (.tmp 43)) none,
  .mk (some 45) (.move (.tmp 0)) none,
  .mk (some 46) (.move (.tmp 1)) none,
  .mk (some 47) (.indexAddr 22 (.tmp 45) (.tmp 46)) none,
  .mk (some 48) (.load 3 (.tmp 47)) none,
  .mk (some 49) (.call ⟨(.value (.tmp 40)), #[(.tmp 44), (.tmp 48)], #[3, 3]⟩) none,
  .mk (some 50) (.binOp .lss 3 (.tmp 49) (.const (.int .i64 0)) 3) none]
def r49_6 : List PS := [.mk (some 51) (.move (.tmp 12)) none,
  .mk (some 52) (.binOp .add 3 (.tmp 51) (.const (.int .i64 1)) 3) none,
  .mk (some 10) (.assign (.tmp 52)) none]
def r49_7 : List PS := [.mk (some 53) (.move (.tmp 12)) none,
  .mk (some 11) (.assign (.tmp 53)) none]
def r49_8 : List PS := [.mk (some 54) (.move (.tmp 1)) none,
  .mk (some 13) (.assign (.tmp 54)) none]
def r49_9 : List PS := [.mk (some 55) (.move (.tmp 13)) none,
  .mk (some 56) (.move (.tmp 10)) none,
  .mk (some 57) (.binOp .sub 3 (.tmp 56) (.const (.int .i64 1)) 3) none,
  .mk (some 58) (.binOp .lss 3 (.tmp 55) (.tmp 57) 3) none]
def r49_10 : List PS := [.mk (some 61) (.move (.tmp 0)) none,
  .mk (some 62) (.move (.tmp 13)) none,
  .mk (some 63) (.move (.tmp 0)) none,
  .mk (some 64) (.move (.tmp 13)) none,
  .mk (some 65) (.binOp .add 3 (.tmp 64) (.const (.int .i64 1)) 3) none,
  .mk (some 66) (.move (.tmp 0)) none,
  .mk (some 67) (.move (.tmp 13)) none,
  .mk (some 68) (.binOp .add 3 (.tmp 67) (.const (.int .i64 1)) 3) none,
  .mk (some 69) (.indexAddr 22 (.tmp 66) (.tmp 68)) none,
  .mk (some 70) (.load 3 (.tmp 69)) none,
  .mk (some 71) (.move (.tmp 0)) none,
  .mk (some 72) (.move (.tmp 13)) none,
  .mk (some 73) (.indexAddr 22 (.tmp 71) (.tmp 72)) none,
  .mk (some 74) (.load 3 (.tmp 73)) none,
  .mk (some 75) (.indexAddr 22 (.tmp 61) (.tmp 62)) none,
  .mk none (.store 3 (.tmp 75) (.tmp 70)) none,
  .mk (some 76) (.indexAddr 22 (.tmp 63) (.tmp 65)) none,
  .mk none (.store 3 (.tmp 76) (.tmp 74)) none]
def r49_11 : List PS := [.mk (some 59) (.move (.tmp 13)) none,
  .mk (some 60) (.binOp .add 3 (.tmp 59) (.const (.int .i64 1)) 3) none,
  .mk (some 13) (.assign (.tmp 60)) none]
def r49_12 : List PS := [.mk (some 77) (.move (.tmp 3)) none,
  .mk (some 78) (.move (.tmp 2)) none,
  .mk (some 79) (.binOp .sub 3 (.tmp 77) (.tmp 78) 3) none,
  .mk (some 80) (.binOp .eql 3 (.tmp 79) (.const (.int .i64 1)) 3) none]
def r49_13 : List PS := [.mk (some 81) (.move (.tmp 1)) none,
  .mk (some 14) (.assign (.tmp 81)) none]
def r49_14 : List PS := [.mk (some 82) (.move (.tmp 2)) none,
  .mk (some 15) (.assign (.tmp 82)) none]
def r49_15 : List PS := [.mk (some 83) (.move (.tmp 14)) none,
  .mk (some 84) (.move (.tmp 15)) none,
  .mk (some 85) (.binOp .lss 3 (.tmp 83) (.tmp 84) 3) none]
def r49_16 : List PS := [.mk (some 86) (.move (.tmp 14)) none,
  .mk (some 87) (.move (.tmp 15)) none,
  .mk (some 88) (.binOp .add 3 (.tmp 86) (.tmp 87) 3) none,
  .mk (some 89) (.convert 3 49 (.tmp 88)) none,
  .mk (some 90) (.binOp .shr 49 (.tmp 89) (.const (.int .u64 1)) 49) none,
  .mk (some 91) (.convert 49 3 (.tmp 90)) none,
  .mk (some 16) (.assign (.tmp 91)) none]
def r49_17 : List PS := [.mk (some 92) (.move (.tmp 4)) none,
  .mk (some 93) (.move (.tmp 0)) none,
  .mk (some 94) (.move (.tmp 2)) none,
  .mk (some 95) (.indexAddr 22 (.tmp 93) (.tmp 94)) none,
  .mk (some 96) (.load 3 (.tmp 95)) none,
  .mk (some 97) (.move (.tmp 0)) none,
  .mk (some 98) (.move (.tmp 16)) none,
  .mk (some 99) (.indexAddr 22 (.tmp 97) (.tmp 98)) none,
  .mk (some 100) (.load 3 (.tmp 99)) none,
  .mk (some 101) (.call ⟨(.value (.tmp 92)), #[(.tmp 96), (.tmp 100)], #[3, 3]⟩) none,
  .mk (some 102) (.binOp .lss 3 (.tmp 101) (.const (.int .i64 0)) 3) none,
  .mk (some 103) (.unOp .not 4 (.tmp 102)) none]
def r49_18 : List PS := [.mk (some 104) (.move (.tmp 16)) none,
  .mk (some 105) (.binOp .add 3 (.tmp 104) (.const (.int .i64 1)) 3) none,
  .mk (some 14) (.assign (.tmp 105)) none]
def r49_19 : List PS := [.mk (some 106) (.move (.tmp 16)) none,
  .mk (some 15) (.assign (.tmp 106)) none]
def r49_20 : List PS := [.mk (some 107) (.move (.tmp 2)) none,
  .mk (some 17) (.assign (.tmp 107)) none]
def r49_21 : List PS := [.mk (some 108) (.move (.tmp 17)) none,
  .mk (some 109) (.move (.tmp 14)) none,
  .mk (some 110) (.binOp .gtr 3 (.tmp 108) (.tmp 109) 3) none]
def r49_22 : List PS := [.mk (some 113) (.move (.tmp 0)) none,
  .mk (some 114) (.move (.tmp 17)) none,
  .mk (some 115) (.move (.tmp 0)) none,
  .mk (some 116) (.move (.tmp 17)) none,
  .mk (some 117) (.binOp .sub 3 (.tmp 116) (.const (.int .i64 1)) 3) none,
  .mk (some 118) (.move (.tmp 0)) none,
  .mk (some 119) (.move (.tmp 17)) none,
  .mk (some 120) (.binOp .sub 3 (.tmp 119) (.const (.int .i64 1)) 3) none,
  .mk (some 121) (.indexAddr 22 (.tmp 118) (.tmp 120)) none,
  .mk (some 122) (.load 3 (.tmp 121)) none,
  .mk (some 123) (.move (.tmp 0)) none,
  .mk (some 124) (.move (.tmp 17)) none,
  .mk (some 125) (.indexAddr 22 (.tmp 123) (.tmp 124)) none,
  .mk (some 126) (.load 3 (.tmp 125)) none,
  .mk (some 127) (.indexAddr 22 (.tmp 113) (.tmp 114)) none,
  .mk none (.store 3 (.tmp 127) (.tmp 122)) none,
  .mk (some 128) (.indexAddr 22 (.tmp 115) (.tmp 117)) none,
  .mk none (.store 3 (.tmp 128) (.tmp 126)) none]
def r49_23 : List PS := [.mk (some 111) (.move (.tmp 17)) none,
  .mk (some 112) (.binOp .sub 3 (.tmp 111) (.const (.int .i64 1)) 3) none,
  .mk (some 17) (.assign (.tmp 112)) none]
def r49_24 : List PS := [.mk (some 129) (.move (.tmp 1)) none,
  .mk (some 130) (.move (.tmp 3)) none,
  .mk (some 131) (.binOp .add 3 (.tmp 129) (.tmp 130) 3) none,
  .mk (some 132) (.convert 3 49 (.tmp 131)) none,
  .mk (some 133) (.binOp .shr 49 (.tmp 132) (.const (.int .u64 1)) 49) none,
  .mk (some 134) (.convert 49 3 (.tmp 133)) none,
  .mk (some 18) (.assign (.tmp 134)) none]
def r49_25 : List PS := [.mk (some 135) (.move (.tmp 18)) none,
  .mk (some 136) (.move (.tmp 2)) none,
  .mk (some 137) (.binOp .add 3 (.tmp 135) (.tmp 136) 3) none,
  .mk (some 19) (.assign (.tmp 137)) none]
def r49_26 : List PS := [.mk (some 20) (.assign (.const (.int .i64 0))) none,
  .mk (some 21) (.assign (.const (.int .i64 0))) none]
def r49_27 : List PS := [.mk (some 138) (.move (.tmp 2)) none,
  .mk (some 139) (.move (.tmp 18)) none,
  .mk (some 140) (.binOp .gtr 3 (.tmp 138) (.tmp 139) 3) none]
def r49_28 : List PS := [.mk (some 141) (.move (.tmp 19)) none,
  .mk (some 142) (.move (.tmp 3)) none,
  .mk (some 143) (.binOp .sub 3 (.tmp 141) (.tmp 142) 3) none,
  .mk (some 20) (.assign (.tmp 143)) none]
def r49_29 : List PS := [.mk (some 144) (.move (.tmp 18)) none,
  .mk (some 21) (.assign (.tmp 144)) none]
def r49_30 : List PS := [.mk (some 145) (.move (.tmp 1)) none,
  .mk (some 20) (.assign (.tmp 145)) none]
def r49_31 : List PS := [.mk (some 146) (.move (.tmp 2)) none,
  .mk (some 21) (.assign (.tmp 146)) none]
def r49_32 : List PS := [.mk (some 147) (.move (.tmp 19)) none,
  .mk (some 148) (.binOp .sub 3 (.tmp 147) (.const (.int .i64 1)) 3) none,
  .mk (some 22) (.assign (.tmp 148)) none]
def r49_33 : List PS := [.mk (some 149) (.move (.tmp 20)) none,
  .mk (some 150) (.move (.tmp 21)) none,
  .mk (some 151) (.binOp .lss 3 (.tmp 149) (.tmp 150) 3) none]
def r49_34 : List PS := [.mk (some 152) (.move (.tmp 20)) none,
  .mk (some 153) (.move (.tmp 21)) none,
  .mk (some 154) (.binOp .add 3 (.tmp 152) (.tmp 153) 3) none,
  .mk (some 155) (.convert 3 49 (.tmp 154)) none,
  .mk (some 156) (.binOp .shr 49 (.tmp 155) (.const (.int .u64 1)) 49) none,
  .mk (some 157) (.convert 49 3 (.tmp 156)) none,
  .mk (some 23) (.assign (.tmp 157)) none]
def r49_35 : List PS := [.mk (some 158) (.move (.tmp 4)) none,
  .mk (some 159) (.move (.tmp 0)) none,
  .mk (some 160) (.move (.tmp 22)) none,
  .mk (some 161) (.move (.tmp 23)) none,
  .mk (some 162) (.binOp .sub 3 (.tmp 160) (.tmp 161) 3) none,
  .mk (some 163) (.indexAddr 22 (.tmp 159) (.tmp 162)) none,
  .mk (some 164) (.load 3 (.tmp 163)) none,
  .mk (some 165) (.move (.tmp 0)) none,
  .mk (some 166) (.move (.tmp 23)) none,
  .mk (some 167) (.indexAddr 22 (.tmp 165) (.tmp 166)) none,
  .mk (some 168) (.load 3 (.tmp 167)) none,
  .mk (some 169) (.call ⟨(.value (.tmp 158)), #[(.tmp 164), (.tmp 168)], #[3, 3]⟩) none,
  .mk (some 170) (.binOp .lss 3 (.tmp 169) (.const (.int .i64 0)) 3) none,
  .mk (some 171) (.unOp .not 4 (.tmp 170)) none]
def r49_36 : List PS := [.mk (some 172) (.move (.tmp 23)) none,
  .mk (some 173) (.binOp .add 3 (.tmp 172) (.const (.int .i64 1)) 3) none,
  .mk (some 20) (.assign (.tmp 173)) none]
def r49_37 : List PS := [.mk (some 174) (.move (.tmp 23)) none,
  .mk (some 21) (.assign (.tmp 174)) none]
def r49_38 : List PS := [.mk (some 175) (.move (.tmp 19)) none,
  .mk (some 176) (.move (.tmp 20)) none,
  .mk (some 177) (.binOp .sub 3 (.tmp 175) (.tmp 176) 3) none,
  .mk (some 24) (.assign (.tmp 177)) none]
def r49_39 : List PS := [.mk (some 178) (.move (.tmp 20)) none,
  .mk (some 179) (.move (.tmp 2)) none,
  .mk (some 180) (.binOp .lss 3 (.tmp 178) (.tmp 179) 3) none,
  .mk (some 181) (.move (.tmp 180)) none,
  .mk (some 182) (.move (.tmp 2)) (some (181, true)),
  .mk (some 183) (.move (.tmp 24)) (some (181, true)),
  .mk (some 184) (.binOp .lss 3 (.tmp 182) (.tmp 183) 3) (some (181, true)),
  .mk (some 185) (.pick (.tmp 181) (.tmp 184) (.const (.bool false))) none]
def r49_40 : List PS := [.mk (some 186) (.move (.tmp 0)) none,
  .mk (some 187) (.move (.tmp 20)) none,
  .mk (some 188) (.move (.tmp 2)) none,
  .mk (some 189) (.move (.tmp 24)) none,
  .mk (some 190) (.move (.tmp 4)) none,
  .mk (some 191) (.call ⟨(.value (.func 56)), #[(.tmp 186), (.tmp 187), (.tmp 188), (.tmp 189), (.tmp 190)], #[22, 3, 3, 3, 45]⟩) none]
def r49_41 : List PS := [.mk (some 192) (.move (.tmp 1)) none,
  .mk (some 193) (.move (.tmp 20)) none,
  .mk (some 194) (.binOp .lss 3 (.tmp 192) (.tmp 193) 3) none,
  .mk (some 195) (.move (.tmp 194)) none,
  .mk (some 196) (.move (.tmp 20)) (some (195, true)),
  .mk (some 197) (.move (.tmp 18)) (some (195, true)),
  .mk (some 198) (.binOp .lss 3 (.tmp 196) (.tmp 197) 3) (some (195, true)),
  .mk (some 199) (.pick (.tmp 195) (.tmp 198) (.const (.bool false))) none]
def r49_42 : List PS := [.mk (some 200) (.move (.tmp 0)) none,
  .mk (some 201) (.move (.tmp 1)) none,
  .mk (some 202) (.move (.tmp 20)) none,
  .mk (some 203) (.move (.tmp 18)) none,
  .mk (some 204) (.move (.tmp 4)) none,
  .mk (some 205) (.call ⟨(.value (.func 49)), #[(.tmp 200), (.tmp 201), (.tmp 202), (.tmp 203), (.tmp 204)], #[22, 3, 3, 3, 45]⟩) none]
def r49_43 : List PS := [.mk (some 206) (.move (.tmp 18)) none,
  .mk (some 207) (.move (.tmp 24)) none,
  .mk (some 208) (.binOp .lss 3 (.tmp 206) (.tmp 207) 3) none,
  .mk (some 209) (.move (.tmp 208)) none,
  .mk (some 210) (.move (.tmp 24)) (some (209, true)),
  .mk (some 211) (.move (.tmp 3)) (some (209, true)),
  .mk (some 212) (.binOp .lss 3 (.tmp 210) (.tmp 211) 3) (some (209, true)),
  .mk (some 213) (.pick (.tmp 209) (.tmp 212) (.const (.bool false))) none]
def r49_44 : List PS := [.mk (some 214) (.move (.tmp 0)) none,
  .mk (some 215) (.move (.tmp 18)) none,
  .mk (some 216) (.move (.tmp 24)) none,
  .mk (some 217) (.move (.tmp 3)) none,
  .mk (some 218) (.move (.tmp 4)) none,
  .mk (some 219) (.call ⟨(.value (.func 49)), #[(.tmp 214), (.tmp 215), (.tmp 216), (.tmp 217), (.tmp 218)], #[22, 3, 3, 3, 45]⟩) none]
def c49 : PC := (.seq (.seq (.reg false r49_0) (.cond (.tmp 28) (.seq (.reg false r49_1) (.seq (.reg false r49_2) (.seq (.block 0 (.loop (.seq (.seq (.reg false r49_3) (.cond (.tmp 33) .skip (.exit 0))) (.block 1 (.seq (.reg false r49_4) (.seq (.reg true r49_5) (.cond (.tmp 50) (.reg false r49_6) (.reg false r49_7)))))))) (.seq (.seq (.reg false r49_8) (.block 2 (.loop (.seq (.seq (.reg false r49_9) (.cond (.tmp 58) .skip (.exit 2))) (.seq (.block 3 (.reg true r49_10)) (.reg false r49_11)))))) .ret)))) .skip)) (.seq (.seq (.reg false r49_12) (.cond (.tmp 80) (.seq (.reg false r49_13) (.seq (.reg false r49_14) (.seq (.block 4 (.loop (.seq (.seq (.reg false r49_15) (.cond (.tmp 85) .skip (.exit 4))) (.block 5 (.seq (.reg false r49_16) (.seq (.reg true r49_17) (.cond (.tmp 103) (.reg false r49_18) (.reg false r49_19)))))))) (.seq (.seq (.reg false r49_20) (.block 6 (.loop (.seq (.seq (.reg false r49_21) (.cond (.tmp 110) .skip (.exit 6))) (.seq (.block 7 (.reg true r49_22)) (.reg false r49_23)))))) .ret)))) .skip)) (.seq (.reg false r49_24) (.seq (.reg false r49_25) (.seq (.reg false r49_26) (.seq (.seq (.reg false r49_27) (.cond (.tmp 140) (.seq (.reg false r49_28) (.reg false r49_29)) (.seq (.reg false r49_30) (.reg false r49_31)))) (.seq (.reg false r49_32) (.seq (.block 8 (.loop (.seq (.seq (.reg false r49_33) (.cond (.tmp 151) .skip (.exit 8))) (.block 9 (.seq (.reg false r49_34) (.seq (.reg true r49_35) (.cond (.tmp 171) (.reg false r49_36) (.reg false r49_37)))))))) (.seq (.reg false r49_38) (.seq (.seq (.reg false r49_39) (.cond (.tmp 185) (.reg false r49_40) .skip)) (.seq (.seq (.reg false r49_41) (.cond (.tmp 199) (.reg false r49_42) .skip)) (.seq (.reg false r49_43) (.cond (.tmp 213) (.reg false r49_44) .skip)))))))))))))
theorem e49 {args : List PV} {h : Heap} {K : PV → Heap → Prop} (hl : args.length = 5) (s : pwp Try.prog [] c49 (fin Try.prog [] h K) (slots0 (olds args)) h) : CanP Try.prog 49 args h K :=
  can_of2 (n := 220) mixed Try.func49 rfl (by kernel_rfl) (by rw [hl]; kernel_rfl) rfl (by kernel_rfl) s
/-! ### slices.stableCmpFunc[int]: function 35 -/
def r35_0 : List PS := [.mk (some 6) (.assign (.const (.int .i64 20))) none]
def r35_1 : List PS := [.mk (some 10) (.move (.tmp 6)) none,
  .mk (some 7) (.assign (.const (.int .i64 0))) none,
  .mk (some 8) (.assign (.tmp 10)) none]
def r35_2 : List PS := [.mk (some 11) (.move (.tmp 8)) none,
  .mk (some 12) (.move (.tmp 1)) none,
  .mk (some 13) (.binOp .leq 3 (.tmp 11) (.tmp 12) 3) none]
def r35_3 : List PS := [.mk (some 14) (.move (.tmp 0)) none,
  .mk (some 15) (.move (.tmp 7)) none,
  .mk (some 16) (.move (.tmp 8)) none,
  .mk (some 17) (.move (.tmp 2)) none,
  .mk (some 18) (.call ⟨(.value (.func 48)), #[(.tmp 14), (.tmp 15), (.tmp 16), (.tmp 17)], #[22, 3, 3, 45]⟩) none]
def r35_4 : List PS := [.mk (some 19) (.move (.tmp 8)) none,
  .mk (some 7) (.assign (.tmp 19)) none]
def r35_5 : List PS := [.mk (some 20) (.move (.tmp 8)) none,
  .mk (some 21) (.move (.tmp 6)) none,
  .mk (some 22) (.binOp .add 3 (.tmp 20) (.tmp 21) 3) none,
  .mk (some 8) (.assign (.tmp 22)) none]
def r35_6 : List PS := [.mk (some 23) (.move (.tmp 0)) none,
  .mk (some 24) (.move (.tmp 7)) none,
  .mk (some 25) (.move (.tmp 1)) none,
  .mk (some 26) (.move (.tmp 2)) none,
  .mk (some 27) (.call ⟨(.value (.func 48)), #[(.tmp 23), (.tmp 24), (.tmp 25), (.tmp 26)], #[22, 3, 3, 45]⟩) none]
def r35_7 : List PS := [.mk (some 28) (.move (.tmp 6)) none,
  .mk (some 29) (.move (.tmp 1)) none,
  .mk (some 30) (.binOp .lss 3 (.tmp 28) (.tmp 29) 3) none]
def r35_8 : List PS := [.mk (some 31) (.move (.tmp 6)) none,
  .mk (some 32) (.binOp .mul 3 (.const (.int .i64 2)) (.tmp 31) 3) none,
  .mk (some 7) (.assign (.const (.int .i64 0))) none,
  .mk (some 8) (.assign (.tmp 32)) none]
def r35_9 : List PS := [.mk (some 33) (.move (.tmp 8)) none,
  .mk (some 34) (.move (.tmp 1)) none,
  .mk (some 35) (.binOp .leq 3 (.tmp 33) (.tmp 34) 3) none]
def r35_10 : List PS := [.mk (some 36) (.move (.tmp 0)) none,
  .mk (some 37) (.move (.tmp 7)) none,
  .mk (some 38) (.move (.tmp 7)) none,
  .mk (some 39) (.move (.tmp 6)) none,
  .mk (some 40) (.binOp .add 3 (.tmp 38) (.tmp 39) 3) none,
  .mk (some 41) (.move (.tmp 8)) none,
  .mk (some 42) (.move (.tmp 2)) none,
  .mk (some 43) (.call ⟨(.value (.func 49)), #[(.tmp 36), (.tmp 37), (.tmp 40), (.tmp 41), (.tmp 42)], #[22, 3, 3, 3, 45]⟩) none]
def r35_11 : List PS := [.mk (some 44) (.move (.tmp 8)) none,
  .mk (some 7) (.assign (.tmp 44)) none]
def r35_12 : List PS := [.mk (some 45) (.move (.tmp 8)) none,
  .mk (some 46) (.move (.tmp 6)) none,
  .mk (some 47) (.binOp .mul 3 (.const (.int .i64 2)) (.tmp 46) 3) none,
  .mk (some 48) (.binOp .add 3 (.tmp 45) (.tmp 47) 3) none,
  .mk (some 8) (.assign (.tmp 48)) none]
def r35_13 : List PS := [.mk (some 49) (.move (.tmp 7)) none,
  .mk (some 50) (.move (.tmp 6)) none,
  .mk (some 51) (.binOp .add 3 (.tmp 49) (.tmp 50) 3) none,
  .mk (some 9) (.assign (.tmp 51)) none]
def r35_14 : List PS := [.mk (some 52) (.move (.tmp 9)) none,
  .mk (some 53) (.move (.tmp 1)) none,
  .mk (some 54) (.binOp .lss 3 (.tmp 52) (.tmp 53) 3) none]
def r35_15 : List PS := [.mk (some 55) (.move (.tmp 0)) none,
  .mk (some 56) (.move (.tmp 7)) none,
  .mk (some 57) (.move (.tmp 9)) none,
  .mk (some 58) (.move (.tmp 1)) none,
  .mk (some 59) (.move (.tmp 2)) none,
  .mk (some 60) (.call ⟨(.value (.func 49)), #[(.tmp 55), (.tmp 56), (.tmp 57), (.tmp 58), (.tmp 59)], #[22, 3, 3, 3, 45]⟩) none]
def r35_16 : List PS := [.mk (some 61) (.move (.tmp 6)) none,
  .mk (some 62) (.binOp .mul 3 (.tmp 61) (.const (.int .i64 2)) 3) none,
  .mk (some 6) (.assign (.tmp 62)) none]
def c35 : PC := (.seq (.reg false r35_0) (.seq (.reg false r35_1) (.seq (.block 0 (.loop (.seq (.seq (.reg false r35_2) (.cond (.tmp 13) .skip (.exit 0))) (.block 1 (.seq (.reg false r35_3) (.seq (.reg false r35_4) (.reg false r35_5))))))) (.seq (.reg false r35_6) (.block 2 (.loop (.seq (.seq (.reg false r35_7) (.cond (.tmp 30) .skip (.exit 2))) (.block 3 (.seq (.reg false r35_8) (.seq (.block 4 (.loop (.seq (.seq (.reg false r35_9) (.cond (.tmp 35) .skip (.exit 4))) (.block 5 (.seq (.reg false r35_10) (.seq (.reg false r35_11) (.reg false r35_12))))))) (.seq (.seq (.reg false r35_13) (.seq (.reg false r35_14) (.cond (.tmp 54) (.reg false r35_15) .skip))) (.reg false r35_16))))))))))))
theorem e35 {args : List PV} {h : Heap} {K : PV → Heap → Prop} (hl : args.length = 3) (s : pwp Try.prog [] c35 (fin Try.prog [] h K) (slots0 (olds args)) h) : CanP Try.prog 35 args h K :=
  can_of2 (n := 63) mixed Try.func35 rfl (by kernel_rfl) (by rw [hl]; kernel_rfl) rfl (by kernel_rfl) s
/-! ### slices.SortStableFunc[[]int,int]: function 26 -/
def r26_0 : List PS := [.mk (some 4) (.move (.tmp 0)) none,
  .mk (some 5) (.move (.tmp 0)) none,
  .mk (some 6) (.call ⟨(.builtin .len), #[(.tmp 5)], #[22]⟩) none,
  .mk (some 7) (.move (.tmp 1)) none,
  .mk (some 8) (.call ⟨(.value (.func 35)), #[(.tmp 4), (.tmp 6), (.tmp 7)], #[22, 3, 45]⟩) none]
def c26 : PC := (.reg false r26_0)
theorem e26 {args : List PV} {h : Heap} {K : PV → Heap → Prop} (hl : args.length = 2) (s : pwp Try.prog [] c26 (fin Try.prog [] h K) (slots0 (olds args)) h) : CanP Try.prog 26 args h K :=
  can_of2 (n := 9) mixed Try.func26 rfl (by kernel_rfl) (by rw [hl]; kernel_rfl) rfl (by kernel_rfl) s
/-! ### (*naskh.ccc.Classes).Places$1$1: function 27 -/
def r27_0 : List PS := [.mk (some 6) (.assign (.const (.int .i64 0))) none]
def r27_1 : List PS := [.mk (some 7) (.load 24 (.tmp 2)) none,
  .mk (some 8) (.load 22 (.tmp 3)) none,
  .mk (some 9) (.move (.tmp 0)) none,
  .mk (some 10) (.indexAddr 22 (.tmp 8) (.tmp 9)) none,
  .mk (some 11) (.load 3 (.tmp 10)) none,
  .mk (some 12) (.call ⟨(.value (.func 8)), #[(.tmp 7), (.tmp 11)], #[24, 3]⟩) none,
  .mk (some 13) (.load 24 (.tmp 2)) none,
  .mk (some 14) (.load 22 (.tmp 3)) none,
  .mk (some 15) (.move (.tmp 1)) none,
  .mk (some 16) (.indexAddr 22 (.tmp 14) (.tmp 15)) none,
  .mk (some 17) (.load 3 (.tmp 16)) none,
  .mk (some 18) (.call ⟨(.value (.func 8)), #[(.tmp 13), (.tmp 17)], #[24, 3]⟩) none,
  .mk (some 19) (.binOp .sub 3 (.tmp 12) (.tmp 18) 3) none,
  .mk (some 6) (.assign (.tmp 19)) none]
def c27 : PC := (.seq (.reg false r27_0) (.seq (.reg true r27_1) .ret))
theorem e27 {args : List PV} {h : Heap} {K : PV → Heap → Prop} (hl : args.length = 4) (s : pwp Try.prog [] c27 (fin Try.prog [.tmp 6] h K) (slots0 (olds args)) h) : CanP Try.prog 27 args h K :=
  can_of2 (n := 20) mixed Try.func27 rfl (by kernel_rfl) (by rw [hl]; kernel_rfl) rfl (by kernel_rfl) s
/-! ### (*naskh.ccc.Classes).Places$1: function 25 -/
def r25_0 : List PS := [.mk (some 7) (.load 22 (.tmp 2)) none,
  .mk (some 8) (.move (.tmp 0)) none,
  .mk (some 9) (.move (.tmp 1)) none,
  .mk (some 10) (.slice 22 (.tmp 7) (some (.tmp 8)) (some (.tmp 9)) none) none,
  .mk (some 11) (.makeFunc (.func 27) #[] #[(.tmp 3), (.tmp 4)]) none,
  .mk (some 12) (.call ⟨(.value (.func 26)), #[(.tmp 10), (.tmp 11)], #[22, 45]⟩) none]
def c25 : PC := (.reg false r25_0)
theorem e25 {args : List PV} {h : Heap} {K : PV → Heap → Prop} (hl : args.length = 5) (s : pwp Try.prog [] c25 (fin Try.prog [] h K) (slots0 (olds args)) h) : CanP Try.prog 25 args h K :=
  can_of2 (n := 13) mixed Try.func25 rfl (by kernel_rfl) (by rw [hl]; kernel_rfl) rfl (by kernel_rfl) s
/-! ### (*naskh.ccc.Classes).Places: function 13 -/
def r13_0 : List PS := [.mk (some 2) (.box 24 (.tmp 0)) none,
  .mk (some 3) (.box 22 (.tmp 1)) none,
  .mk (some 4) (.assign (.const (.slice none 0 0))) none]
def r13_1 : List PS := [.mk (some 7) (.load 22 (.tmp 3)) none,
  .mk (some 8) (.call ⟨(.builtin .len), #[(.tmp 7)], #[22]⟩) none,
  .mk (some 9) (.makeSlice 22 (.tmp 8) (.tmp 8)) none,
  .mk (some 5) (.alloc 22) none,
  .mk none (.store 22 (.tmp 5) (.tmp 9)) none,
  .frz 5]
def r13_2 : List PS := [.mk (some 10) (.load 22 (.tmp 5)) none,
  .mk (some 11) (.call ⟨(.builtin .len), #[(.tmp 10)], #[22]⟩) none,
  .mk (some 12) (.move (.const (.int .i64 0))) none]
def r13_3 : List PS := [.mk (some 13) (.binOp .lss 3 (.tmp 12) (.tmp 11) 3) none]
def r13_4 : List PS := [.mk (some 14) (.move (.tmp 12)) none,
  .mk (some 6) (.assign (.tmp 14)) none]
def r13_5 : List PS := [.mk (some 15) (.load 22 (.tmp 5)) none,
  .mk (some 16) (.move (.tmp 6)) none,
  .mk (some 17) (.move (.tmp 6)) none,
  .mk (some 18) (.indexAddr 22 (.tmp 15) (.tmp 16)) none,
  .mk none (.store 3 (.tmp 18) (.tmp 17)) none]
def r13_6 : List PS := [.mk (some 19) (.binOp .add 3 (.tmp 12) (.const (.int .i64 1)) 3) none,
  .mk (some 12) (.move (.tmp 19)) none]
def r13_7 : List PS := [.mk (some 20) (.load 24 (.tmp 2)) none,
  .mk (some 21) (.load 22 (.tmp 3)) none,
  .mk (some 22) (.makeFunc (.func 25) #[] #[(.tmp 5), (.tmp 2), (.tmp 3)]) none,
  .mk (some 23) (.call ⟨(.value (.func 24)), #[(.tmp 20), (.tmp 21), (.tmp 22)], #[24, 22, 46]⟩) none]
def r13_8 : List PS := [.mk (some 24) (.load 22 (.tmp 5)) none,
  .mk (some 4) (.assign (.tmp 24)) none]
def c13 : PC := (.seq (.reg false r13_0) (.seq (.reg false r13_1) (.seq (.seq (.reg false r13_2) (.block 0 (.loop (.seq (.reg false r13_3) (.seq (.cond (.tmp 13) .skip (.exit 0)) (.seq (.block 1 (.seq (.reg false r13_4) (.reg false r13_5))) (.reg false r13_6))))))) (.seq (.reg false r13_7) (.seq (.reg false r13_8) .ret)))))
theorem e13 {args : List PV} {h : Heap} {K : PV → Heap → Prop} (hl : args.length = 2) (s : pwp Try.prog [5] c13 (fin Try.prog [.tmp 4] h K) (slots0 (olds args)) h) : CanP Try.prog 13 args h K :=
  can_of2 (n := 25) mixed Try.func13 rfl (by kernel_rfl) (by rw [hl]; kernel_rfl) rfl (by kernel_rfl) s
/-! ### (*naskh.ccc.Classes).Order: function 15 -/
def r15_0 : List PS := [.mk (some 4) (.assign (.const (.slice none 0 0))) none]
def r15_1 : List PS := [.mk (some 8) (.move (.tmp 1)) none,
  .mk (some 9) (.call ⟨(.builtin .len), #[(.tmp 8)], #[22]⟩) none,
  .mk (some 10) (.makeSlice 22 (.const (.int .i64 0)) (.tmp 9)) none,
  .mk (some 5) (.assign (.tmp 10)) none]
def r15_2 : List PS := [.mk (some 11) (.move (.tmp 0)) none,
  .mk (some 12) (.move (.tmp 1)) none,
  .mk (some 13) (.call ⟨(.value (.func 13)), #[(.tmp 11), (.tmp 12)], #[24, 22]⟩) none,
  .mk (some 14) (.call ⟨(.builtin .len), #[(.tmp 13)], #[22]⟩) none,
  .mk (some 15) (.move (.const (.int .i64 0))) none]
def r15_3 : List PS := [.mk (some 16) (.binOp .lss 3 (.tmp 15) (.tmp 14) 3) none]
def r15_4 : List PS := [.mk (some 17) (.indexAddr 22 (.tmp 13) (.tmp 15)) none,
  .mk (some 18) (.load 3 (.tmp 17)) none,
  .mk (some 7) (.assign (.tmp 18)) none]
def r15_5 : List PS := [.mk (some 19) (.move (.tmp 5)) none,
  .mk (some 20) (.move (.tmp 1)) none,
  .mk (some 21) (.move (.tmp 7)) none,
  .mk (some 22) (.indexAddr 22 (.tmp 20) (.tmp 21)) none,
  .mk (some 23) (.load 3 (.tmp 22)) none,
  .mk (some 24) (.buildSlice 22 1 #[(0, (.tmp 23))]) none,
  .mk (some 25) (.call ⟨(.builtin .append), #[(.tmp 19), (.tmp 24)], #[22, 22]⟩) none,
  .mk (some 5) (.assign (.tmp 25)) none]
def r15_6 : List PS := [.mk (some 26) (.binOp .add 3 (.tmp 15) (.const (.int .i64 1)) 3) none,
  .mk (some 15) (.move (.tmp 26)) none]
def r15_7 : List PS := [.mk (some 27) (.move (.tmp 5)) none,
  .mk (some 4) (.assign (.tmp 27)) none]
def c15 : PC := (.seq (.reg false r15_0) (.seq (.reg false r15_1) (.seq (.seq (.reg false r15_2) (.block 0 (.loop (.seq (.reg false r15_3) (.seq (.cond (.tmp 16) .skip (.exit 0)) (.seq (.block 1 (.seq (.reg false r15_4) (.reg false r15_5))) (.reg false r15_6))))))) (.seq (.reg false r15_7) .ret))))
theorem e15 {args : List PV} {h : Heap} {K : PV → Heap → Prop} (hl : args.length = 2) (s : pwp Try.prog [] c15 (fin Try.prog [.tmp 4] h K) (slots0 (olds args)) h) : CanP Try.prog 15 args h K :=
  can_of2 (n := 28) mixed Try.func15 rfl (by kernel_rfl) (by rw [hl]; kernel_rfl) rfl (by kernel_rfl) s
/-! ### naskh.naskhlaw37.awake: function 6 -/
def r6_0 : List PS := [.mk (some 0) (.assign (.const (.bool false))) none]
def r6_1 : List PS := [.mk (some 2) (.call ⟨(.value (.func 7)), #[], #[]⟩) none,
  .mk (some 1) (.assign (.tmp 2)) none]
def r6_2 : List PS := [.mk (some 3) (.move (.tmp 1)) none,
  .mk (some 4) (.buildSlice 22 4 #[(0, (.const (.int .i64 1576))), (1, (.const (.int .i64 1616))), (2, (.const (.int .i64 1617))), (3, (.const (.int .i64 1614)))]) none,
  .mk (some 5) (.call ⟨(.value (.func 15)), #[(.tmp 3), (.tmp 4)], #[24, 22]⟩) none,
  .mk (some 6) (.buildSlice 22 4 #[(0, (.const (.int .i64 1576))), (1, (.const (.int .i64 1614))), (2, (.const (.int .i64 1616))), (3, (.const (.int .i64 1617)))]) none,
  .mk (some 7) (.call ⟨(.value (.func 12)), #[(.tmp 5), (.tmp 6)], #[22, 22]⟩) none,
  .mk (some 8) (.move (.tmp 7)) none,
  .mk (some 9) (.move (.tmp 1)) (some (8, true)),
  .mk (some 10) (.call ⟨(.value (.func 8)), #[(.tmp 9), (.const (.int .i64 1617))], #[24, 3]⟩) (some (8, true)),
  .mk (some 11) (.binOp .eql 3 (.tmp 10) (.const (.int .i64 33)) 3) (some (8, true)),
  .mk (some 12) (.pick (.tmp 8) (.tmp 11) (.const (.bool false))) none,
  .mk (some 13) (.move (.tmp 12)) none,
  .mk (some 14) (.move (.tmp 1)) (some (13, true)),
  .mk (some 15) (.buildSlice 22 2 #[(0, (.const (.int .i64 1616))), (1, (.const (.int .i64 1614)))]) (some (13, true)),
  .mk (some 16) (.call ⟨(.value (.func 10)), #[(.tmp 14), (.tmp 15)], #[24, 22]⟩) (some (13, true)),
  .mk (some 17) (.unOp .not 4 (.tmp 16)) (some (13, true)),
  .mk (some 18) (.pick (.tmp 13) (.tmp 17) (.const (.bool false))) none,
  .mk (some 0) (.assign (.tmp 18)) none]
def c6 : PC := (.seq (.reg false r6_0) (.seq (.reg false r6_1) (.seq (.reg false r6_2) .ret)))
theorem e6 {args : List PV} {h : Heap} {K : PV → Heap → Prop} (hl : args.length = 0) (s : pwp Try.prog [] c6 (fin Try.prog [.tmp 0] h K) (slots0 (olds args)) h) : CanP Try.prog 6 args h K :=
  can_of2 (n := 19) mixed Try.func6 rfl (by kernel_rfl) (by rw [hl]; kernel_rfl) rfl (by kernel_rfl) s
/-! ### naskh.naskhref06.Get: function 22 -/
def r22_0 : List PS := [.mk (some 6) (.assign (.const (.int .i64 0))) none]
def r22_1 : List PS := [.mk (some 7) (.assign (.const (.int .i64 0))) none]
def r22_2 : List PS := [.mk (some 8) (.move (.tmp 7)) none,
  .mk (some 9) (.move (.tmp 0)) none,
  .mk (some 10) (.call ⟨(.builtin .len), #[(.tmp 9)], #[39]⟩) none,
  .mk (some 11) (.binOp .lss 3 (.tmp 8) (.tmp 10) 3) none]
def r22_3 : List PS := [.mk (some 14) (.move (.tmp 2)) none,
  .mk (some 15) (.move (.tmp 0)) none,
  .mk (some 16) (.move (.tmp 7)) none,
  .mk (some 17) (.indexAddr 39 (.tmp 15) (.tmp 16)) none,
  .mk (some 18) (.fieldAddr 62 (.tmp 17) 0) none,
  .mk (some 19) (.load 3 (.tmp 18)) none,
  .mk (some 20) (.binOp .geq 3 (.tmp 14) (.tmp 19) 3) none,
  .mk (some 21) (.move (.tmp 20)) none,
  .mk (some 22) (.move (.tmp 2)) (some (21, true)),
  .mk (some 23) (.move (.tmp 0)) (some (21, true)),
  .mk (some 24) (.move (.tmp 7)) (some (21, true)),
  .mk (some 25) (.indexAddr 39 (.tmp 23) (.tmp 24)) (some (21, true)),
  .mk (some 26) (.fieldAddr 62 (.tmp 25) 1) (some (21, true)),
  .mk (some 27) (.load 3 (.tmp 26)) (some (21, true)),
  .mk (some 28) (.binOp .leq 3 (.tmp 22) (.tmp 27) 3) (some (21, true)),
  .mk (some 29) (.pick (.tmp 21) (.tmp 28) (.const (.bool false))) none]
def r22_4 : List PS := [.mk (some 30) (.move (.tmp 0)) none,
  .mk (some 31) (.move (.tmp 7)) none,
  .mk (some 32) (.indexAddr 39 (.tmp 30) (.tmp 31)) none,
  .mk (some 33) (.fieldAddr 62 (.tmp 32) 2) none,
  .mk (some 34) (.load 3 (.tmp 33)) none,
  .mk (some 6) (.assign (.tmp 34)) none]
def r22_5 : List PS := [.mk (some 12) (.move (.tmp 7)) none,
  .mk (some 13) (.binOp .add 3 (.tmp 12) (.const (.int .i64 1)) 3) none,
  .mk (some 7) (.assign (.tmp 13)) none]
def r22_6 : List PS := [.mk (some 35) (.move (.tmp 1)) none,
  .mk (some 6) (.assign (.tmp 35)) none]
def c22 : PC := (.seq (.reg false r22_0) (.seq (.seq (.reg false r22_1) (.block 0 (.loop (.seq (.seq (.reg false r22_2) (.cond (.tmp 11) .skip (.exit 0))) (.seq (.block 1 (.seq (.reg false r22_3) (.cond (.tmp 29) (.seq (.reg false r22_4) .ret) .skip))) (.reg false r22_5)))))) (.seq (.reg false r22_6) .ret)))
theorem e22 {args : List PV} {h : Heap} {K : PV → Heap → Prop} (hl : args.length = 3) (s : pwp Try.prog [] c22 (fin Try.prog [.tmp 6] h K) (slots0 (olds args)) h) : CanP Try.prog 22 args h K :=
  can_of2 (n := 36) mixed Try.func22 rfl (by kernel_rfl) (by rw [hl]; kernel_rfl) rfl (by kernel_rfl) s
/-! ### naskh.naskhref37.Of: function 9 -/
def r9_0 : List PS := [.mk (some 2) (.assign (.const (.int .i64 0))) none]
def r9_1 : List PS := [.mk (some 3) (.call ⟨(.value (.func 20)), #[], #[]⟩) none,
  .mk (some 4) (.move (.tmp 0)) none,
  .mk (some 5) (.call ⟨(.value (.func 22)), #[(.tmp 3), (.const (.int .i64 0)), (.tmp 4)], #[39, 3, 3]⟩) none,
  .mk (some 2) (.assign (.tmp 5)) none]
def c9 : PC := (.seq (.reg false r9_0) (.seq (.reg false r9_1) .ret))
theorem e9 {args : List PV} {h : Heap} {K : PV → Heap → Prop} (hl : args.length = 1) (s : pwp Try.prog [] c9 (fin Try.prog [.tmp 2] h K) (slots0 (olds args)) h) : CanP Try.prog 9 args h K :=
  can_of2 (n := 6) mixed Try.func9 rfl (by kernel_rfl) (by rw [hl]; kernel_rfl) rfl (by kernel_rfl) s
/-! ### naskh.naskhref37.Ordered: function 11 -/
def r11_0 : List PS := [.mk (some 2) (.assign (.const (.bool false))) none]
def r11_1 : List PS := [.mk (some 3) (.assign (.const (.int .i64 1))) none]
def r11_2 : List PS := [.mk (some 4) (.move (.tmp 3)) none,
  .mk (some 5) (.move (.tmp 0)) none,
  .mk (some 6) (.call ⟨(.builtin .len), #[(.tmp 5)], #[22]⟩) none,
  .mk (some 7) (.binOp .lss 3 (.tmp 4) (.tmp 6) 3) none]
def r11_3 : List PS := [.mk (some 10) (.move (.tmp 0)) none,
  .mk (some 11) (.move (.tmp 3)) none,
  .mk (some 12) (.indexAddr 22 (.tmp 10) (.tmp 11)) none,
  .mk (some 13) (.load 3 (.tmp 12)) none,
  .mk (some 14) (.call ⟨(.value (.func 9)), #[(.tmp 13)], #[3]⟩) none,
  .mk (some 15) (.binOp .gtr 3 (.tmp 14) (.const (.int .i64 0)) 3) none,
  .mk (some 16) (.move (.tmp 15)) none,
  .mk (some 17) (.move (.tmp 0)) (some (16, true)),
  .mk (some 18) (.move (.tmp 3)) (some (16, true)),
  .mk (some 19) (.binOp .sub 3 (.tmp 18) (.const (.int .i64 1)) 3) (some (16, true)),
  .mk (some 20) (.indexAddr 22 (.tmp 17) (.tmp 19)) (some (16, true)),
  .mk (some 21) (.load 3 (.tmp 20)) (some (16, true)),
  .mk (some 22) (.call ⟨(.value (.func 9)), #[(.tmp 21)], #[3]⟩) (some (16, true)),
  .mk (some 23) (.move (.tmp 0)) (some (16, true)),
  .mk (some 24) (.move (.tmp 3)) (some (16, true)),
  .mk (some 25) (.indexAddr 22 (.tmp 23) (.tmp 24)) (some (16, true)),
  .mk (some 26) (.load 3 (.tmp 25)) (some (16, true)),
  .mk (some 27) (.call ⟨(.value (.func 9)), #[(.tmp 26)], #[3]⟩) (some (16, true)),
  .mk (some 28) (.binOp .gtr 3 (.tmp 22) (.tmp 27) 3) (some (16, true)),
  .mk (some 29) (.pick (.tmp 16) (.tmp 28) (.const (.bool false))) none]
def r11_4 : List PS := [.mk (some 2) (.assign (.const (.bool false))) none]
def r11_5 : List PS := [.mk (some 8) (.move (.tmp 3)) none,
  .mk (some 9) (.binOp .add 3 (.tmp 8) (.const (.int .i64 1)) 3) none,
  .mk (some 3) (.assign (.tmp 9)) none]
def r11_6 : List PS := [.mk (some 2) (.assign (.const (.bool true))) none]
def c11 : PC := (.seq (.reg false r11_0) (.seq (.seq (.reg false r11_1) (.block 0 (.loop (.seq (.seq (.reg false r11_2) (.cond (.tmp 7) .skip (.exit 0))) (.seq (.block 1 (.seq (.reg true r11_3) (.cond (.tmp 29) (.seq (.reg false r11_4) .ret) .skip))) (.reg false r11_5)))))) (.seq (.reg false r11_6) .ret)))
theorem e11 {args : List PV} {h : Heap} {K : PV → Heap → Prop} (hl : args.length = 1) (s : pwp Try.prog [] c11 (fin Try.prog [.tmp 2] h K) (slots0 (olds args)) h) : CanP Try.prog 11 args h K :=
  can_of2 (n := 30) mixed Try.func11 rfl (by kernel_rfl) (by rw [hl]; kernel_rfl) rfl (by kernel_rfl) s
/-! ### naskh.naskhref37.Places: function 14 -/
def r14_0 : List PS := [.mk (some 2) (.assign (.const (.slice none 0 0))) none]
def r14_1 : List PS := [.mk (some 3) (.assign (.const (.slice none 0 0))) none]
def r14_2 : List PS := [.mk (some 4) (.assign (.const (.int .i64 0))) none]
def r14_3 : List PS := [.mk (some 6) (.move (.tmp 4)) none,
  .mk (some 7) (.move (.tmp 0)) none,
  .mk (some 8) (.call ⟨(.builtin .len), #[(.tmp 7)], #[22]⟩) none,
  .mk (some 9) (.binOp .lss 3 (.tmp 6) (.tmp 8) 3) none]
def r14_4 : List PS := [.frz 3,
  .mk (some 12) (.move (.tmp 3)) none,
  .mk (some 13) (.call ⟨(.builtin .len), #[(.tmp 12)], #[22]⟩) none,
  .mk (some 5) (.assign (.tmp 13)) none]
def r14_5 : List PS := [.mk (some 14) (.move (.tmp 0)) none,
  .mk (some 15) (.move (.tmp 4)) none,
  .mk (some 16) (.indexAddr 22 (.tmp 14) (.tmp 15)) none,
  .mk (some 17) (.load 3 (.tmp 16)) none,
  .mk (some 18) (.call ⟨(.value (.func 9)), #[(.tmp 17)], #[3]⟩) none,
  .mk (some 19) (.binOp .gtr 3 (.tmp 18) (.const (.int .i64 0)) 3) none,
  .mk (some 20) (.move (.tmp 19)) none,
  .mk (some 21) (.move (.tmp 5)) (some (20, true)),
  .mk (some 22) (.binOp .gtr 3 (.tmp 21) (.const (.int .i64 0)) 3) (some (20, true)),
  .mk (some 23) (.pick (.tmp 20) (.tmp 22) (.const (.bool false))) none,
  .mk (some 24) (.move (.tmp 23)) none,
  .mk (some 25) (.move (.tmp 0)) (some (24, true)),
  .mk (some 26) (.move (.tmp 3)) (some (24, true)),
  .mk (some 27) (.move (.tmp 5)) (some (24, true)),
  .mk (some 28) (.binOp .sub 3 (.tmp 27) (.const (.int .i64 1)) 3) (some (24, true)),
  .mk (some 29) (.indexAddr 22 (.tmp 26) (.tmp 28)) (some (24, true)),
  .mk (some 30) (.load 3 (.tmp 29)) (some (24, true)),
  .mk (some 31) (.indexAddr 22 (.tmp 25) (.tmp 30)) (some (24, true)),
  .mk (some 32) (.load 3 (.tmp 31)) (some (24, true)),
  .mk (some 33) (.call ⟨(.value (.func 9)), #[(.tmp 32)], #[3]⟩) (some (24, true)),
  .mk (some 34) (.move (.tmp 0)) (some (24, true)),
  .mk (some 35) (.move (.tmp 4)) (some (24, true)),
  .mk (some 36) (.indexAddr 22 (.tmp 34) (.tmp 35)) (some (24, true)),
  .mk (some 37) (.load 3 (.tmp 36)) (some (24, true)),
  .mk (some 38) (.call ⟨(.value (.func 9)), #[(.tmp 37)], #[3]⟩) (some (24, true)),
  .mk (some 39) (.binOp .gtr 3 (.tmp 33) (.tmp 38) 3) (some (24, true)),
  .mk (some 40) (.pick (.tmp 24) (.tmp 39) (.const (.bool false))) none]
def r14_6 : List PS := [.mk (some 41) (.move (.tmp 5)) none,
  .mk (some 42) (.binOp .sub 3 (.tmp 41) (.const (.int .i64 1)) 3) none,
  .mk (some 5) (.assign (.tmp 42)) none]
def r14_7 : List PS := [.mk (some 43) (.move (.tmp 3)) none,
  .mk (some 44) (.move (.tmp 5)) none,
  .mk (some 45) (.slice 22 (.tmp 43) none (some (.tmp 44)) none) none,
  .mk (some 46) (.call ⟨(.builtin .append), #[(.const (.slice none 0 0)), (.tmp 45)], #[22, 22]⟩) none,
  .mk (some 47) (.move (.tmp 4)) none,
  .mk (some 48) (.buildSlice 22 1 #[(0, (.tmp 47))]) none,
  .mk (some 49) (.call ⟨(.builtin .append), #[(.tmp 46), (.tmp 48)], #[22, 22]⟩) none,
  .mk (some 50) (.move (.tmp 3)) none,
  .mk (some 51) (.move (.tmp 5)) none,
  .mk (some 52) (.slice 22 (.tmp 50) (some (.tmp 51)) none none) none,
  .mk (some 53) (.call ⟨(.builtin .append), #[(.tmp 49), (.tmp 52)], #[22, 22]⟩) none,
  .mk (some 3) (.assign (.tmp 53)) none]
def r14_8 : List PS := [.mk (some 10) (.move (.tmp 4)) none,
  .mk (some 11) (.binOp .add 3 (.tmp 10) (.const (.int .i64 1)) 3) none,
  .mk (some 4) (.assign (.tmp 11)) none]
def r14_9 : List PS := [.mk (some 54) (.move (.tmp 3)) none,
  .mk (some 2) (.assign (.tmp 54)) none]
def c14 : PC := (.seq (.reg false r14_0) (.seq (.reg false r14_1) (.seq (.seq (.reg false r14_2) (.block 0 (.loop (.seq (.seq (.reg false r14_3) (.cond (.tmp 9) .skip (.exit 0))) (.seq (.block 1 (.seq (.reg false r14_4) (.seq (.block 2 (.loop (.seq (.seq (.reg true r14_5) (.cond (.tmp 40) .skip (.exit 2))) (.block 3 (.reg false r14_6))))) (.reg true r14_7)))) (.reg false r14_8)))))) (.seq (.reg false r14_9) .ret))))
theorem e14 {args : List PV} {h : Heap} {K : PV → Heap → Prop} (hl : args.length = 1) (s : pwp Try.prog [] c14 (fin Try.prog [.tmp 2] h K) (slots0 (olds args)) h) : CanP Try.prog 14 args h K :=
  can_of2 (n := 55) mixed Try.func14 rfl (by kernel_rfl) (by rw [hl]; kernel_rfl) rfl (by kernel_rfl) s
/-! ### naskh.naskhref37.Order: function 16 -/
def r16_0 : List PS := [.mk (some 2) (.assign (.const (.slice none 0 0))) none]
def r16_1 : List PS := [.mk (some 3) (.assign (.const (.slice none 0 0))) none]
def r16_2 : List PS := [.mk (some 6) (.move (.tmp 0)) none,
  .mk (some 7) (.call ⟨(.value (.func 14)), #[(.tmp 6)], #[22]⟩) none,
  .mk (some 4) (.assign (.tmp 7)) none]
def r16_3 : List PS := [.mk (some 5) (.assign (.const (.int .i64 0))) none]
def r16_4 : List PS := [.mk (some 8) (.move (.tmp 5)) none,
  .mk (some 9) (.move (.tmp 4)) none,
  .mk (some 10) (.call ⟨(.builtin .len), #[(.tmp 9)], #[22]⟩) none,
  .mk (some 11) (.binOp .lss 3 (.tmp 8) (.tmp 10) 3) none]
def r16_5 : List PS := [.mk (some 14) (.move (.tmp 3)) none,
  .mk (some 15) (.move (.tmp 0)) none,
  .mk (some 16) (.move (.tmp 4)) none,
  .mk (some 17) (.move (.tmp 5)) none,
  .mk (some 18) (.indexAddr 22 (.tmp 16) (.tmp 17)) none,
  .mk (some 19) (.load 3 (.tmp 18)) none,
  .mk (some 20) (.indexAddr 22 (.tmp 15) (.tmp 19)) none,
  .mk (some 21) (.load 3 (.tmp 20)) none,
  .mk (some 22) (.buildSlice 22 1 #[(0, (.tmp 21))]) none,
  .mk (some 23) (.call ⟨(.builtin .append), #[(.tmp 14), (.tmp 22)], #[22, 22]⟩) none,
  .mk (some 3) (.assign (.tmp 23)) none]
def r16_6 : List PS := [.mk (some 12) (.move (.tmp 5)) none,
  .mk (some 13) (.binOp .add 3 (.tmp 12) (.const (.int .i64 1)) 3) none,
  .mk (some 5) (.assign (.tmp 13)) none]
def r16_7 : List PS := [.mk (some 24) (.move (.tmp 3)) none,
  .mk (some 2) (.assign (.tmp 24)) none]
def c16 : PC := (.seq (.reg false r16_0) (.seq (.reg false r16_1) (.seq (.reg false r16_2) (.seq (.seq (.reg false r16_3) (.block 0 (.loop (.seq (.seq (.reg false r16_4) (.cond (.tmp 11) .skip (.exit 0))) (.seq (.block 1 (.reg false r16_5)) (.reg false r16_6)))))) (.seq (.reg false r16_7) .ret)))))
theorem e16 {args : List PV} {h : Heap} {K : PV → Heap → Prop} (hl : args.length = 1) (s : pwp Try.prog [] c16 (fin Try.prog [.tmp 2] h K) (slots0 (olds args)) h) : CanP Try.prog 16 args h K :=
  can_of2 (n := 25) mixed Try.func16 rfl (by kernel_rfl) (by rw [hl]; kernel_rfl) rfl (by kernel_rfl) s
/-! ### naskh.naskhlaw37.CccTells: function 3 -/
def r3_0 : List PS := [.mk (some 2) (.assign (.const (.bool false))) none]
def r3_1 : List PS := [.mk (some 6) (.move (.tmp 0)) none,
  .mk (some 7) (.call ⟨(.builtin .len), #[(.tmp 6)], #[22]⟩) none,
  .mk (some 8) (.binOp .gtr 3 (.tmp 7) (.const (.int .i64 100)) 3) none]
def r3_2 : List PS := [.mk (some 9) (.call ⟨(.value (.func 6)), #[], #[]⟩) none,
  .mk (some 2) (.assign (.tmp 9)) none]
def r3_3 : List PS := [.mk (some 10) (.call ⟨(.value (.func 7)), #[], #[]⟩) none,
  .mk (some 3) (.assign (.tmp 10)) none]
def r3_4 : List PS := [.mk (some 11) (.move (.tmp 0)) none,
  .mk (some 12) (.call ⟨(.builtin .len), #[(.tmp 11)], #[22]⟩) none,
  .mk (some 13) (.move (.const (.int .i64 0))) none]
def r3_5 : List PS := [.mk (some 14) (.binOp .lss 3 (.tmp 13) (.tmp 12) 3) none]
def r3_6 : List PS := [.mk (some 15) (.indexAddr 22 (.tmp 11) (.tmp 13)) none,
  .mk (some 16) (.load 3 (.tmp 15)) none,
  .mk (some 5) (.assign (.tmp 16)) none]
def r3_7 : List PS := [.mk (some 17) (.move (.tmp 3)) none,
  .mk (some 18) (.move (.tmp 5)) none,
  .mk (some 19) (.call ⟨(.value (.func 8)), #[(.tmp 17), (.tmp 18)], #[24, 3]⟩) none,
  .mk (some 20) (.move (.tmp 5)) none,
  .mk (some 21) (.call ⟨(.value (.func 9)), #[(.tmp 20)], #[3]⟩) none,
  .mk (some 22) (.binOp .neq 3 (.tmp 19) (.tmp 21) 3) none]
def r3_8 : List PS := [.mk (some 2) (.assign (.const (.bool false))) none]
def r3_9 : List PS := [.mk (some 23) (.binOp .add 3 (.tmp 13) (.const (.int .i64 1)) 3) none,
  .mk (some 13) (.move (.tmp 23)) none]
def r3_10 : List PS := [.mk (some 24) (.move (.tmp 3)) none,
  .mk (some 25) (.move (.tmp 0)) none,
  .mk (some 26) (.call ⟨(.value (.func 10)), #[(.tmp 24), (.tmp 25)], #[24, 22]⟩) none,
  .mk (some 27) (.move (.tmp 0)) none,
  .mk (some 28) (.call ⟨(.value (.func 11)), #[(.tmp 27)], #[22]⟩) none,
  .mk (some 29) (.binOp .eql 4 (.tmp 26) (.tmp 28) 4) none,
  .mk (some 30) (.move (.tmp 29)) none,
  .mk (some 31) (.move (.tmp 3)) (some (30, true)),
  .mk (some 32) (.move (.tmp 0)) (some (30, true)),
  .mk (some 33) (.call ⟨(.value (.func 13)), #[(.tmp 31), (.tmp 32)], #[24, 22]⟩) (some (30, true)),
  .mk (some 34) (.move (.tmp 0)) (some (30, true)),
  .mk (some 35) (.call ⟨(.value (.func 14)), #[(.tmp 34)], #[22]⟩) (some (30, true)),
  .mk (some 36) (.call ⟨(.value (.func 12)), #[(.tmp 33), (.tmp 35)], #[22, 22]⟩) (some (30, true)),
  .mk (some 37) (.pick (.tmp 30) (.tmp 36) (.const (.bool false))) none,
  .mk (some 38) (.move (.tmp 37)) none,
  .mk (some 39) (.move (.tmp 3)) (some (38, true)),
  .mk (some 40) (.move (.tmp 0)) (some (38, true)),
  .mk (some 41) (.call ⟨(.value (.func 15)), #[(.tmp 39), (.tmp 40)], #[24, 22]⟩) (some (38, true)),
  .mk (some 42) (.move (.tmp 0)) (some (38, true)),
  .mk (some 43) (.call ⟨(.value (.func 16)), #[(.tmp 42)], #[22]⟩) (some (38, true)),
  .mk (some 44) (.call ⟨(.value (.func 12)), #[(.tmp 41), (.tmp 43)], #[22, 22]⟩) (some (38, true)),
  .mk (some 45) (.pick (.tmp 38) (.tmp 44) (.const (.bool false))) none,
  .mk (some 46) (.move (.tmp 45)) none,
  .mk (some 47) (.call ⟨(.value (.func 6)), #[], #[]⟩) (some (46, true)),
  .mk (some 48) (.pick (.tmp 46) (.tmp 47) (.const (.bool false))) none,
  .mk (some 2) (.assign (.tmp 48)) none]
def c3 : PC := (.seq (.reg false r3_0) (.seq (.seq (.reg false r3_1) (.cond (.tmp 8) (.seq (.reg false r3_2) .ret) .skip)) (.seq (.reg false r3_3) (.seq (.seq (.reg false r3_4) (.block 0 (.loop (.seq (.reg false r3_5) (.seq (.cond (.tmp 14) .skip (.exit 0)) (.seq (.block 1 (.seq (.reg false r3_6) (.seq (.reg false r3_7) (.cond (.tmp 22) (.seq (.reg false r3_8) .ret) .skip)))) (.reg false r3_9))))))) (.seq (.reg false r3_10) .ret)))))
theorem e3 {args : List PV} {h : Heap} {K : PV → Heap → Prop} (hl : args.length = 1) (s : pwp Try.prog [] c3 (fin Try.prog [.tmp 2] h K) (slots0 (olds args)) h) : CanP Try.prog 3 args h K :=
  can_of2 (n := 49) mixed Try.func3 rfl (by kernel_rfl) (by rw [hl]; kernel_rfl) rfl (by kernel_rfl) s
/-! ### naskh.naskhlaw37.CccNobody: function 4 -/
def r4_0 : List PS := [.mk (some 2) (.assign (.const (.bool false))) none]
def r4_1 : List PS := [.mk (some 7) (.move (.tmp 0)) none,
  .mk (some 8) (.call ⟨(.builtin .len), #[(.tmp 7)], #[22]⟩) none,
  .mk (some 9) (.binOp .gtr 3 (.tmp 8) (.const (.int .i64 200)) 3) none]
def r4_2 : List PS := [.mk (some 10) (.call ⟨(.value (.func 6)), #[], #[]⟩) none,
  .mk (some 2) (.assign (.tmp 10)) none]
def r4_3 : List PS := [.mk (some 3) (.assign (.const (.pointer none))) none]
def r4_4 : List PS := [.mk (some 4) (.alloc 34) none]
def r4_5 : List PS := [.mk (some 11) (.move (.tmp 0)) none,
  .mk (some 12) (.call ⟨(.builtin .len), #[(.tmp 11)], #[22]⟩) none,
  .mk (some 13) (.move (.const (.int .i64 0))) none]
def r4_6 : List PS := [.mk (some 14) (.binOp .lss 3 (.tmp 13) (.tmp 12) 3) none]
def r4_7 : List PS := [.mk (some 15) (.indexAddr 22 (.tmp 11) (.tmp 13)) none,
  .mk (some 16) (.load 3 (.tmp 15)) none,
  .mk (some 6) (.assign (.tmp 16)) none]
def r4_8 : List PS := [.mk (some 17) (.move (.tmp 3)) none,
  .mk (some 18) (.move (.tmp 6)) none,
  .mk (some 19) (.call ⟨(.value (.func 8)), #[(.tmp 17), (.tmp 18)], #[24, 3]⟩) none,
  .mk (some 20) (.binOp .neq 3 (.tmp 19) (.const (.int .i64 0)) 3) none,
  .mk (some 21) (.move (.tmp 20)) none,
  .mk (some 22) (.move (.tmp 6)) (some (21, false)),
  .mk (some 23) (.call ⟨(.value (.func 8)), #[(.tmp 4), (.tmp 22)], #[34, 3]⟩) (some (21, false)),
  .mk (some 24) (.binOp .neq 3 (.tmp 23) (.const (.int .i64 0)) 3) (some (21, false)),
  .mk (some 25) (.pick (.tmp 21) (.const (.bool true)) (.tmp 24)) none]
def r4_9 : List PS := [.mk (some 2) (.assign (.const (.bool false))) none]
def r4_10 : List PS := [.mk (some 26) (.binOp .add 3 (.tmp 13) (.const (.int .i64 1)) 3) none,
  .mk (some 13) (.move (.tmp 26)) none]
def r4_11 : List PS := [.mk (some 27) (.move (.tmp 3)) none,
  .mk (some 28) (.move (.tmp 0)) none,
  .mk (some 29) (.call ⟨(.value (.func 10)), #[(.tmp 27), (.tmp 28)], #[24, 22]⟩) none,
  .mk (some 30) (.move (.tmp 29)) none,
  .mk (some 31) (.move (.tmp 0)) (some (30, true)),
  .mk (some 32) (.call ⟨(.value (.func 10)), #[(.tmp 4), (.tmp 31)], #[34, 22]⟩) (some (30, true)),
  .mk (some 33) (.pick (.tmp 30) (.tmp 32) (.const (.bool false))) none,
  .mk (some 34) (.move (.tmp 33)) none,
  .mk (some 35) (.move (.tmp 3)) (some (34, true)),
  .mk (some 36) (.move (.tmp 0)) (some (34, true)),
  .mk (some 37) (.call ⟨(.value (.func 15)), #[(.tmp 35), (.tmp 36)], #[24, 22]⟩) (some (34, true)),
  .mk (some 38) (.move (.tmp 0)) (some (34, true)),
  .mk (some 39) (.call ⟨(.value (.func 12)), #[(.tmp 37), (.tmp 38)], #[22, 22]⟩) (some (34, true)),
  .mk (some 40) (.pick (.tmp 34) (.tmp 39) (.const (.bool false))) none,
  .mk (some 41) (.move (.tmp 40)) none,
  .mk (some 42) (.move (.tmp 0)) (some (41, true)),
  .mk (some 43) (.call ⟨(.value (.func 15)), #[(.tmp 4), (.tmp 42)], #[34, 22]⟩) (some (41, true)),
  .mk (some 44) (.move (.tmp 0)) (some (41, true)),
  .mk (some 45) (.call ⟨(.value (.func 12)), #[(.tmp 43), (.tmp 44)], #[22, 22]⟩) (some (41, true)),
  .mk (some 46) (.pick (.tmp 41) (.tmp 45) (.const (.bool false))) none,
  .mk (some 47) (.move (.tmp 46)) none,
  .mk (some 48) (.call ⟨(.value (.func 6)), #[], #[]⟩) (some (47, true)),
  .mk (some 49) (.pick (.tmp 47) (.tmp 48) (.const (.bool false))) none,
  .mk (some 2) (.assign (.tmp 49)) none]
def c4 : PC := (.seq (.reg false r4_0) (.seq (.seq (.reg false r4_1) (.cond (.tmp 9) (.seq (.reg false r4_2) .ret) .skip)) (.seq (.reg false r4_3) (.seq (.reg false r4_4) (.seq (.seq (.reg false r4_5) (.block 0 (.loop (.seq (.reg false r4_6) (.seq (.cond (.tmp 14) .skip (.exit 0)) (.seq (.block 1 (.seq (.reg false r4_7) (.seq (.reg false r4_8) (.cond (.tmp 25) (.seq (.reg false r4_9) .ret) .skip)))) (.reg false r4_10))))))) (.seq (.reg false r4_11) .ret))))))
theorem e4 {args : List PV} {h : Heap} {K : PV → Heap → Prop} (hl : args.length = 1) (s : pwp Try.prog [] c4 (fin Try.prog [.tmp 2] h K) (slots0 (olds args)) h) : CanP Try.prog 4 args h K :=
  can_of2 (n := 50) mixed Try.func4 rfl (by kernel_rfl) (by rw [hl]; kernel_rfl) rfl (by kernel_rfl) s
/-! ### slices.Clone[[]int,int]: function 17 -/
def r17_0 : List PS := [.mk (some 2) (.assign (.const (.slice none 0 0))) none]
def r17_1 : List PS := [.mk (some 3) (.move (.tmp 0)) none,
  .mk (some 4) (.binOp .eql 22 (.tmp 3) (.const (.slice none 0 0)) 22) none]
def r17_2 : List PS := [.mk (some 2) (.assign (.const (.slice none 0 0))) none]
def r17_3 : List PS := [.mk (some 5) (.buildSlice 22 0 #[]) none,
  .mk (some 6) (.move (.tmp 0)) none,
  .mk (some 7) (.call ⟨(.builtin .append), #[(.tmp 5), (.tmp 6)], #[22, 22]⟩) none,
  .mk (some 2) (.assign (.tmp 7)) none]
def c17 : PC := (.seq (.reg false r17_0) (.seq (.seq (.reg false r17_1) (.cond (.tmp 4) (.seq (.reg false r17_2) .ret) .skip)) (.seq (.reg false r17_3) .ret)))
theorem e17 {args : List PV} {h : Heap} {K : PV → Heap → Prop} (hl : args.length = 1) (s : pwp Try.prog [5] c17 (fin Try.prog [.tmp 2] h K) (slots0 (olds args)) h) : CanP Try.prog 17 args h K :=
  can_of2 (n := 8) mixed Try.func17 rfl (by kernel_rfl) (by rw [hl]; kernel_rfl) rfl (by kernel_rfl) s
/-! ### cmp.isNaN[int]: function 55 -/
def r55_0 : List PS := [.mk (some 2) (.assign (.const (.bool false))) none]
def r55_1 : List PS := [.mk (some 3) (.move (.tmp 0)) none,
  .mk (some 4) (.move (.tmp 0)) none,
  .mk (some 5) (.binOp .neq 3 (.tmp 3) (.tmp 4) 3) none,
  .mk (some 2) (.assign (.tmp 5)) none]
def c55 : PC := (.seq (.reg false r55_0) (.seq (.reg false r55_1) .ret))
theorem e55 {args : List PV} {h : Heap} {K : PV → Heap → Prop} (hl : args.length = 1) (s : pwp Try.prog [] c55 (fin Try.prog [.tmp 2] h K) (slots0 (olds args)) h) : CanP Try.prog 55 args h K :=
  can_of2 (n := 6) mixed Try.func55 rfl (by kernel_rfl) (by rw [hl]; kernel_rfl) rfl (by kernel_rfl) s
/-! ### cmp.Less[int]: function 42 -/
def r42_0 : List PS := [.mk (some 4) (.assign (.const (.bool false))) none]
def r42_1 : List PS := [.mk (some 5) (.move (.tmp 0)) none,
  .mk (some 6) (.call ⟨(.value (.func 55)), #[(.tmp 5)], #[3]⟩) none,
  .mk (some 7) (.move (.tmp 6)) none,
  .mk (some 8) (.move (.tmp 1)) (some (7, true)),
  .mk (some 9) (.call ⟨(.value (.func 55)), #[(.tmp 8)], #[3]⟩) (some (7, true)),
  .mk (some 10) (.unOp .not 4 (.tmp 9)) (some (7, true)),
  .mk (some 11) (.pick (.tmp 7) (.tmp 10) (.const (.bool false))) none,
  .mk (some 12) (.move (.tmp 11)) none,
  .mk (some 13) (.move (.tmp 0)) (some (12, false)),
  .mk (some 14) (.move (.tmp 1)) (some (12, false)),
  .mk (some 15) (.binOp .lss 3 (.tmp 13) (.tmp 14) 3) (some (12, false)),
  .mk (some 16) (.pick (.tmp 12) (.const (.bool true)) (.tmp 15)) none,
  .mk (some 4) (.assign (.tmp 16)) none]
def c42 : PC := (.seq (.reg false r42_0) (.seq (.reg false r42_1) .ret))
theorem e42 {args : List PV} {h : Heap} {K : PV → Heap → Prop} (hl : args.length = 2) (s : pwp Try.prog [] c42 (fin Try.prog [.tmp 4] h K) (slots0 (olds args)) h) : CanP Try.prog 42 args h K :=
  can_of2 (n := 17) mixed Try.func42 rfl (by kernel_rfl) (by rw [hl]; kernel_rfl) rfl (by kernel_rfl) s
/-! ### slices.insertionSortOrdered[int]: function 36 -/
def r36_0 : List PS := [.mk (some 8) (.move (.tmp 1)) none,
  .mk (some 9) (.binOp .add 3 (.tmp 8) (.const (.int .i64 1)) 3) none,
  .mk (some 6) (.assign (.tmp 9)) none]
def r36_1 : List PS := [.mk (some 10) (.move (.tmp 6)) none,
  .mk (some 11) (.move (.tmp 2)) none,
  .mk (some 12) (.binOp .lss 3 (.tmp 10) (.tmp 11) 3) none]
def r36_2 : List PS := [.mk (some 15) (.move (.tmp 6)) none,
  .mk (some 7) (.assign (.tmp 15)) none]
def r36_3 : List PS := [.mk (some 16) (.move (.tmp 7)) none,
  .mk (some 17) (.move (.tmp 1)) none,
  .mk (some 18) (.binOp .gtr 3 (.tmp 16) (.tmp 17) 3) none,
  .mk (some 19) (.move (.tmp 18)) none,
  .mk (some 20) (.move (.tmp 0)) (some (19, true)),
  .mk (some 21) (.move (.tmp 7)) (some (19, true)),
  .mk (some 22) (.indexAddr 22 (.tmp 20) (.tmp 21)) (some (19, true)),
  .mk (some 23) (.load 3 (.tmp 22)) (some (19, true)),
  .mk (some 24) (.move (.tmp 0)) (some (19, true)),
  .mk (some 25) (.move (.tmp 7)) (some (19, true)),
  .mk (some 26) (.binOp .sub 3 (.tmp 25) (.const (.int .i64 1)) 3) (some (19, true)),
  .mk (some 27) (.indexAddr 22 (.tmp 24) (.tmp 26)) (some (19, true)),
  .mk (some 28) (.load 3 (.tmp 27)) (some (19, true)),
  .mk (some 29) (.call ⟨(.value (.func 42)), #[(.tmp 23), (.tmp 28)], #[3, 3]⟩) (some (19, true)),
  .mk (some 30) (.pick (.tmp 19) (.tmp 29) (.const (.bool false))) none]
def r36_4 : List PS := [.mk (some 33) (.move (.tmp 0)) none,
  .mk (some 34) (.move (.tmp 7)) none,
  .mk (some 35) (.move (.tmp 0)) none,
  .mk (some 36) (.move (.tmp 7)) none,
  .mk (some 37) (.binOp .sub 3 (.tmp 36) (.const (.int .i64 1)) 3) none,
  .mk (some 38) (.move (.tmp 0)) none,
  .mk (some 39) (.move (.tmp 7)) none,
  .mk (some 40) (.binOp .sub 3 (.tmp 39) (.const (.int .i64 1)) 3) none,
  .mk (some 41) (.indexAddr 22 (.tmp 38) (.tmp 40)) none,
  .mk (some 42) (.load 3 (.tmp 41)) none,
  .mk (some 43) (.move (.tmp 0)) none,
  .mk (some 44) (.move (.tmp 7)) none,
  .mk (some 45) (.indexAddr 22 (.tmp 43) (.tmp 44)) none,
  .mk (some 46) (.load 3 (.tmp 45)) none,
  .mk (some 47) (.indexAddr 22 (.tmp 33) (.tmp 34)) none,
  .mk none (.store 3 (.tmp 47) (.tmp 42)) none,
  .mk (some 48) (.indexAddr 22 (.tmp 35) (.tmp 37)) none,
  .mk none (.store 3 (.tmp 48) (.tmp 46)) none]
def r36_5 : List PS := [.mk (some 31) (.move (.tmp 7)) none,
  .mk (some 32) (.binOp .sub 3 (.tmp 31) (.const (.int .i64 1)) 3) none,
  .mk (some 7) (.assign (.tmp 32)) none]
def r36_6 : List PS := [.mk (some 13) (.move (.tmp 6)) none,
  .mk (some 14) (.binOp .add 3 (.tmp 13) (.const (.int .i64 1)) 3) none,
  .mk (some 6) (.assign (.tmp 14)) none]
def c36 : PC := (.seq (.reg false r36_0) (.block 0 (.loop (.seq (.seq (.reg false r36_1) (.cond (.tmp 12) .skip (.exit 0))) (.seq (.block 1 (.seq (.reg false r36_2) (.block 2 (.loop (.seq (.seq (.reg true r36_3) (.cond (.tmp 30) .skip (.exit 2))) (.seq (.block 3 (.reg true r36_4)) (.reg false r36_5))))))) (.reg false r36_6))))))
theorem e36 {args : List PV} {h : Heap} {K : PV → Heap → Prop} (hl : args.length = 3) (s : pwp Try.prog [] c36 (fin Try.prog [] h K) (slots0 (olds args)) h) : CanP Try.prog 36 args h K :=
  can_of2 (n := 49) mixed Try.func36 rfl (by kernel_rfl) (by rw [hl]; kernel_rfl) rfl (by kernel_rfl) s
/-! ### slices.siftDownOrdered[int]: function 50 -/
def r50_0 : List PS := [.mk (some 10) (.move (.tmp 1)) none,
  .mk (some 8) (.assign (.tmp 10)) none]
def r50_1 : List PS := [.mk (some 11) (.move (.tmp 8)) none,
  .mk (some 12) (.binOp .mul 3 (.const (.int .i64 2)) (.tmp 11) 3) none,
  .mk (some 13) (.binOp .add 3 (.tmp 12) (.const (.int .i64 1)) 3) none,
  .mk (some 9) (.assign (.tmp 13)) none]
def r50_2 : List PS := [.mk (some 14) (.move (.tmp 9)) none,
  .mk (some 15) (.move (.tmp 2)) none,
  .mk (some 16) (.binOp .geq 3 (.tmp 14) (.tmp 15) 3) none]
def r50_3 : List PS := [.mk (some 17) (.move (.tmp 9)) none,
  .mk (some 18) (.binOp .add 3 (.tmp 17) (.const (.int .i64 1)) 3) none,
  .mk (some 19) (.move (.tmp 2)) none,
  .mk (some 20) (.binOp .lss 3 (.tmp 18) (.tmp 19) 3) none,
  .mk (some 21) (.move (.tmp 20)) none,
  .mk (some 22) (.move (.tmp 0)) (some (21, true)),
  .mk (some 23) (.move (.tmp 3)) (some (21, true)),
  .mk (some 24) (.move (.tmp 9)) (some (21, true)),
  .mk (some 25) (.binOp .add 3 (.tmp 23) (.tmp 24) 3) (some (21, true)),
  .mk (some 26) (.indexAddr 22 (.tmp 22) (.tmp 25)) (some (21, true)),
  .mk (some 27) (.load 3 (.tmp 26)) (some (21, true)),
  .mk (some 28) (.move (.tmp 0)) (some (21, true)),
  .mk (some 29) (.move (.tmp 3)) (some (21, true)),
  .mk (some 30) (.move (.tmp 9)) (some (21, true)),
  .mk (some 31) (.binOp .add 3 (.tmp 29) (.tmp 30) 3) (some (21, true)),
  .mk (some 32) (.binOp .add 3 (.tmp 31) (.const (.int .i64 1)) 3) (some (21, true)),
  .mk (some 33) (.indexAddr 22 (.tmp 28) (.tmp 32)) (some (21, true)),
  .mk (some 34) (.load 3 (.tmp 33)) (some (21, true)),
  .mk (some 35) (.call ⟨(.value (.func 42)), #[(.tmp 27), (.tmp 34)], #[3, 3]⟩) (some (21, true)),
  .mk (some 36) (.pick (.tmp 21) (.tmp 35) (.const (.bool false))) none]
def r50_4 : List PS := [.mk (some 37) (.move (.tmp 9)) none,
  .mk (some 38) (.binOp .add 3 (.tmp 37) (.const (.int .i64 1)) 3) none,
  .mk (some 9) (.assign (.tmp 38)) none]
def r50_5 : List PS := [.mk (some 39) (.move (.tmp 0)) none,
  .mk (some 40) (.move (.tmp 3)) none,
  .mk (some 41) (.move (.tmp 8)) none,
  .mk (some 42) (.binOp .add 3 (.tmp 40) (.tmp 41) 3) none,
  .mk (some 43) (.indexAddr 22 (.tmp 39) (.tmp 42)) none,
  .mk (some 44) (.load 3 (.tmp 43)) none,
  .mk (some 45) (.move (.tmp 0)) none,
  .mk (some 46) (.move (.tmp 3)) none,
  .mk (some 47) (.move (.tmp 9)) none,
  .mk (some 48) (.binOp .add 3 (.tmp 46) (.tmp 47) 3) none,
  .mk (some 49) (.indexAddr 22 (.tmp 45) (.tmp 48)) none,
  .mk (some 50) (.load 3 (.tmp 49)) none,
  .mk (some 51) (.call ⟨(.value (.func 42)), #[(.tmp 44), (.tmp 50)], #[3, 3]⟩) none,
  .mk (some 52) (.unOp .not 4 (.tmp 51)) none]
def r50_6 : List PS := [.mk (some 53) (.move (.tmp 0)) none,
  .mk (some 54) (.move (.tmp 3)) none,
  .mk (some 55) (.move (.tmp 8)) none,
  .mk (some 56) (.binOp .add 3 (.tmp 54) (.tmp 55) 3) none,
  .mk (some 57) (.move (.tmp 0)) none,
  .mk (some 58) (.move (.tmp 3)) none,
  .mk (some 59) (.move (.tmp 9)) none,
  .mk (some 60) (.binOp .add 3 (.tmp 58) (.tmp 59) 3) none,
  .mk (some 61) (.move (.tmp 0)) none,
  .mk (some 62) (.move (.tmp 3)) none,
  .mk (some 63) (.move (.tmp 9)) none,
  .mk (some 64) (.binOp .add 3 (.tmp 62) (.tmp 63) 3) none,
  .mk (some 65) (.indexAddr 22 (.tmp 61) (.tmp 64)) none,
  .mk (some 66) (.load 3 (.tmp 65)) none,
  .mk (some 67) (.move (.tmp 0)) none,
  .mk (some 68) (.move (.tmp 3)) none,
  .mk (some 69) (.move (.tmp 8)) none,
  .mk (some 70) (.binOp .add 3 (.tmp 68) (.tmp 69) 3) none,
  .mk (some 71) (.indexAddr 22 (.tmp 67) (.tmp 70)) none,
  .mk (some 72) (.load 3 (.tmp 71)) none,
  .mk (some 73) (.indexAddr 22 (.tmp 53) (.tmp 56)) none,
  .mk none (.store 3 (.tmp 73) (.tmp 66)) none,
  .mk (some 74) (.indexAddr 22 (.tmp 57) (.tmp 60)) none,
  .mk none (.store 3 (.tmp 74) (.tmp 72)) none]
def r50_7 : List PS := [.mk (some 75) (.move (.tmp 9)) none,
  .mk (some 8) (.assign (.tmp 75)) none]
def c50 : PC := (.seq (.reg false r50_0) (.block 0 (.loop (.block 1 (.seq (.reg false r50_1) (.seq (.seq (.reg false r50_2) (.cond (.tmp 16) (.exit 0) .skip)) (.seq (.seq (.reg true r50_3) (.cond (.tmp 36) (.reg false r50_4) .skip)) (.seq (.seq (.reg true r50_5) (.cond (.tmp 52) .ret .skip)) (.seq (.reg true r50_6) (.reg false r50_7))))))))))
theorem e50 {args : List PV} {h : Heap} {K : PV → Heap → Prop} (hl : args.length = 4) (s : pwp Try.prog [] c50 (fin Try.prog [] h K) (slots0 (olds args)) h) : CanP Try.prog 50 args h K :=
  can_of2 (n := 76) mixed Try.func50 rfl (by kernel_rfl) (by rw [hl]; kernel_rfl) rfl (by kernel_rfl) s
/-! ### slices.heapSortOrdered[int]: function 37 -/
def r37_0 : List PS := [.mk (some 11) (.move (.tmp 1)) none,
  .mk (some 6) (.assign (.tmp 11)) none]
def r37_1 : List PS := [.mk (some 7) (.assign (.const (.int .i64 0))) none]
def r37_2 : List PS := [.mk (some 12) (.move (.tmp 2)) none,
  .mk (some 13) (.move (.tmp 1)) none,
  .mk (some 14) (.binOp .sub 3 (.tmp 12) (.tmp 13) 3) none,
  .mk (some 8) (.assign (.tmp 14)) none]
def r37_3 : List PS := [.mk (some 15) (.move (.tmp 8)) none,
  .mk (some 16) (.binOp .sub 3 (.tmp 15) (.const (.int .i64 1)) 3) none,
  .mk (some 17) (.binOp .quo 3 (.tmp 16) (.const (.int .i64 2)) 3) none,
  .mk (some 9) (.assign (.tmp 17)) none]
def r37_4 : List PS := [.mk (some 18) (.move (.tmp 9)) none,
  .mk (some 19) (.binOp .geq 3 (.tmp 18) (.const (.int .i64 0)) 3) none]
def r37_5 : List PS := [.mk (some 22) (.move (.tmp 0)) none,
  .mk (some 23) (.move (.tmp 9)) none,
  .mk (some 24) (.move (.tmp 8)) none,
  .mk (some 25) (.move (.tmp 6)) none,
  .mk (some 26) (.call ⟨(.value (.func 50)), #[(.tmp 22), (.tmp 23), (.tmp 24), (.tmp 25)], #[22, 3, 3, 3]⟩) none]
def r37_6 : List PS := [.mk (some 20) (.move (.tmp 9)) none,
  .mk (some 21) (.binOp .sub 3 (.tmp 20) (.const (.int .i64 1)) 3) none,
  .mk (some 9) (.assign (.tmp 21)) none]
def r37_7 : List PS := [.mk (some 27) (.move (.tmp 8)) none,
  .mk (some 28) (.binOp .sub 3 (.tmp 27) (.const (.int .i64 1)) 3) none,
  .mk (some 10) (.assign (.tmp 28)) none]
def r37_8 : List PS := [.mk (some 29) (.move (.tmp 10)) none,
  .mk (some 30) (.binOp .geq 3 (.tmp 29) (.const (.int .i64 0)) 3) none]
def r37_9 : List PS := [.mk (some 33) (.move (.tmp 0)) none,
  .mk (some 34) (.move (.tmp 6)) none,
  .mk (some 35) (.move (.tmp 0)) none,
  .mk (some 36) (.move (.tmp 6)) none,
  .mk (some 37) (.move (.tmp 10)) none,
  .mk (some 38) (.binOp .add 3 (.tmp 36) (.tmp 37) 3) none,
  .mk (some 39) (.move (.tmp 0)) none,
  .mk (some 40) (.move (.tmp 6)) none,
  .mk (some 41) (.move (.tmp 10)) none,
  .mk (some 42) (.binOp .add 3 (.tmp 40) (.tmp 41) 3) none,
  .mk (some 43) (.indexAddr 22 (.tmp 39) (.tmp 42)) none,
  .mk (some 44) (.load 3 (.tmp 43)) none,
  .mk (some 45) (.move (.tmp 0)) none,
  .mk (some 46) (.move (.tmp 6)) none,
  .mk (some 47) (.indexAddr 22 (.tmp 45) (.tmp 46)) none,
  .mk (some 48) (.load 3 (.tmp 47)) none,
  .mk (some 49) (.indexAddr 22 (.tmp 33) (.tmp 34)) none,
  .mk none (.store 3 (.tmp 49) (.tmp 44)) none,
  .mk (some 50) (.indexAddr 22 (.tmp 35) (.tmp 38)) none,
  .mk none (.store 3 (.tmp 50) (.tmp 48)) none]
def r37_10 : List PS := [.mk (some 51) (.move (.tmp 0)) none,
  .mk (some 52) (.move (.tmp 7)) none,
  .mk (some 53) (.move (.tmp 10)) none,
  .mk (some 54) (.move (.tmp 6)) none,
  .mk (some 55) (.call ⟨(.value (.func 50)), #[(.tmp 51), (.tmp 52), (.tmp 53), (.tmp 54)], #[22, 3, 3, 3]⟩) none]
def r37_11 : List PS := [.mk (some 31) (.move (.tmp 10)) none,
  .mk (some 32) (.binOp .sub 3 (.tmp 31) (.const (.int .i64 1)) 3) none,
  .mk (some 10) (.assign (.tmp 32)) none]
def c37 : PC := (.seq (.reg false r37_0) (.seq (.reg false r37_1) (.seq (.reg false r37_2) (.seq (.seq (.reg false r37_3) (.block 0 (.loop (.seq (.seq (.reg false r37_4) (.cond (.tmp 19) .skip (.exit 0))) (.seq (.block 1 (.reg false r37_5)) (.reg false r37_6)))))) (.seq (.reg false r37_7) (.block 2 (.loop (.seq (.seq (.reg false r37_8) (.cond (.tmp 30) .skip (.exit 2))) (.seq (.block 3 (.seq (.reg true r37_9) (.reg false r37_10))) (.reg false r37_11))))))))))
theorem e37 {args : List PV} {h : Heap} {K : PV → Heap → Prop} (hl : args.length = 3) (s : pwp Try.prog [] c37 (fin Try.prog [] h K) (slots0 (olds args)) h) : CanP Try.prog 37 args h K :=
  can_of2 (n := 56) mixed Try.func37 rfl (by kernel_rfl) (by rw [hl]; kernel_rfl) rfl (by kernel_rfl) s
/-! ### math.bits.Len32: function 45 -/
def r45_0 : List PS := [.mk (some 2) (.assign (.const (.int .i64 0))) none]
def r45_1 : List PS := [.mk (some 3) (.move (.tmp 0)) none,
  .mk (some 4) (.binOp .geq 74 (.tmp 3) (.const (.int .u32 65536)) 74) none]
def r45_2 : List PS := [.mk (some 5) (.move (.tmp 0)) none,
  .mk (some 6) (.binOp .shr 74 (.tmp 5) (.const (.int .u64 16)) 49) none,
  .mk (some 0) (.assign (.tmp 6)) none]
def r45_3 : List PS := [.mk (some 2) (.assign (.const (.int .i64 16))) none]
def r45_4 : List PS := [.mk (some 7) (.move (.tmp 0)) none,
  .mk (some 8) (.binOp .geq 74 (.tmp 7) (.const (.int .u32 256)) 74) none]
def r45_5 : List PS := [.mk (some 9) (.move (.tmp 0)) none,
  .mk (some 10) (.binOp .shr 74 (.tmp 9) (.const (.int .u64 8)) 49) none,
  .mk (some 0) (.assign (.tmp 10)) none]
def r45_6 : List PS := [.mk (some 11) (.move (.tmp 2)) none,
  .mk (some 12) (.binOp .add 3 (.tmp 11) (.const (.int .i64 8)) 3) none,
  .mk (some 2) (.assign (.tmp 12)) none]
def r45_7 : List PS := [.mk (some 13) (.move (.tmp 2)) none,
  .mk (some 14) (.move (.tmp 0)) none,
  .mk (some 15) (.convert 74 5 (.tmp 14)) none,
  .mk (some 16) (.index 9 (.const (.string ⟨#[0, 1, 2, 2, 3, 3, 3, 3, 4, 4, 4, 4, 4, 4, 4, 4, 5, 5, 5, 5, 5, 5, 5, 5, 5, 5, 5, 5, 5, 5, 5, 5, 6, 6, 6, 6, 6, 6, 6, 6, 6, 6, 6, 6, 6, 6, 6, 6, 6, 6, 6, 6, 6, 6, 6, 6, 6, 6, 6, 6, 6, 6, 6, 6, 7, 7, 7, 7, 7, 7, 7, 7, 7, 7, 7, 7, 7, 7, 7, 7, 7, 7, 7, 7, 7, 7, 7, 7, 7, 7, 7, 7, 7, 7, 7, 7, 7, 7, 7, 7, 7, 7, 7, 7, 7, 7, 7, 7, 7, 7, 7, 7, 7, 7, 7, 7, 7, 7, 7, 7, 7, 7, 7, 7, 7, 7, 7, 7, 8, 8, 8, 8, 8, 8, 8, 8, 8, 8, 8, 8, 8, 8, 8, 8, 8, 8, 8, 8, 8, 8, 8, 8, 8, 8, 8, 8, 8, 8, 8, 8, 8, 8, 8, 8, 8, 8, 8, 8, 8, 8, 8, 8, 8, 8, 8, 8, 8, 8, 8, 8, 8, 8, 8, 8, 8, 8, 8, 8, 8, 8, 8, 8, 8, 8, 8, 8, 8, 8, 8, 8, 8, 8, 8, 8, 8, 8, 8, 8, 8, 8, 8, 8, 8, 8, 8, 8, 8, 8, 8, 8, 8, 8, 8, 8, 8, 8, 8, 8, 8, 8, 8, 8, 8, 8, 8, 8, 8, 8, 8, 8, 8, 8, 8, 8, 8, 8, 8, 8, 8, 8, 8, 8, 8, 8, 8, 8]⟩)) (.tmp 15)) none,
  .mk (some 17) (.convert 5 3 (.tmp 16)) none,
  .mk (some 18) (.binOp .add 3 (.tmp 13) (.tmp 17) 3) none,
  .mk (some 2) (.assign (.tmp 18)) none]
def c45 : PC := (.seq (.reg false r45_0) (.seq (.seq (.reg false r45_1) (.cond (.tmp 4) (.seq (.reg false r45_2) (.reg false r45_3)) .skip)) (.seq (.seq (.reg false r45_4) (.cond (.tmp 8) (.seq (.reg false r45_5) (.reg false r45_6)) .skip)) (.seq (.reg false r45_7) .ret))))
theorem e45 {args : List PV} {h : Heap} {K : PV → Heap → Prop} (hl : args.length = 1) (s : pwp Try.prog [] c45 (fin Try.prog [.tmp 2] h K) (slots0 (olds args)) h) : CanP Try.prog 45 args h K :=
  can_of2 (n := 19) mixed Try.func45 rfl (by kernel_rfl) (by rw [hl]; kernel_rfl) rfl (by kernel_rfl) s
/-! ### math.bits.Len64: function 46 -/
def r46_0 : List PS := [.mk (some 2) (.assign (.const (.int .i64 0))) none]
def r46_1 : List PS := [.mk (some 3) (.move (.tmp 0)) none,
  .mk (some 4) (.binOp .geq 76 (.tmp 3) (.const (.int .u64 4294967296)) 76) none]
def r46_2 : List PS := [.mk (some 5) (.move (.tmp 0)) none,
  .mk (some 6) (.binOp .shr 76 (.tmp 5) (.const (.int .u64 32)) 49) none,
  .mk (some 0) (.assign (.tmp 6)) none]
def r46_3 : List PS := [.mk (some 2) (.assign (.const (.int .i64 32))) none]
def r46_4 : List PS := [.mk (some 7) (.move (.tmp 0)) none,
  .mk (some 8) (.binOp .geq 76 (.tmp 7) (.const (.int .u64 65536)) 76) none]
def r46_5 : List PS := [.mk (some 9) (.move (.tmp 0)) none,
  .mk (some 10) (.binOp .shr 76 (.tmp 9) (.const (.int .u64 16)) 49) none,
  .mk (some 0) (.assign (.tmp 10)) none]
def r46_6 : List PS := [.mk (some 11) (.move (.tmp 2)) none,
  .mk (some 12) (.binOp .add 3 (.tmp 11) (.const (.int .i64 16)) 3) none,
  .mk (some 2) (.assign (.tmp 12)) none]
def r46_7 : List PS := [.mk (some 13) (.move (.tmp 0)) none,
  .mk (some 14) (.binOp .geq 76 (.tmp 13) (.const (.int .u64 256)) 76) none]
def r46_8 : List PS := [.mk (some 15) (.move (.tmp 0)) none,
  .mk (some 16) (.binOp .shr 76 (.tmp 15) (.const (.int .u64 8)) 49) none,
  .mk (some 0) (.assign (.tmp 16)) none]
def r46_9 : List PS := [.mk (some 17) (.move (.tmp 2)) none,
  .mk (some 18) (.binOp .add 3 (.tmp 17) (.const (.int .i64 8)) 3) none,
  .mk (some 2) (.assign (.tmp 18)) none]
def r46_10 : List PS := [.mk (some 19) (.move (.tmp 2)) none,
  .mk (some 20) (.move (.tmp 0)) none,
  .mk (some 21) (.convert 76 5 (.tmp 20)) none,
  .mk (some 22) (.index 9 (.const (.string ⟨#[0, 1, 2, 2, 3, 3, 3, 3, 4, 4, 4, 4, 4, 4, 4, 4, 5, 5, 5, 5, 5, 5, 5, 5, 5, 5, 5, 5, 5, 5, 5, 5, 6, 6, 6, 6, 6, 6, 6, 6, 6, 6, 6, 6, 6, 6, 6, 6, 6, 6, 6, 6, 6, 6, 6, 6, 6, 6, 6, 6, 6, 6, 6, 6, 7, 7, 7, 7, 7, 7, 7, 7, 7, 7, 7, 7, 7, 7, 7, 7, 7, 7, 7, 7, 7, 7, 7, 7, 7, 7, 7, 7, 7, 7, 7, 7, 7, 7, 7, 7, 7, 7, 7, 7, 7, 7, 7, 7, 7, 7, 7, 7, 7, 7, 7, 7, 7, 7, 7, 7, 7, 7, 7, 7, 7, 7, 7, 7, 8, 8, 8, 8, 8, 8, 8, 8, 8, 8, 8, 8, 8, 8, 8, 8, 8, 8, 8, 8, 8, 8, 8, 8, 8, 8, 8, 8, 8, 8, 8, 8, 8, 8, 8, 8, 8, 8, 8, 8, 8, 8, 8, 8, 8, 8, 8, 8, 8, 8, 8, 8, 8, 8, 8, 8, 8, 8, 8, 8, 8, 8, 8, 8, 8, 8, 8, 8, 8, 8, 8, 8, 8, 8, 8, 8, 8, 8, 8, 8, 8, 8, 8, 8, 8, 8, 8, 8, 8, 8, 8, 8, 8, 8, 8, 8, 8, 8, 8, 8, 8, 8, 8, 8, 8, 8, 8, 8, 8, 8, 8, 8, 8, 8, 8, 8, 8, 8, 8, 8, 8, 8, 8, 8, 8, 8, 8, 8]⟩)) (.tmp 21)) none,
  .mk (some 23) (.convert 5 3 (.tmp 22)) none,
  .mk (some 24) (.binOp .add 3 (.tmp 19) (.tmp 23) 3) none,
  .mk (some 2) (.assign (.tmp 24)) none]
def c46 : PC := (.seq (.reg false r46_0) (.seq (.seq (.reg false r46_1) (.cond (.tmp 4) (.seq (.reg false r46_2) (.reg false r46_3)) .skip)) (.seq (.seq (.reg false r46_4) (.cond (.tmp 8) (.seq (.reg false r46_5) (.reg false r46_6)) .skip)) (.seq (.seq (.reg false r46_7) (.cond (.tmp 14) (.seq (.reg false r46_8) (.reg false r46_9)) .skip)) (.seq (.reg false r46_10) .ret)))))
theorem e46 {args : List PV} {h : Heap} {K : PV → Heap → Prop} (hl : args.length = 1) (s : pwp Try.prog [] c46 (fin Try.prog [.tmp 2] h K) (slots0 (olds args)) h) : CanP Try.prog 46 args h K :=
  can_of2 (n := 25) mixed Try.func46 rfl (by kernel_rfl) (by rw [hl]; kernel_rfl) rfl (by kernel_rfl) s
/-! ### math.bits.Len: function 29 -/
def r29_0 : List PS := [.mk (some 2) (.assign (.const (.int .i64 0))) none]
def r29_1 : List PS := [.mk (some 3) (.move (.tmp 0)) none,
  .mk (some 4) (.convert 49 74 (.tmp 3)) none,
  .mk (some 5) (.call ⟨(.value (.func 45)), #[(.tmp 4)], #[74]⟩) none,
  .mk (some 2) (.assign (.tmp 5)) none]
def r29_2 : List PS := [.mk (some 6) (.move (.tmp 0)) none,
  .mk (some 7) (.call ⟨(.value (.func 46)), #[(.tmp 6)], #[76]⟩) none,
  .mk (some 2) (.assign (.tmp 7)) none]
def c29 : PC := (.seq (.reg false r29_0) (.seq (.cond (.const (.bool false)) (.seq (.reg false r29_1) .ret) .skip) (.seq (.reg false r29_2) .ret)))
theorem e29 {args : List PV} {h : Heap} {K : PV → Heap → Prop} (hl : args.length = 1) (s : pwp Try.prog [] c29 (fin Try.prog [.tmp 2] h K) (slots0 (olds args)) h) : CanP Try.prog 29 args h K :=
  can_of2 (n := 8) mixed Try.func29 rfl (by kernel_rfl) (by rw [hl]; kernel_rfl) rfl (by kernel_rfl) s
/-! ### slices.nextPowerOfTwo: function 51 -/
def r51_0 : List PS := [.mk (some 2) (.assign (.const (.int .u64 0))) none]
def r51_1 : List PS := [.mk (some 3) (.move (.tmp 0)) none,
  .mk (some 4) (.convert 3 49 (.tmp 3)) none,
  .mk (some 5) (.call ⟨(.value (.func 29)), #[(.tmp 4)], #[49]⟩) none,
  .mk (some 6) (.binOp .shl 49 (.const (.int .u64 1)) (.tmp 5) 3) none,
  .mk (some 2) (.assign (.tmp 6)) none]
def c51 : PC := (.seq (.reg false r51_0) (.seq (.reg false r51_1) .ret))
theorem e51 {args : List PV} {h : Heap} {K : PV → Heap → Prop} (hl : args.length = 1) (s : pwp Try.prog [] c51 (fin Try.prog [.tmp 2] h K) (slots0 (olds args)) h) : CanP Try.prog 51 args h K :=
  can_of2 (n := 7) mixed Try.func51 rfl (by kernel_rfl) (by rw [hl]; kernel_rfl) rfl (by kernel_rfl) s
/-! ### (*slices.xorshift).Next: function 52 -/
def r52_0 : List PS := [.mk (some 2) (.assign (.const (.int .u64 0))) none]
def r52_1 : List PS := [.mk (some 3) (.move (.tmp 0)) none,
  .mk (some 4) (.nilCheck (.tmp 3)) none,
  .mk (some 5) (.load 81 (.tmp 4)) none,
  .mk (some 6) (.move (.tmp 0)) none,
  .mk (some 7) (.nilCheck (.tmp 6)) none,
  .mk (some 8) (.load 81 (.tmp 7)) none,
  .mk (some 9) (.binOp .shl 81 (.tmp 8) (.const (.int .u64 13)) 49) none,
  .mk (some 10) (.binOp .xor 81 (.tmp 5) (.tmp 9) 81) none,
  .mk (some 11) (.nilCheck (.tmp 3)) none,
  .mk none (.store 81 (.tmp 11) (.tmp 10)) none]
def r52_2 : List PS := [.mk (some 12) (.move (.tmp 0)) none,
  .mk (some 13) (.nilCheck (.tmp 12)) none,
  .mk (some 14) (.load 81 (.tmp 13)) none,
  .mk (some 15) (.move (.tmp 0)) none,
  .mk (some 16) (.nilCheck (.tmp 15)) none,
  .mk (some 17) (.load 81 (.tmp 16)) none,
  .mk (some 18) (.binOp .shr 81 (.tmp 17) (.const (.int .u64 7)) 49) none,
  .mk (some 19) (.binOp .xor 81 (.tmp 14) (.tmp 18) 81) none,
  .mk (some 20) (.nilCheck (.tmp 12)) none,
  .mk none (.store 81 (.tmp 20) (.tmp 19)) none]
def r52_3 : List PS := [.mk (some 21) (.move (.tmp 0)) none,
  .mk (some 22) (.nilCheck (.tmp 21)) none,
  .mk (some 23) (.load 81 (.tmp 22)) none,
  .mk (some 24) (.move (.tmp 0)) none,
  .mk (some 25) (.nilCheck (.tmp 24)) none,
  .mk (some 26) (.load 81 (.tmp 25)) none,
  .mk (some 27) (.binOp .shl 81 (.tmp 26) (.const (.int .u64 17)) 49) none,
  .mk (some 28) (.binOp .xor 81 (.tmp 23) (.tmp 27) 81) none,
  .mk (some 29) (.nilCheck (.tmp 21)) none,
  .mk none (.store 81 (.tmp 29) (.tmp 28)) none]
def r52_4 : List PS := [.mk (some 30) (.move (.tmp 0)) none,
  .mk (some 31) (.nilCheck (.tmp 30)) none,
  .mk (some 32) (.load 81 (.tmp 31)) none,
  .mk (some 2) (.assign (.tmp 32)) none]
def c52 : PC := (.seq (.reg false r52_0) (.seq (.reg true r52_1) (.seq (.reg true r52_2) (.seq (.reg true r52_3) (.seq (.reg false r52_4) .ret)))))
theorem e52 {args : List PV} {h : Heap} {K : PV → Heap → Prop} (hl : args.length = 1) (s : pwp Try.prog [] c52 (fin Try.prog [.tmp 2] h K) (slots0 (olds args)) h) : CanP Try.prog 52 args h K :=
  can_of2 (n := 33) mixed Try.func52 rfl (by kernel_rfl) (by rw [hl]; kernel_rfl) rfl (by kernel_rfl) s
/-! ### slices.breakPatternsOrdered[int]: function 38 -/
def r38_0 : List PS := [.mk (some 11) (.move (.tmp 2)) none,
  .mk (some 12) (.move (.tmp 1)) none,
  .mk (some 13) (.binOp .sub 3 (.tmp 11) (.tmp 12) 3) none,
  .mk (some 6) (.assign (.tmp 13)) none]
def r38_1 : List PS := [.mk (some 14) (.move (.tmp 6)) none,
  .mk (some 15) (.binOp .geq 3 (.tmp 14) (.const (.int .i64 8)) 3) none]
def r38_2 : List PS := [.mk (some 16) (.move (.tmp 6)) none,
  .mk (some 17) (.convert 3 81 (.tmp 16)) none,
  .mk (some 7) (.alloc 81) none,
  .mk none (.store 81 (.tmp 7) (.tmp 17)) none]
def r38_3 : List PS := [.mk (some 18) (.move (.tmp 6)) none,
  .mk (some 19) (.call ⟨(.value (.func 51)), #[(.tmp 18)], #[3]⟩) none,
  .mk (some 8) (.assign (.tmp 19)) none]
def r38_4 : List PS := [.mk (some 20) (.move (.tmp 1)) none,
  .mk (some 21) (.move (.tmp 6)) none,
  .mk (some 22) (.binOp .quo 3 (.tmp 21) (.const (.int .i64 4)) 3) none,
  .mk (some 23) (.binOp .mul 3 (.tmp 22) (.const (.int .i64 2)) 3) none,
  .mk (some 24) (.binOp .add 3 (.tmp 20) (.tmp 23) 3) none,
  .mk (some 25) (.binOp .sub 3 (.tmp 24) (.const (.int .i64 1)) 3) none,
  .mk (some 9) (.assign (.tmp 25)) none]
def r38_5 : List PS := [.mk (some 26) (.move (.tmp 9)) none,
  .mk (some 27) (.move (.tmp 1)) none,
  .mk (some 28) (.move (.tmp 6)) none,
  .mk (some 29) (.binOp .quo 3 (.tmp 28) (.const (.int .i64 4)) 3) none,
  .mk (some 30) (.binOp .mul 3 (.tmp 29) (.const (.int .i64 2)) 3) none,
  .mk (some 31) (.binOp .add 3 (.tmp 27) (.tmp 30) 3) none,
  .mk (some 32) (.binOp .add 3 (.tmp 31) (.const (.int .i64 1)) 3) none,
  .mk (some 33) (.binOp .leq 3 (.tmp 26) (.tmp 32) 3) none]
def r38_6 : List PS := [.mk (some 36) (.call ⟨(.value (.func 52)), #[(.tmp 7)], #[81]⟩) none,
  .mk (some 37) (.move (.tmp 8)) none,
  .mk (some 38) (.binOp .sub 49 (.tmp 37) (.const (.int .u64 1)) 49) none,
  .mk (some 39) (.binOp .and 49 (.tmp 36) (.tmp 38) 49) none,
  .mk (some 40) (.convert 49 3 (.tmp 39)) none,
  .mk (some 10) (.assign (.tmp 40)) none]
def r38_7 : List PS := [.mk (some 41) (.move (.tmp 10)) none,
  .mk (some 42) (.move (.tmp 6)) none,
  .mk (some 43) (.binOp .geq 3 (.tmp 41) (.tmp 42) 3) none]
def r38_8 : List PS := [.mk (some 44) (.move (.tmp 10)) none,
  .mk (some 45) (.move (.tmp 6)) none,
  .mk (some 46) (.binOp .sub 3 (.tmp 44) (.tmp 45) 3) none,
  .mk (some 10) (.assign (.tmp 46)) none]
def r38_9 : List PS := [.mk (some 47) (.move (.tmp 0)) none,
  .mk (some 48) (.move (.tmp 9)) none,
  .mk (some 49) (.move (.tmp 0)) none,
  .mk (some 50) (.move (.tmp 1)) none,
  .mk (some 51) (.move (.tmp 10)) none,
  .mk (some 52) (.binOp .add 3 (.tmp 50) (.tmp 51) 3) none,
  .mk (some 53) (.move (.tmp 0)) none,
  .mk (some 54) (.move (.tmp 1)) none,
  .mk (some 55) (.move (.tmp 10)) none,
  .mk (some 56) (.binOp .add 3 (.tmp 54) (.tmp 55) 3) none,
  .mk (some 57) (.indexAddr 22 (.tmp 53) (.tmp 56)) none,
  .mk (some 58) (.load 3 (.tmp 57)) none,
  .mk (some 59) (.move (.tmp 0)) none,
  .mk (some 60) (.move (.tmp 9)) none,
  .mk (some 61) (.indexAddr 22 (.tmp 59) (.tmp 60)) none,
  .mk (some 62) (.load 3 (.tmp 61)) none,
  .mk (some 63) (.indexAddr 22 (.tmp 47) (.tmp 48)) none,
  .mk none (.store 3 (.tmp 63) (.tmp 58)) none,
  .mk (some 64) (.indexAddr 22 (.tmp 49) (.tmp 52)) none,
  .mk none (.store 3 (.tmp 64) (.tmp 62)) none]
def r38_10 : List PS := [.mk (some 34) (.move (.tmp 9)) none,
  .mk (some 35) (.binOp .add 3 (.tmp 34) (.const (.int .i64 1)) 3) none,
  .mk (some 9) (.assign (.tmp 35)) none]
def c38 : PC := (.seq (.reg false r38_0) (.seq (.reg false r38_1) (.cond (.tmp 15) (.seq (.reg false r38_2) (.seq (.reg false r38_3) (.seq (.reg false r38_4) (.block 0 (.loop (.seq (.seq (.reg false r38_5) (.cond (.tmp 33) .skip (.exit 0))) (.seq (.block 1 (.seq (.reg false r38_6) (.seq (.seq (.reg false r38_7) (.cond (.tmp 43) (.reg false r38_8) .skip)) (.reg true r38_9)))) (.reg false r38_10)))))))) .skip)))
theorem e38 {args : List PV} {h : Heap} {K : PV → Heap → Prop} (hl : args.length = 3) (s : pwp Try.prog [7] c38 (fin Try.prog [] h K) (slots0 (olds args)) h) : CanP Try.prog 38 args h K :=
  can_of2 (n := 65) mixed Try.func38 rfl (by kernel_rfl) (by rw [hl]; kernel_rfl) rfl (by kernel_rfl) s
/-! ### slices.order2Ordered[int]: function 57 -/
def r57_0 : List PS := [.mk (some 8) (.assign (.const (.int .i64 0))) none,
  .mk (some 9) (.assign (.const (.int .i64 0))) none]
def r57_1 : List PS := [.mk (some 10) (.move (.tmp 0)) none,
  .mk (some 11) (.move (.tmp 2)) none,
  .mk (some 12) (.indexAddr 22 (.tmp 10) (.tmp 11)) none,
  .mk (some 13) (.load 3 (.tmp 12)) none,
  .mk (some 14) (.move (.tmp 0)) none,
  .mk (some 15) (.move (.tmp 1)) none,
  .mk (some 16) (.indexAddr 22 (.tmp 14) (.tmp 15)) none,
  .mk (some 17) (.load 3 (.tmp 16)) none,
  .mk (some 18) (.call ⟨(.value (.func 42)), #[(.tmp 13), (.tmp 17)], #[3, 3]⟩) none]
def r57_2 : List PS := [.mk (some 19) (.move (.tmp 3)) none,
  .mk (some 20) (.nilCheck (.tmp 19)) none,
  .mk (some 21) (.load 3 (.tmp 20)) none,
  .mk (some 22) (.binOp .add 3 (.tmp 21) (.const (.int .i64 1)) 3) none,
  .mk (some 23) (.nilCheck (.tmp 19)) none,
  .mk none (.store 3 (.tmp 23) (.tmp 22)) none]
def r57_3 : List PS := [.mk (some 24) (.move (.tmp 2)) none,
  .mk (some 25) (.move (.tmp 1)) none,
  .mk (some 8) (.assign (.tmp 24)) none,
  .mk (some 9) (.assign (.tmp 25)) none]
def r57_4 : List PS := [.mk (some 26) (.move (.tmp 1)) none,
  .mk (some 27) (.move (.tmp 2)) none,
  .mk (some 8) (.assign (.tmp 26)) none,
  .mk (some 9) (.assign (.tmp 27)) none]
def c57 : PC := (.seq (.reg false r57_0) (.seq (.seq (.reg true r57_1) (.cond (.tmp 18) (.seq (.reg false r57_2) (.seq (.reg false r57_3) .ret)) .skip)) (.seq (.reg false r57_4) .ret)))
theorem e57 {args : List PV} {h : Heap} {K : PV → Heap → Prop} (hl : args.length = 4) (s : pwp Try.prog [] c57 (fin Try.prog [.tmp 8, .tmp 9] h K) (slots0 (olds args)) h) : CanP Try.prog 57 args h K :=
  can_of2 (n := 28) mixed Try.func57 rfl (by kernel_rfl) (by rw [hl]; kernel_rfl) rfl (by kernel_rfl) s
/-! ### slices.medianOrdered[int]: function 54 -/
def r54_0 : List PS := [.mk (some 10) (.assign (.const (.int .i64 0))) none]
def r54_1 : List PS := [.mk (some 12) (.move (.tmp 0)) none,
  .mk (some 13) (.move (.tmp 1)) none,
  .mk (some 14) (.move (.tmp 2)) none,
  .mk (some 15) (.move (.tmp 4)) none,
  .mk (some 16) (.call ⟨(.value (.func 57)), #[(.tmp 12), (.tmp 13), (.tmp 14), (.tmp 15)], #[22, 3, 3, 85]⟩) none,
  .mk (some 11) (.move (.tmp 16)) none,
  .mk (some 17) (.extract (.tmp 11) 0) none,
  .mk (some 18) (.extract (.tmp 11) 1) none,
  .mk (some 1) (.assign (.tmp 17)) none,
  .mk (some 2) (.assign (.tmp 18)) none]
def r54_2 : List PS := [.mk (some 20) (.move (.tmp 0)) none,
  .mk (some 21) (.move (.tmp 2)) none,
  .mk (some 22) (.move (.tmp 3)) none,
  .mk (some 23) (.move (.tmp 4)) none,
  .mk (some 24) (.call ⟨(.value (.func 57)), #[(.tmp 20), (.tmp 21), (.tmp 22), (.tmp 23)], #[22, 3, 3, 85]⟩) none,
  .mk (some 19) (.move (.tmp 24)) none,
  .mk (some 25) (.extract (.tmp 19) 0) none,
  .mk (some 26) (.extract (.tmp 19) 1) none,
  .mk (some 2) (.assign (.tmp 25)) none,
  .mk (some 3) (.assign (.tmp 26)) none]
def r54_3 : List PS := [.mk (some 28) (.move (.tmp 0)) none,
  .mk (some 29) (.move (.tmp 1)) none,
  .mk (some 30) (.move (.tmp 2)) none,
  .mk (some 31) (.move (.tmp 4)) none,
  .mk (some 32) (.call ⟨(.value (.func 57)), #[(.tmp 28), (.tmp 29), (.tmp 30), (.tmp 31)], #[22, 3, 3, 85]⟩) none,
  .mk (some 27) (.move (.tmp 32)) none,
  .mk (some 33) (.extract (.tmp 27) 0) none,
  .mk (some 34) (.extract (.tmp 27) 1) none,
  .mk (some 1) (.assign (.tmp 33)) none,
  .mk (some 2) (.assign (.tmp 34)) none]
def r54_4 : List PS := [.mk (some 35) (.move (.tmp 2)) none,
  .mk (some 10) (.assign (.tmp 35)) none]
def c54 : PC := (.seq (.reg false r54_0) (.seq (.reg false r54_1) (.seq (.reg false r54_2) (.seq (.reg false r54_3) (.seq (.reg false r54_4) .ret)))))
theorem e54 {args : List PV} {h : Heap} {K : PV → Heap → Prop} (hl : args.length = 5) (s : pwp Try.prog [] c54 (fin Try.prog [.tmp 10] h K) (slots0 (olds args)) h) : CanP Try.prog 54 args h K :=
  can_of2 (n := 36) mixed Try.func54 rfl (by kernel_rfl) (by rw [hl]; kernel_rfl) rfl (by kernel_rfl) s
/-! ### slices.medianAdjacentOrdered[int]: function 53 -/
def r53_0 : List PS := [.mk (some 6) (.assign (.const (.int .i64 0))) none]
def r53_1 : List PS := [.mk (some 7) (.move (.tmp 0)) none,
  .mk (some 8) (.move (.tmp 1)) none,
  .mk (some 9) (.binOp .sub 3 (.tmp 8) (.const (.int .i64 1)) 3) none,
  .mk (some 10) (.move (.tmp 1)) none,
  .mk (some 11) (.move (.tmp 1)) none,
  .mk (some 12) (.binOp .add 3 (.tmp 11) (.const (.int .i64 1)) 3) none,
  .mk (some 13) (.move (.tmp 2)) none,
  .mk (some 14) (.call ⟨(.value (.func 54)), #[(.tmp 7), (.tmp 9), (.tmp 10), (.tmp 12), (.tmp 13)], #[22, 3, 3, 3, 85]⟩) none,
  .mk (some 6) (.assign (.tmp 14)) none]
def c53 : PC := (.seq (.reg false r53_0) (.seq (.reg false r53_1) .ret))
theorem e53 {args : List PV} {h : Heap} {K : PV → Heap → Prop} (hl : args.length = 3) (s : pwp Try.prog [] c53 (fin Try.prog [.tmp 6] h K) (slots0 (olds args)) h) : CanP Try.prog 53 args h K :=
  can_of2 (n := 15) mixed Try.func53 rfl (by kernel_rfl) (by rw [hl]; kernel_rfl) rfl (by kernel_rfl) s
/-! ### slices.choosePivotOrdered[int]: function 39 -/
def r39_0 : List PS := [.mk (some 6) (.assign (.const (.int .i64 0))) none,
  .mk (some 7) (.assign (.const (.int .i64 0))) none]
def r39_1 : List PS := [.mk (some 13) (.move (.tmp 2)) none,
  .mk (some 14) (.move (.tmp 1)) none,
  .mk (some 15) (.binOp .sub 3 (.tmp 13) (.tmp 14) 3) none,
  .mk (some 8) (.assign (.tmp 15)) none]
def r39_2 : List PS := [.mk (some 9) (.alloc 3) none]
def r39_3 : List PS := [.mk (some 16) (.move (.tmp 1)) none,
  .mk (some 17) (.move (.tmp 8)) none,
  .mk (some 18) (.binOp .quo 3 (.tmp 17) (.const (.int .i64 4)) 3) none,
  .mk (some 19) (.binOp .mul 3 (.tmp 18) (.const (.int .i64 1)) 3) none,
  .mk (some 20) (.binOp .add 3 (.tmp 16) (.tmp 19) 3) none,
  .mk (some 10) (.assign (.tmp 20)) none]
def r39_4 : List PS := [.mk (some 21) (.move (.tmp 1)) none,
  .mk (some 22) (.move (.tmp 8)) none,
  .mk (some 23) (.binOp .quo 3 (.tmp 22) (.const (.int .i64 4)) 3) none,
  .mk (some 24) (.binOp .mul 3 (.tmp 23) (.const (.int .i64 2)) 3) none,
  .mk (some 25) (.binOp .add 3 (.tmp 21) (.tmp 24) 3) none,
  .mk (some 11) (.assign (.tmp 25)) none]
def r39_5 : List PS := [.mk (some 26) (.move (.tmp 1)) none,
  .mk (some 27) (.move (.tmp 8)) none,
  .mk (some 28) (.binOp .quo 3 (.tmp 27) (.const (.int .i64 4)) 3) none,
  .mk (some 29) (.binOp .mul 3 (.tmp 28) (.const (.int .i64 3)) 3) none,
  .mk (some 30) (.binOp .add 3 (.tmp 26) (.tmp 29) 3) none,
  .mk (some 12) (.assign (.tmp 30)) none]
def r39_6 : List PS := [.mk (some 31) (.move (.tmp 8)) none,
  .mk (some 32) (.binOp .geq 3 (.tmp 31) (.const (.int .i64 8)) 3) none]
def r39_7 : List PS := [.mk (some 33) (.move (.tmp 8)) none,
  .mk (some 34) (.binOp .geq 3 (.tmp 33) (.const (.int .i64 50)) 3) none]
def r39_8 : List PS := [.mk (some 35) (.move (.tmp 0)) none,
  .mk (some 36) (.move (.tmp 10)) none,
  .mk (some 37) (.call ⟨(.value (.func 53)), #[(.tmp 35), (.tmp 36), (.tmp 9)], #[22, 3, 85]⟩) none,
  .mk (some 10) (.assign (.tmp 37)) none]
def r39_9 : List PS := [.mk (some 38) (.move (.tmp 0)) none,
  .mk (some 39) (.move (.tmp 11)) none,
  .mk (some 40) (.call ⟨(.value (.func 53)), #[(.tmp 38), (.tmp 39), (.tmp 9)], #[22, 3, 85]⟩) none,
  .mk (some 11) (.assign (.tmp 40)) none]
def r39_10 : List PS := [.mk (some 41) (.move (.tmp 0)) none,
  .mk (some 42) (.move (.tmp 12)) none,
  .mk (some 43) (.call ⟨(.value (.func 53)), #[(.tmp 41), (.tmp 42), (.tmp 9)], #[22, 3, 85]⟩) none,
  .mk (some 12) (.assign (.tmp 43)) none]
def r39_11 : List PS := [.mk (some 44) (.move (.tmp 0)) none,
  .mk (some 45) (.move (.tmp 10)) none,
  .mk (some 46) (.move (.tmp 11)) none,
  .mk (some 47) (.move (.tmp 12)) none,
  .mk (some 48) (.call ⟨(.value (.func 54)), #[(.tmp 44), (.tmp 45), (.tmp 46), (.tmp 47), (.tmp 9)], #[22, 3, 3, 3, 85]⟩) none,
  .mk (some 11) (.assign (.tmp 48)) none]
def r39_12 : List PS := [.mk (some 49) (.load 3 (.tmp 9)) none]
def r39_13 : List PS := [.mk (some 52) (.binOp .eql 3 (.tmp 49) (.const (.int .i64 0)) 3) none,
  .mk (some 51) (.assign (.tmp 52)) none]
def r39_14 : List PS := [.mk (some 53) (.move (.tmp 11)) none,
  .mk (some 6) (.assign (.tmp 53)) none,
  .mk (some 7) (.assign (.const (.int .i64 1))) none]
def r39_15 : List PS := [.mk (some 55) (.binOp .eql 3 (.tmp 49) (.const (.int .i64 12)) 3) none,
  .mk (some 54) (.assign (.tmp 55)) none]
def r39_16 : List PS := [.mk (some 56) (.move (.tmp 11)) none,
  .mk (some 6) (.assign (.tmp 56)) none,
  .mk (some 7) (.assign (.const (.int .i64 2))) none]
def r39_17 : List PS := [.mk (some 50) (.move (.tmp 11)) none,
  .mk (some 6) (.assign (.tmp 50)) none,
  .mk (some 7) (.assign (.const (.int .i64 0))) none]
def c39 : PC := (.seq (.reg false r39_0) (.seq (.reg false r39_1) (.seq (.reg false r39_2) (.seq (.reg false r39_3) (.seq (.reg false r39_4) (.seq (.reg false r39_5) (.seq (.seq (.reg false r39_6) (.cond (.tmp 32) (.seq (.seq (.reg false r39_7) (.cond (.tmp 34) (.seq (.reg false r39_8) (.seq (.reg false r39_9) (.reg false r39_10))) .skip)) (.reg false r39_11)) .skip)) (.seq (.reg false r39_12) (.block 0 (.seq (.reg false r39_13) (.cond (.tmp 51) (.seq (.reg false r39_14) .ret) (.seq (.reg false r39_15) (.cond (.tmp 54) (.seq (.reg false r39_16) .ret) (.seq (.reg false r39_17) .ret))))))))))))))
theorem e39 {args : List PV} {h : Heap} {K : PV → Heap → Prop} (hl : args.length = 3) (s : pwp Try.prog [9] c39 (fin Try.prog [.tmp 6, .tmp 7] h K) (slots0 (olds args)) h) : CanP Try.prog 39 args h K :=
  can_of2 (n := 57) mixed Try.func39 rfl (by kernel_rfl) (by rw [hl]; kernel_rfl) rfl (by kernel_rfl) s
/-! ### slices.reverseRangeOrdered[int]: function 40 -/
def r40_0 : List PS := [.mk (some 8) (.move (.tmp 1)) none,
  .mk (some 6) (.assign (.tmp 8)) none]
def r40_1 : List PS := [.mk (some 9) (.move (.tmp 2)) none,
  .mk (some 10) (.binOp .sub 3 (.tmp 9) (.const (.int .i64 1)) 3) none,
  .mk (some 7) (.assign (.tmp 10)) none]
def r40_2 : List PS := [.mk (some 11) (.move (.tmp 6)) none,
  .mk (some 12) (.move (.tmp 7)) none,
  .mk (some 13) (.binOp .lss 3 (.tmp 11) (.tmp 12) 3) none]
def r40_3 : List PS := [.mk (some 14) (.move (.tmp 0)) none,
  .mk (some 15) (.move (.tmp 6)) none,
  .mk (some 16) (.move (.tmp 0)) none,
  .mk (some 17) (.move (.tmp 7)) none,
  .mk (some 18) (.move (.tmp 0)) none,
  .mk (some 19) (.move (.tmp 7)) none,
  .mk (some 20) (.indexAddr 22 (.tmp 18) (.tmp 19)) none,
  .mk (some 21) (.load 3 (.tmp 20)) none,
  .mk (some 22) (.move (.tmp 0)) none,
  .mk (some 23) (.move (.tmp 6)) none,
  .mk (some 24) (.indexAddr 22 (.tmp 22) (.tmp 23)) none,
  .mk (some 25) (.load 3 (.tmp 24)) none,
  .mk (some 26) (.indexAddr 22 (.tmp 14) (.tmp 15)) none,
  .mk none (.store 3 (.tmp 26) (.tmp 21)) none,
  .mk (some 27) (.indexAddr 22 (.tmp 16) (.tmp 17)) none,
  .mk none (.store 3 (.tmp 27) (.tmp 25)) none]
def r40_4 : List PS := [.mk (some 28) (.move (.tmp 6)) none,
  .mk (some 29) (.binOp .add 3 (.tmp 28) (.const (.int .i64 1)) 3) none,
  .mk (some 6) (.assign (.tmp 29)) none]
def r40_5 : List PS := [.mk (some 30) (.move (.tmp 7)) none,
  .mk (some 31) (.binOp .sub 3 (.tmp 30) (.const (.int .i64 1)) 3) none,
  .mk (some 7) (.assign (.tmp 31)) none]
def c40 : PC := (.seq (.reg false r40_0) (.seq (.reg false r40_1) (.block 0 (.loop (.seq (.seq (.reg false r40_2) (.cond (.tmp 13) .skip (.exit 0))) (.block 1 (.seq (.reg true r40_3) (.seq (.reg false r40_4) (.reg false r40_5)))))))))
theorem e40 {args : List PV} {h : Heap} {K : PV → Heap → Prop} (hl : args.length = 3) (s : pwp Try.prog [] c40 (fin Try.prog [] h K) (slots0 (olds args)) h) : CanP Try.prog 40 args h K :=
  can_of2 (n := 32) mixed Try.func40 rfl (by kernel_rfl) (by rw [hl]; kernel_rfl) rfl (by kernel_rfl) s
/-! ### slices.partialInsertionSortOrdered[int]: function 41 -/
def r41_0 : List PS := [.mk (some 6) (.assign (.const (.bool false))) none]
def r41_1 : List PS := [.mk (some 11) (.move (.tmp 1)) none,
  .mk (some 12) (.binOp .add 3 (.tmp 11) (.const (.int .i64 1)) 3) none,
  .mk (some 7) (.assign (.tmp 12)) none]
def r41_2 : List PS := [.mk (some 8) (.assign (.const (.int .i64 0))) none]
def r41_3 : List PS := [.mk (some 13) (.move (.tmp 8)) none,
  .mk (some 14) (.binOp .lss 3 (.tmp 13) (.const (.int .i64 5)) 3) none]
def r41_4 : List PS := [.mk (some 17) (.move (.tmp 7)) none,
  .mk (some 18) (.move (.tmp 2)) none,
  .mk (some 19) (.binOp .lss 3 (.tmp 17) (.tmp 18) 3) none,
  .mk (some 20) (.move (.tmp 19)) none,
  .mk (some 21) (.move (.tmp 0)) (some (20, true)),
  .mk (some 22) (.move (.tmp 7)) (some (20, true)),
  .mk (some 23) (.indexAddr 22 (.tmp 21) (.tmp 22)) (some (20, true)),
  .mk (some 24) (.load 3 (.tmp 23)) (some (20, true)),
  .mk (some 25) (.move (.tmp 0)) (some (20, true)),
  .mk (some 26) (.move (.tmp 7)) (some (20, true)),
  .mk (some 27) (.binOp .sub 3 (.tmp 26) (.const (.int .i64 1)) 3) (some (20, true)),
  .mk (some 28) (.indexAddr 22 (.tmp 25) (.tmp 27)) (some (20, true)),
  .mk (some 29) (.load 3 (.tmp 28)) (some (20, true)),
  .mk (some 30) (.call ⟨(.value (.func 42)), #[(.tmp 24), (.tmp 29)], #[3, 3]⟩) (some (20, true)),
  .mk (some 31) (.unOp .not 4 (.tmp 30)) (some (20, true)),
  .mk (some 32) (.pick (.tmp 20) (.tmp 31) (.const (.bool false))) none]
def r41_5 : List PS := [.mk (some 33) (.move (.tmp 7)) none,
  .mk (some 34) (.binOp .add 3 (.tmp 33) (.const (.int .i64 1)) 3) none,
  .mk (some 7) (.assign (.tmp 34)) none]
def r41_6 : List PS := [.mk (some 35) (.move (.tmp 7)) none,
  .mk (some 36) (.move (.tmp 2)) none,
  .mk (some 37) (.binOp .eql 3 (.tmp 35) (.tmp 36) 3) none]
def r41_7 : List PS := [.mk (some 6) (.assign (.const (.bool true))) none]
def r41_8 : List PS := [.mk (some 38) (.move (.tmp 2)) none,
  .mk (some 39) (.move (.tmp 1)) none,
  .mk (some 40) (.binOp .sub 3 (.tmp 38) (.tmp 39) 3) none,
  .mk (some 41) (.binOp .lss 3 (.tmp 40) (.const (.int .i64 50)) 3) none]
def r41_9 : List PS := [.mk (some 6) (.assign (.const (.bool false))) none]
def r41_10 : List PS := [.mk (some 42) (.move (.tmp 0)) none,
  .mk (some 43) (.move (.tmp 7)) none,
  .mk (some 44) (.move (.tmp 0)) none,
  .mk (some 45) (.move (.tmp 7)) none,
  .mk (some 46) (.binOp .sub 3 (.tmp 45) (.const (.int .i64 1)) 3) none,
  .mk (some 47) (.move (.tmp 0)) none,
  .mk (some 48) (.move (.tmp 7)) none,
  .mk (some 49) (.binOp .sub 3 (.tmp 48) (.const (.int .i64 1)) 3) none,
  .mk (some 50) (.indexAddr 22 (.tmp 47) (.tmp 49)) none,
  .mk (some 51) (.load 3 (.tmp 50)) none,
  .mk (some 52) (.move (.tmp 0)) none,
  .mk (some 53) (.move (.tmp 7)) none,
  .mk (some 54) (.indexAddr 22 (.tmp 52) (.tmp 53)) none,
  .mk (some 55) (.load 3 (.tmp 54)) none,
  .mk (some 56) (.indexAddr 22 (.tmp 42) (.tmp 43)) none,
  .mk none (.store 3 (.tmp 56) (.tmp 51)) none,
  .mk (some 57) (.indexAddr 22 (.tmp 44) (.tmp 46)) none,
  .mk none (.store 3 (.tmp 57) (.tmp 55)) none]
def r41_11 : List PS := [.mk (some 58) (.move (.tmp 7)) none,
  .mk (some 59) (.move (.tmp 1)) none,
  .mk (some 60) (.binOp .sub 3 (.tmp 58) (.tmp 59) 3) none,
  .mk (some 61) (.binOp .geq 3 (.tmp 60) (.const (.int .i64 2)) 3) none]
def r41_12 : List PS := [.mk (some 62) (.move (.tmp 7)) none,
  .mk (some 63) (.binOp .sub 3 (.tmp 62) (.const (.int .i64 1)) 3) none,
  .mk (some 9) (.assign (.tmp 63)) none]
def r41_13 : List PS := [.mk (some 64) (.move (.tmp 9)) none,
  .mk (some 65) (.binOp .geq 3 (.tmp 64) (.const (.int .i64 1)) 3) none]
def r41_14 : List PS := [.mk (some 68) (.move (.tmp 0)) none,
  .mk (some 69) (.move (.tmp 9)) none,
  .mk (some 70) (.indexAddr 22 (.tmp 68) (.tmp 69)) none,
  .mk (some 71) (.load 3 (.tmp 70)) none,
  .mk (some 72) (.move (.tmp 0)) none,
  .mk (some 73) (.move (.tmp 9)) none,
  .mk (some 74) (.binOp .sub 3 (.tmp 73) (.const (.int .i64 1)) 3) none,
  .mk (some 75) (.indexAddr 22 (.tmp 72) (.tmp 74)) none,
  .mk (some 76) (.load 3 (.tmp 75)) none,
  .mk (some 77) (.call ⟨(.value (.func 42)), #[(.tmp 71), (.tmp 76)], #[3, 3]⟩) none,
  .mk (some 78) (.unOp .not 4 (.tmp 77)) none]
def r41_15 : List PS := [.mk (some 79) (.move (.tmp 0)) none,
  .mk (some 80) (.move (.tmp 9)) none,
  .mk (some 81) (.move (.tmp 0)) none,
  .mk (some 82) (.move (.tmp 9)) none,
  .mk (some 83) (.binOp .sub 3 (.tmp 82) (.const (.int .i64 1)) 3) none,
  .mk (some 84) (.move (.tmp 0)) none,
  .mk (some 85) (.move (.tmp 9)) none,
  .mk (some 86) (.binOp .sub 3 (.tmp 85) (.const (.int .i64 1)) 3) none,
  .mk (some 87) (.indexAddr 22 (.tmp 84) (.tmp 86)) none,
  .mk (some 88) (.load 3 (.tmp 87)) none,
  .mk (some 89) (.move (.tmp 0)) none,
  .mk (some 90) (.move (.tmp 9)) none,
  .mk (some 91) (.indexAddr 22 (.tmp 89) (.tmp 90)) none,
  .mk (some 92) (.load 3 (.tmp 91)) none,
  .mk (some 93) (.indexAddr 22 (.tmp 79) (.tmp 80)) none,
  .mk none (.store 3 (.tmp 93) (.tmp 88)) none,
  .mk (some 94) (.indexAddr 22 (.tmp 81) (.tmp 83)) none,
  .mk none (.store 3 (.tmp 94) (.tmp 92)) none]
def r41_16 : List PS := [.mk (some 66) (.move (.tmp 9)) none,
  .mk (some 67) (.binOp .sub 3 (.tmp 66) (.const (.int .i64 1)) 3) none,
  .mk (some 9) (.assign (.tmp 67)) none]
def r41_17 : List PS := [.mk (some 95) (.move (.tmp 2)) none,
  .mk (some 96) (.move (.tmp 7)) none,
  .mk (some 97) (.binOp .sub 3 (.tmp 95) (.tmp 96) 3) none,
  .mk (some 98) (.binOp .geq 3 (.tmp 97) (.const (.int .i64 2)) 3) none]
def r41_18 : List PS := [.mk (some 99) (.move (.tmp 7)) none,
  .mk (some 100) (.binOp .add 3 (.tmp 99) (.const (.int .i64 1)) 3) none,
  .mk (some 10) (.assign (.tmp 100)) none]
def r41_19 : List PS := [.mk (some 101) (.move (.tmp 10)) none,
  .mk (some 102) (.move (.tmp 2)) none,
  .mk (some 103) (.binOp .lss 3 (.tmp 101) (.tmp 102) 3) none]
def r41_20 : List PS := [.mk (some 106) (.move (.tmp 0)) none,
  .mk (some 107) (.move (.tmp 10)) none,
  .mk (some 108) (.indexAddr 22 (.tmp 106) (.tmp 107)) none,
  .mk (some 109) (.load 3 (.tmp 108)) none,
  .mk (some 110) (.move (.tmp 0)) none,
  .mk (some 111) (.move (.tmp 10)) none,
  .mk (some 112) (.binOp .sub 3 (.tmp 111) (.const (.int .i64 1)) 3) none,
  .mk (some 113) (.indexAddr 22 (.tmp 110) (.tmp 112)) none,
  .mk (some 114) (.load 3 (.tmp 113)) none,
  .mk (some 115) (.call ⟨(.value (.func 42)), #[(.tmp 109), (.tmp 114)], #[3, 3]⟩) none,
  .mk (some 116) (.unOp .not 4 (.tmp 115)) none]
def r41_21 : List PS := [.mk (some 117) (.move (.tmp 0)) none,
  .mk (some 118) (.move (.tmp 10)) none,
  .mk (some 119) (.move (.tmp 0)) none,
  .mk (some 120) (.move (.tmp 10)) none,
  .mk (some 121) (.binOp .sub 3 (.tmp 120) (.const (.int .i64 1)) 3) none,
  .mk (some 122) (.move (.tmp 0)) none,
  .mk (some 123) (.move (.tmp 10)) none,
  .mk (some 124) (.binOp .sub 3 (.tmp 123) (.const (.int .i64 1)) 3) none,
  .mk (some 125) (.indexAddr 22 (.tmp 122) (.tmp 124)) none,
  .mk (some 126) (.load 3 (.tmp 125)) none,
  .mk (some 127) (.move (.tmp 0)) none,
  .mk (some 128) (.move (.tmp 10)) none,
  .mk (some 129) (.indexAddr 22 (.tmp 127) (.tmp 128)) none,
  .mk (some 130) (.load 3 (.tmp 129)) none,
  .mk (some 131) (.indexAddr 22 (.tmp 117) (.tmp 118)) none,
  .mk none (.store 3 (.tmp 131) (.tmp 126)) none,
  .mk (some 132) (.indexAddr 22 (.tmp 119) (.tmp 121)) none,
  .mk none (.store 3 (.tmp 132) (.tmp 130)) none]
def r41_22 : List PS := [.mk (some 104) (.move (.tmp 10)) none,
  .mk (some 105) (.binOp .add 3 (.tmp 104) (.const (.int .i64 1)) 3) none,
  .mk (some 10) (.assign (.tmp 105)) none]
def r41_23 : List PS := [.mk (some 15) (.move (.tmp 8)) none,
  .mk (some 16) (.binOp .add 3 (.tmp 15) (.const (.int .i64 1)) 3) none,
  .mk (some 8) (.assign (.tmp 16)) none]
def r41_24 : List PS := [.mk (some 6) (.assign (.const (.bool false))) none]
def c41 : PC := (.seq (.reg false r41_0) (.seq (.reg false r41_1) (.seq (.seq (.reg false r41_2) (.block 0 (.loop (.seq (.seq (.reg false r41_3) (.cond (.tmp 14) .skip (.exit 0))) (.seq (.block 1 (.seq (.block 2 (.loop (.seq (.seq (.reg true r41_4) (.cond (.tmp 32) .skip (.exit 2))) (.block 3 (.reg false r41_5))))) (.seq (.seq (.reg false r41_6) (.cond (.tmp 37) (.seq (.reg false r41_7) .ret) .skip)) (.seq (.seq (.reg false r41_8) (.cond (.tmp 41) (.seq (.reg false r41_9) .ret) .skip)) (.seq (.reg true r41_10) (.seq (.seq (.reg false r41_11) (.cond (.tmp 61) (.seq (.reg false r41_12) (.block 4 (.loop (.seq (.seq (.reg false r41_13) (.cond (.tmp 65) .skip (.exit 4))) (.seq (.block 5 (.seq (.seq (.reg true r41_14) (.cond (.tmp 78) (.exit 4) .skip)) (.reg true r41_15))) (.reg false r41_16)))))) .skip)) (.seq (.reg false r41_17) (.cond (.tmp 98) (.seq (.reg false r41_18) (.block 6 (.loop (.seq (.seq (.reg false r41_19) (.cond (.tmp 103) .skip (.exit 6))) (.seq (.block 7 (.seq (.seq (.reg true r41_20) (.cond (.tmp 116) (.exit 6) .skip)) (.reg true r41_21))) (.reg false r41_22)))))) .skip)))))))) (.reg false r41_23)))))) (.seq (.reg false r41_24) .ret))))
theorem e41 {args : List PV} {h : Heap} {K : PV → Heap → Prop} (hl : args.length = 3) (s : pwp Try.prog [] c41 (fin Try.prog [.tmp 6] h K) (slots0 (olds args)) h) : CanP Try.prog 41 args h K :=
  can_of2 (n := 133) mixed Try.func41 rfl (by kernel_rfl) (by rw [hl]; kernel_rfl) rfl (by kernel_rfl) s
/-! ### slices.partitionEqualOrdered[int]: function 43 -/
def r43_0 : List PS := [.mk (some 8) (.assign (.const (.int .i64 0))) none]
def r43_1 : List PS := [.mk (some 11) (.move (.tmp 0)) none,
  .mk (some 12) (.move (.tmp 1)) none,
  .mk (some 13) (.move (.tmp 0)) none,
  .mk (some 14) (.move (.tmp 3)) none,
  .mk (some 15) (.move (.tmp 0)) none,
  .mk (some 16) (.move (.tmp 3)) none,
  .mk (some 17) (.indexAddr 22 (.tmp 15) (.tmp 16)) none,
  .mk (some 18) (.load 3 (.tmp 17)) none,
  .mk (some 19) (.move (.tmp 0)) none,
  .mk (some 20) (.move (.tmp 1)) none,
  .mk (some 21) (.indexAddr 22 (.tmp 19) (.tmp 20)) none,
  .mk (some 22) (.load 3 (.tmp 21)) none,
  .mk (some 23) (.indexAddr 22 (.tmp 11) (.tmp 12)) none,
  .mk none (.store 3 (.tmp 23) (.tmp 18)) none,
  .mk (some 24) (.indexAddr 22 (.tmp 13) (.tmp 14)) none,
  .mk none (.store 3 (.tmp 24) (.tmp 22)) none]
def r43_2 : List PS := [.mk (some 25) (.move (.tmp 1)) none,
  .mk (some 26) (.binOp .add 3 (.tmp 25) (.const (.int .i64 1)) 3) none,
  .mk (some 27) (.move (.tmp 2)) none,
  .mk (some 28) (.binOp .sub 3 (.tmp 27) (.const (.int .i64 1)) 3) none,
  .mk (some 9) (.assign (.tmp 26)) none,
  .mk (some 10) (.assign (.tmp 28)) none]
def r43_3 : List PS := [.mk (some 29) (.move (.tmp 9)) none,
  .mk (some 30) (.move (.tmp 10)) none,
  .mk (some 31) (.binOp .leq 3 (.tmp 29) (.tmp 30) 3) none,
  .mk (some 32) (.move (.tmp 31)) none,
  .mk (some 33) (.move (.tmp 0)) (some (32, true)),
  .mk (some 34) (.move (.tmp 1)) (some (32, true)),
  .mk (some 35) (.indexAddr 22 (.tmp 33) (.tmp 34)) (some (32, true)),
  .mk (some 36) (.load 3 (.tmp 35)) (some (32, true)),
  .mk (some 37) (.move (.tmp 0)) (some (32, true)),
  .mk (some 38) (.move (.tmp 9)) (some (32, true)),
  .mk (some 39) (.indexAddr 22 (.tmp 37) (.tmp 38)) (some (32, true)),
  .mk (some 40) (.load 3 (.tmp 39)) (some (32, true)),
  .mk (some 41) (.call ⟨(.value (.func 42)), #[(.tmp 36), (.tmp 40)], #[3, 3]⟩) (some (32, true)),
  .mk (some 42) (.unOp .not 4 (.tmp 41)) (some (32, true)),
  .mk (some 43) (.pick (.tmp 32) (.tmp 42) (.const (.bool false))) none]
def r43_4 : List PS := [.mk (some 44) (.move (.tmp 9)) none,
  .mk (some 45) (.binOp .add 3 (.tmp 44) (.const (.int .i64 1)) 3) none,
  .mk (some 9) (.assign (.tmp 45)) none]
def r43_5 : List PS := [.mk (some 46) (.move (.tmp 9)) none,
  .mk (some 47) (.move (.tmp 10)) none,
  .mk (some 48) (.binOp .leq 3 (.tmp 46) (.tmp 47) 3) none,
  .mk (some 49) (.move (.tmp 48)) none,
  .mk (some 50) (.move (.tmp 0)) (some (49, true)),
  .mk (some 51) (.move (.tmp 1)) (some (49, true)),
  .mk (some 52) (.indexAddr 22 (.tmp 50) (.tmp 51)) (some (49, true)),
  .mk (some 53) (.load 3 (.tmp 52)) (some (49, true)),
  .mk (some 54) (.move (.tmp 0)) (some (49, true)),
  .mk (some 55) (.move (.tmp 10)) (some (49, true)),
  .mk (some 56) (.indexAddr 22 (.tmp 54) (.tmp 55)) (some (49, true)),
  .mk (some 57) (.load 3 (.tmp 56)) (some (49, true)),
  .mk (some 58) (.call ⟨(.value (.func 42)), #[(.tmp 53), (.tmp 57)], #[3, 3]⟩) (some (49, true)),
  .mk (some 59) (.pick (.tmp 49) (.tmp 58) (.const (.bool false))) none]
def r43_6 : List PS := [.mk (some 60) (.move (.tmp 10)) none,
  .mk (some 61) (.binOp .sub 3 (.tmp 60) (.const (.int .i64 1)) 3) none,
  .mk (some 10) (.assign (.tmp 61)) none]
def r43_7 : List PS := [.mk (some 62) (.move (.tmp 9)) none,
  .mk (some 63) (.move (.tmp 10)) none,
  .mk (some 64) (.binOp .gtr 3 (.tmp 62) (.tmp 63) 3) none]
def r43_8 : List PS := [.mk (some 65) (.move (.tmp 0)) none,
  .mk (some 66) (.move (.tmp 9)) none,
  .mk (some 67) (.move (.tmp 0)) none,
  .mk (some 68) (.move (.tmp 10)) none,
  .mk (some 69) (.move (.tmp 0)) none,
  .mk (some 70) (.move (.tmp 10)) none,
  .mk (some 71) (.indexAddr 22 (.tmp 69) (.tmp 70)) none,
  .mk (some 72) (.load 3 (.tmp 71)) none,
  .mk (some 73) (.move (.tmp 0)) none,
  .mk (some 74) (.move (.tmp 9)) none,
  .mk (some 75) (.indexAddr 22 (.tmp 73) (.tmp 74)) none,
  .mk (some 76) (.load 3 (.tmp 75)) none,
  .mk (some 77) (.indexAddr 22 (.tmp 65) (.tmp 66)) none,
  .mk none (.store 3 (.tmp 77) (.tmp 72)) none,
  .mk (some 78) (.indexAddr 22 (.tmp 67) (.tmp 68)) none,
  .mk none (.store 3 (.tmp 78) (.tmp 76)) none]
def r43_9 : List PS := [.mk (some 79) (.move (.tmp 9)) none,
  .mk (some 80) (.binOp .add 3 (.tmp 79) (.const (.int .i64 1)) 3) none,
  .mk (some 9) (.assign (.tmp 80)) none]
def r43_10 : List PS := [.mk (some 81) (.move (.tmp 10)) none,
  .mk (some 82) (.binOp .sub 3 (.tmp 81) (.const (.int .i64 1)) 3) none,
  .mk (some 10) (.assign (.tmp 82)) none]
def r43_11 : List PS := [.mk (some 83) (.move (.tmp 9)) none,
  .mk (some 8) (.assign (.tmp 83)) none]
def c43 : PC := (.seq (.reg false r43_0) (.seq (.reg true r43_1) (.seq (.reg false r43_2) (.seq (.block 0 (.loop (.block 1 (.seq (.block 2 (.loop (.seq (.seq (.reg true r43_3) (.cond (.tmp 43) .skip (.exit 2))) (.block 3 (.reg false r43_4))))) (.seq (.block 4 (.loop (.seq (.seq (.reg true r43_5) (.cond (.tmp 59) .skip (.exit 4))) (.block 5 (.reg false r43_6))))) (.seq (.seq (.reg false r43_7) (.cond (.tmp 64) (.exit 0) .skip)) (.seq (.reg true r43_8) (.seq (.reg false r43_9) (.reg false r43_10))))))))) (.seq (.reg false r43_11) .ret)))))
theorem e43 {args : List PV} {h : Heap} {K : PV → Heap → Prop} (hl : args.length = 4) (s : pwp Try.prog [] c43 (fin Try.prog [.tmp 8] h K) (slots0 (olds args)) h) : CanP Try.prog 43 args h K :=
  can_of2 (n := 84) mixed Try.func43 rfl (by kernel_rfl) (by rw [hl]; kernel_rfl) rfl (by kernel_rfl) s
/-! ### slices.partitionOrdered[int]: function 44 -/
def r44_0 : List PS := [.mk (some 8) (.assign (.const (.int .i64 0))) none,
  .mk (some 9) (.assign (.const (.bool false))) none]
def r44_1 : List PS := [.mk (some 12) (.move (.tmp 0)) none,
  .mk (some 13) (.move (.tmp 1)) none,
  .mk (some 14) (.move (.tmp 0)) none,
  .mk (some 15) (.move (.tmp 3)) none,
  .mk (some 16) (.move (.tmp 0)) none,
  .mk (some 17) (.move (.tmp 3)) none,
  .mk (some 18) (.indexAddr 22 (.tmp 16) (.tmp 17)) none,
  .mk (some 19) (.load 3 (.tmp 18)) none,
  .mk (some 20) (.move (.tmp 0)) none,
  .mk (some 21) (.move (.tmp 1)) none,
  .mk (some 22) (.indexAddr 22 (.tmp 20) (.tmp 21)) none,
  .mk (some 23) (.load 3 (.tmp 22)) none,
  .mk (some 24) (.indexAddr 22 (.tmp 12) (.tmp 13)) none,
  .mk none (.store 3 (.tmp 24) (.tmp 19)) none,
  .mk (some 25) (.indexAddr 22 (.tmp 14) (.tmp 15)) none,
  .mk none (.store 3 (.tmp 25) (.tmp 23)) none]
def r44_2 : List PS := [.mk (some 26) (.move (.tmp 1)) none,
  .mk (some 27) (.binOp .add 3 (.tmp 26) (.const (.int .i64 1)) 3) none,
  .mk (some 28) (.move (.tmp 2)) none,
  .mk (some 29) (.binOp .sub 3 (.tmp 28) (.const (.int .i64 1)) 3) none,
  .mk (some 10) (.assign (.tmp 27)) none,
  .mk (some 11) (.assign (.tmp 29)) none]
def r44_3 : List PS := [.mk (some 30) (.move (.tmp 10)) none,
  .mk (some 31) (.move (.tmp 11)) none,
  .mk (some 32) (.binOp .leq 3 (.tmp 30) (.tmp 31) 3) none,
  .mk (some 33) (.move (.tmp 32)) none,
  .mk (some 34) (.move (.tmp 0)) (some (33, true)),
  .mk (some 35) (.move (.tmp 10)) (some (33, true)),
  .mk (some 36) (.indexAddr 22 (.tmp 34) (.tmp 35)) (some (33, true)),
  .mk (some 37) (.load 3 (.tmp 36)) (some (33, true)),
  .mk (some 38) (.move (.tmp 0)) (some (33, true)),
  .mk (some 39) (.move (.tmp 1)) (some (33, true)),
  .mk (some 40) (.indexAddr 22 (.tmp 38) (.tmp 39)) (some (33, true)),
  .mk (some 41) (.load 3 (.tmp 40)) (some (33, true)),
  .mk (some 42) (.call ⟨(.value (.func 42)), #[(.tmp 37), (.tmp 41)], #[3, 3]⟩) (some (33, true)),
  .mk (some 43) (.pick (.tmp 33) (.tmp 42) (.const (.bool false))) none]
def r44_4 : List PS := [.mk (some 44) (.move (.tmp 10)) none,
  .mk (some 45) (.binOp .add 3 (.tmp 44) (.const (.int .i64 1)) 3) none,
  .mk (some 10) (.assign (.tmp 45)) none]
def r44_5 : List PS := [.mk (some 46) (.move (.tmp 10)) none,
  .mk (some 47) (.move (.tmp 11)) none,
  .mk (some 48) (.binOp .leq 3 (.tmp 46) (.tmp 47) 3) none,
  .mk (some 49) (.move (.tmp 48)) none,
  .mk (some 50) (.move (.tmp 0)) (some (49, true)),
  .mk (some 51) (.move (.tmp 11)) (some (49, true)),
  .mk (some 52) (.indexAddr 22 (.tmp 50) (.tmp 51)) (some (49, true)),
  .mk (some 53) (.load 3 (.tmp 52)) (some (49, true)),
  .mk (some 54) (.move (.tmp 0)) (some (49, true)),
  .mk (some 55) (.move (.tmp 1)) (some (49, true)),
  .mk (some 56) (.indexAddr 22 (.tmp 54) (.tmp 55)) (some (49, true)),
  .mk (some 57) (.load 3 (.tmp 56)) (some (49, true)),
  .mk (some 58) (.call ⟨(.value (.func 42)), #[(.tmp 53), (.tmp 57)], #[3, 3]⟩) (some (49, true)),
  .mk (some 59) (.unOp .not 4 (.tmp 58)) (some (49, true)),
  .mk (some 60) (.pick (.tmp 49) (.tmp 59) (.const (.bool false))) none]
def r44_6 : List PS := [.mk (some 61) (.move (.tmp 11)) none,
  .mk (some 62) (.binOp .sub 3 (.tmp 61) (.const (.int .i64 1)) 3) none,
  .mk (some 11) (.assign (.tmp 62)) none]
def r44_7 : List PS := [.mk (some 63) (.move (.tmp 10)) none,
  .mk (some 64) (.move (.tmp 11)) none,
  .mk (some 65) (.binOp .gtr 3 (.tmp 63) (.tmp 64) 3) none]
def r44_8 : List PS := [.mk (some 66) (.move (.tmp 0)) none,
  .mk (some 67) (.move (.tmp 11)) none,
  .mk (some 68) (.move (.tmp 0)) none,
  .mk (some 69) (.move (.tmp 1)) none,
  .mk (some 70) (.move (.tmp 0)) none,
  .mk (some 71) (.move (.tmp 1)) none,
  .mk (some 72) (.indexAddr 22 (.tmp 70) (.tmp 71)) none,
  .mk (some 73) (.load 3 (.tmp 72)) none,
  .mk (some 74) (.move (.tmp 0)) none,
  .mk (some 75) (.move (.tmp 11)) none,
  .mk (some 76) (.indexAddr 22 (.tmp 74) (.tmp 75)) none,
  .mk (some 77) (.load 3 (.tmp 76)) none,
  .mk (some 78) (.indexAddr 22 (.tmp 66) (.tmp 67)) none,
  .mk none (.store 3 (.tmp 78) (.tmp 73)) none,
  .mk (some 79) (.indexAddr 22 (.tmp 68) (.tmp 69)) none,
  .mk none (.store 3 (.tmp 79) (.tmp 77)) none]
def r44_9 : List PS := [.mk (some 80) (.move (.tmp 11)) none,
  .mk (some 8) (.assign (.tmp 80)) none,
  .mk (some 9) (.assign (.const (.bool true))) none]
def r44_10 : List PS := [.mk (some 81) (.move (.tmp 0)) none,
  .mk (some 82) (.move (.tmp 10)) none,
  .mk (some 83) (.move (.tmp 0)) none,
  .mk (some 84) (.move (.tmp 11)) none,
  .mk (some 85) (.move (.tmp 0)) none,
  .mk (some 86) (.move (.tmp 11)) none,
  .mk (some 87) (.indexAddr 22 (.tmp 85) (.tmp 86)) none,
  .mk (some 88) (.load 3 (.tmp 87)) none,
  .mk (some 89) (.move (.tmp 0)) none,
  .mk (some 90) (.move (.tmp 10)) none,
  .mk (some 91) (.indexAddr 22 (.tmp 89) (.tmp 90)) none,
  .mk (some 92) (.load 3 (.tmp 91)) none,
  .mk (some 93) (.indexAddr 22 (.tmp 81) (.tmp 82)) none,
  .mk none (.store 3 (.tmp 93) (.tmp 88)) none,
  .mk (some 94) (.indexAddr 22 (.tmp 83) (.tmp 84)) none,
  .mk none (.store 3 (.tmp 94) (.tmp 92)) none]
def r44_11 : List PS := [.mk (some 95) (.move (.tmp 10)) none,
  .mk (some 96) (.binOp .add 3 (.tmp 95) (.const (.int .i64 1)) 3) none,
  .mk (some 10) (.assign (.tmp 96)) none]
def r44_12 : List PS := [.mk (some 97) (.move (.tmp 11)) none,
  .mk (some 98) (.binOp .sub 3 (.tmp 97) (.const (.int .i64 1)) 3) none,
  .mk (some 11) (.assign (.tmp 98)) none]
def r44_13 : List PS := [.mk (some 99) (.move (.tmp 10)) none,
  .mk (some 100) (.move (.tmp 11)) none,
  .mk (some 101) (.binOp .leq 3 (.tmp 99) (.tmp 100) 3) none,
  .mk (some 102) (.move (.tmp 101)) none,
  .mk (some 103) (.move (.tmp 0)) (some (102, true)),
  .mk (some 104) (.move (.tmp 10)) (some (102, true)),
  .mk (some 105) (.indexAddr 22 (.tmp 103) (.tmp 104)) (some (102, true)),
  .mk (some 106) (.load 3 (.tmp 105)) (some (102, true)),
  .mk (some 107) (.move (.tmp 0)) (some (102, true)),
  .mk (some 108) (.move (.tmp 1)) (some (102, true)),
  .mk (some 109) (.indexAddr 22 (.tmp 107) (.tmp 108)) (some (102, true)),
  .mk (some 110) (.load 3 (.tmp 109)) (some (102, true)),
  .mk (some 111) (.call ⟨(.value (.func 42)), #[(.tmp 106), (.tmp 110)], #[3, 3]⟩) (some (102, true)),
  .mk (some 112) (.pick (.tmp 102) (.tmp 111) (.const (.bool false))) none]
def r44_14 : List PS := [.mk (some 113) (.move (.tmp 10)) none,
  .mk (some 114) (.binOp .add 3 (.tmp 113) (.const (.int .i64 1)) 3) none,
  .mk (some 10) (.assign (.tmp 114)) none]
def r44_15 : List PS := [.mk (some 115) (.move (.tmp 10)) none,
  .mk (some 116) (.move (.tmp 11)) none,
  .mk (some 117) (.binOp .leq 3 (.tmp 115) (.tmp 116) 3) none,
  .mk (some 118) (.move (.tmp 117)) none,
  .mk (some 119) (.move (.tmp 0)) (some (118, true)),
  .mk (some 120) (.move (.tmp 11)) (some (118, true)),
  .mk (some 121) (.indexAddr 22 (.tmp 119) (.tmp 120)) (some (118, true)),
  .mk (some 122) (.load 3 (.tmp 121)) (some (118, true)),
  .mk (some 123) (.move (.tmp 0)) (some (118, true)),
  .mk (some 124) (.move (.tmp 1)) (some (118, true)),
  .mk (some 125) (.indexAddr 22 (.tmp 123) (.tmp 124)) (some (118, true)),
  .mk (some 126) (.load 3 (.tmp 125)) (some (118, true)),
  .mk (some 127) (.call ⟨(.value (.func 42)), #[(.tmp 122), (.tmp 126)], #[3, 3]⟩) (some (118, true)),
  .mk (some 128) (.unOp .not 4 (.tmp 127)) (some (118, true)),
  .mk (some 129) (.pick (.tmp 118) (.tmp 128) (.const (.bool false))) none]
def r44_16 : List PS := [.mk (some 130) (.move (.tmp 11)) none,
  .mk (some 131) (.binOp .sub 3 (.tmp 130) (.const (.int .i64 1)) 3) none,
  .mk (some 11) (.assign (.tmp 131)) none]
def r44_17 : List PS := [.mk (some 132) (.move (.tmp 10)) none,
  .mk (some 133) (.move (.tmp 11)) none,
  .mk (some 134) (.binOp .gtr 3 (.tmp 132) (.tmp 133) 3) none]
def r44_18 : List PS := [.mk (some 135) (.move (.tmp 0)) none,
  .mk (some 136) (.move (.tmp 10)) none,
  .mk (some 137) (.move (.tmp 0)) none,
  .mk (some 138) (.move (.tmp 11)) none,
  .mk (some 139) (.move (.tmp 0)) none,
  .mk (some 140) (.move (.tmp 11)) none,
  .mk (some 141) (.indexAddr 22 (.tmp 139) (.tmp 140)) none,
  .mk (some 142) (.load 3 (.tmp 141)) none,
  .mk (some 143) (.move (.tmp 0)) none,
  .mk (some 144) (.move (.tmp 10)) none,
  .mk (some 145) (.indexAddr 22 (.tmp 143) (.tmp 144)) none,
  .mk (some 146) (.load 3 (.tmp 145)) none,
  .mk (some 147) (.indexAddr 22 (.tmp 135) (.tmp 136)) none,
  .mk none (.store 3 (.tmp 147) (.tmp 142)) none,
  .mk (some 148) (.indexAddr 22 (.tmp 137) (.tmp 138)) none,
  .mk none (.store 3 (.tmp 148) (.tmp 146)) none]
def r44_19 : List PS := [.mk (some 149) (.move (.tmp 10)) none,
  .mk (some 150) (.binOp .add 3 (.tmp 149) (.const (.int .i64 1)) 3) none,
  .mk (some 10) (.assign (.tmp 150)) none]
def r44_20 : List PS := [.mk (some 151) (.move (.tmp 11)) none,
  .mk (some 152) (.binOp .sub 3 (.tmp 151) (.const (.int .i64 1)) 3) none,
  .mk (some 11) (.assign (.tmp 152)) none]
def r44_21 : List PS := [.mk (some 153) (.move (.tmp 0)) none,
  .mk (some 154) (.move (.tmp 11)) none,
  .mk (some 155) (.move (.tmp 0)) none,
  .mk (some 156) (.move (.tmp 1)) none,
  .mk (some 157) (.move (.tmp 0)) none,
  .mk (some 158) (.move (.tmp 1)) none,
  .mk (some 159) (.indexAddr 22 (.tmp 157) (.tmp 158)) none,
  .mk (some 160) (.load 3 (.tmp 159)) none,
  .mk (some 161) (.move (.tmp 0)) none,
  .mk (some 162) (.move (.tmp 11)) none,
  .mk (some 163) (.indexAddr 22 (.tmp 161) (.tmp 162)) none,
  .mk (some 164) (.load 3 (.tmp 163)) none,
  .mk (some 165) (.indexAddr 22 (.tmp 153) (.tmp 154)) none,
  .mk none (.store 3 (.tmp 165) (.tmp 160)) none,
  .mk (some 166) (.indexAddr 22 (.tmp 155) (.tmp 156)) none,
  .mk none (.store 3 (.tmp 166) (.tmp 164)) none]
def r44_22 : List PS := [.mk (some 167) (.move (.tmp 11)) none,
  .mk (some 8) (.assign (.tmp 167)) none,
  .mk (some 9) (.assign (.const (.bool false))) none]
def c44 : PC := (.seq (.reg false r44_0) (.seq (.reg true r44_1) (.seq (.reg false r44_2) (.seq (.block 0 (.loop (.seq (.seq (.reg true r44_3) (.cond (.tmp 43) .skip (.exit 0))) (.block 1 (.reg false r44_4))))) (.seq (.block 2 (.loop (.seq (.seq (.reg true r44_5) (.cond (.tmp 60) .skip (.exit 2))) (.block 3 (.reg false r44_6))))) (.seq (.seq (.reg false r44_7) (.cond (.tmp 65) (.seq (.reg true r44_8) (.seq (.reg false r44_9) .ret)) .skip)) (.seq (.reg true r44_10) (.seq (.reg false r44_11) (.seq (.reg false r44_12) (.seq (.block 4 (.loop (.block 5 (.seq (.block 6 (.loop (.seq (.seq (.reg true r44_13) (.cond (.tmp 112) .skip (.exit 6))) (.block 7 (.reg false r44_14))))) (.seq (.block 8 (.loop (.seq (.seq (.reg true r44_15) (.cond (.tmp 129) .skip (.exit 8))) (.block 9 (.reg false r44_16))))) (.seq (.seq (.reg false r44_17) (.cond (.tmp 134) (.exit 4) .skip)) (.seq (.reg true r44_18) (.seq (.reg false r44_19) (.reg false r44_20))))))))) (.seq (.reg true r44_21) (.seq (.reg false r44_22) .ret))))))))))))
theorem e44 {args : List PV} {h : Heap} {K : PV → Heap → Prop} (hl : args.length = 4) (s : pwp Try.prog [] c44 (fin Try.prog [.tmp 8, .tmp 9] h K) (slots0 (olds args)) h) : CanP Try.prog 44 args h K :=
  can_of2 (n := 168) mixed Try.func44 rfl (by kernel_rfl) (by rw [hl]; kernel_rfl) rfl (by kernel_rfl) s
/-! ### slices.pdqsortOrdered[int]: function 28 -/
def r28_0 : List PS := [.mk (some 8) (.assign (.const (.bool true))) none]
def r28_1 : List PS := [.mk (some 9) (.assign (.const (.bool true))) none]
def r28_2 : List PS := [.mk (some 19) (.move (.tmp 2)) none,
  .mk (some 20) (.move (.tmp 1)) none,
  .mk (some 21) (.binOp .sub 3 (.tmp 19) (.tmp 20) 3) none,
  .mk (some 10) (.assign (.tmp 21)) none]
def r28_3 : List PS := [.mk (some 22) (.move (.tmp 10)) none,
  .mk (some 23) (.binOp .leq 3 (.tmp 22) (.const (.int .i64 12)) 3) none]
def r28_4 : List PS := [.mk (some 24) (.move (.tmp 0)) none,
  .mk (some 25) (.move (.tmp 1)) none,
  .mk (some 26) (.move (.tmp 2)) none,
  .mk (some 27) (.call ⟨(.value (.func 36)), #[(.tmp 24), (.tmp 25), (.tmp 26)], #[22, 3, 3]⟩) none]
def r28_5 : List PS := [.mk (some 28) (.move (.tmp 3)) none,
  .mk (some 29) (.binOp .eql 3 (.tmp 28) (.const (.int .i64 0)) 3) none]
def r28_6 : List PS := [.mk (some 30) (.move (.tmp 0)) none,
  .mk (some 31) (.move (.tmp 1)) none,
  .mk (some 32) (.move (.tmp 2)) none,
  .mk (some 33) (.call ⟨(.value (.func 37)), #[(.tmp 30), (.tmp 31), (.tmp 32)], #[22, 3, 3]⟩) none]
def r28_7 : List PS := [.mk (some 34) (.move (.tmp 8)) none,
  .mk (some 35) (.unOp .not 4 (.tmp 34)) none]
def r28_8 : List PS := [.mk (some 36) (.move (.tmp 0)) none,
  .mk (some 37) (.move (.tmp 1)) none,
  .mk (some 38) (.move (.tmp 2)) none,
  .mk (some 39) (.call ⟨(.value (.func 38)), #[(.tmp 36), (.tmp 37), (.tmp 38)], #[22, 3, 3]⟩) none]
def r28_9 : List PS := [.mk (some 40) (.move (.tmp 3)) none,
  .mk (some 41) (.binOp .sub 3 (.tmp 40) (.const (.int .i64 1)) 3) none,
  .mk (some 3) (.assign (.tmp 41)) none]
def r28_10 : List PS := [.mk (some 43) (.move (.tmp 0)) none,
  .mk (some 44) (.move (.tmp 1)) none,
  .mk (some 45) (.move (.tmp 2)) none,
  .mk (some 46) (.call ⟨(.value (.func 39)), #[(.tmp 43), (.tmp 44), (.tmp 45)], #[22, 3, 3]⟩) none,
  .mk (some 42) (.move (.tmp 46)) none,
  .mk (some 47) (.extract (.tmp 42) 0) none,
  .mk (some 48) (.extract (.tmp 42) 1) none,
  .mk (some 11) (.assign (.tmp 47)) none,
  .mk (some 12) (.assign (.tmp 48)) none]
def r28_11 : List PS := [.mk (some 49) (.move (.tmp 12)) none,
  .mk (some 50) (.binOp .eql 66 (.tmp 49) (.const (.int .i64 2)) 66) none]
def r28_12 : List PS := [.mk (some 51) (.move (.tmp 0)) none,
  .mk (some 52) (.move (.tmp 1)) none,
  .mk (some 53) (.move (.tmp 2)) none,
  .mk (some 54) (.call ⟨(.value (.func 40)), #[(.tmp 51), (.tmp 52), (.tmp 53)], #[22, 3, 3]⟩) none]
def r28_13 : List PS := [.mk (some 55) (.move (.tmp 2)) none,
  .mk (some 56) (.binOp .sub 3 (.tmp 55) (.const (.int .i64 1)) 3) none,
  .mk (some 57) (.move (.tmp 11)) none,
  .mk (some 58) (.move (.tmp 1)) none,
  .mk (some 59) (.binOp .sub 3 (.tmp 57) (.tmp 58) 3) none,
  .mk (some 60) (.binOp .sub 3 (.tmp 56) (.tmp 59) 3) none,
  .mk (some 11) (.assign (.tmp 60)) none]
def r28_14 : List PS := [.mk (some 12) (.assign (.const (.int .i64 1))) none]
def r28_15 : List PS := [.mk (some 61) (.move (.tmp 8)) none,
  .mk (some 62) (.move (.tmp 61)) none,
  .mk (some 63) (.move (.tmp 9)) (some (62, true)),
  .mk (some 64) (.pick (.tmp 62) (.tmp 63) (.const (.bool false))) none,
  .mk (some 65) (.move (.tmp 64)) none,
  .mk (some 66) (.move (.tmp 12)) (some (65, true)),
  .mk (some 67) (.binOp .eql 66 (.tmp 66) (.const (.int .i64 1)) 66) (some (65, true)),
  .mk (some 68) (.pick (.tmp 65) (.tmp 67) (.const (.bool false))) none]
def r28_16 : List PS := [.mk (some 69) (.move (.tmp 0)) none,
  .mk (some 70) (.move (.tmp 1)) none,
  .mk (some 71) (.move (.tmp 2)) none,
  .mk (some 72) (.call ⟨(.value (.func 41)), #[(.tmp 69), (.tmp 70), (.tmp 71)], #[22, 3, 3]⟩) none]
def r28_17 : List PS := [.mk (some 73) (.move (.tmp 1)) none,
  .mk (some 74) (.binOp .gtr 3 (.tmp 73) (.const (.int .i64 0)) 3) none,
  .mk (some 75) (.move (.tmp 74)) none,
  .mk (some 76) (.move (.tmp 0)) (some (75, true)),
  .mk (some 77) (.move (.tmp 1)) (some (75, true)),
  .mk (some 78) (.binOp .sub 3 (.tmp 77) (.const (.int .i64 1)) 3) (some (75, true)),
  .mk (some 79) (.indexAddr 22 (.tmp 76) (.tmp 78)) (some (75, true)),
  .mk (some 80) (.load 3 (.tmp 79)) (some (75, true)),
  .mk (some 81) (.move (.tmp 0)) (some (75, true)),
  .mk (some 82) (.move (.tmp 11)) (some (75, true)),
  .mk (some 83) (.indexAddr 22 (.tmp 81) (.tmp 82)) (some (75, true)),
  .mk (some 84) (.load 3 (.tmp 83)) (some (75, true)),
  .mk (some 85) (.call ⟨(.value (.func 42)), #[(.tmp 80), (.tmp 84)], #[3, 3]⟩) (some (75, true)),
  .mk (some 86) (.unOp .not 4 (.tmp 85)) (some (75, true)),
  .mk (some 87) (.pick (.tmp 75) (.tmp 86) (.const (.bool false))) none]
def r28_18 : List PS := [.mk (some 88) (.move (.tmp 0)) none,
  .mk (some 89) (.move (.tmp 1)) none,
  .mk (some 90) (.move (.tmp 2)) none,
  .mk (some 91) (.move (.tmp 11)) none,
  .mk (some 92) (.call ⟨(.value (.func 43)), #[(.tmp 88), (.tmp 89), (.tmp 90), (.tmp 91)], #[22, 3, 3, 3]⟩) none,
  .mk (some 13) (.assign (.tmp 92)) none]
def r28_19 : List PS := [.mk (some 93) (.move (.tmp 13)) none,
  .mk (some 1) (.assign (.tmp 93)) none]
def r28_20 : List PS := [.mk (some 95) (.move (.tmp 0)) none,
  .mk (some 96) (.move (.tmp 1)) none,
  .mk (some 97) (.move (.tmp 2)) none,
  .mk (some 98) (.move (.tmp 11)) none,
  .mk (some 99) (.call ⟨(.value (.func 44)), #[(.tmp 95), (.tmp 96), (.tmp 97), (.tmp 98)], #[22, 3, 3, 3]⟩) none,
  .mk (some 94) (.move (.tmp 99)) none,
  .mk (some 100) (.extract (.tmp 94) 0) none,
  .mk (some 101) (.extract (.tmp 94) 1) none,
  .mk (some 14) (.assign (.tmp 100)) none,
  .mk (some 15) (.assign (.tmp 101)) none]
def r28_21 : List PS := [.mk (some 102) (.move (.tmp 15)) none,
  .mk (some 9) (.assign (.tmp 102)) none]
def r28_22 : List PS := [.mk (some 103) (.move (.tmp 14)) none,
  .mk (some 104) (.move (.tmp 1)) none,
  .mk (some 105) (.binOp .sub 3 (.tmp 103) (.tmp 104) 3) none,
  .mk (some 106) (.move (.tmp 2)) none,
  .mk (some 107) (.move (.tmp 14)) none,
  .mk (some 108) (.binOp .sub 3 (.tmp 106) (.tmp 107) 3) none,
  .mk (some 16) (.assign (.tmp 105)) none,
  .mk (some 17) (.assign (.tmp 108)) none]
def r28_23 : List PS := [.mk (some 109) (.move (.tmp 10)) none,
  .mk (some 110) (.binOp .quo 3 (.tmp 109) (.const (.int .i64 8)) 3) none,
  .mk (some 18) (.assign (.tmp 110)) none]
def r28_24 : List PS := [.mk (some 111) (.move (.tmp 16)) none,
  .mk (some 112) (.move (.tmp 17)) none,
  .mk (some 113) (.binOp .lss 3 (.tmp 111) (.tmp 112) 3) none]
def r28_25 : List PS := [.mk (some 114) (.move (.tmp 16)) none,
  .mk (some 115) (.move (.tmp 18)) none,
  .mk (some 116) (.binOp .geq 3 (.tmp 114) (.tmp 115) 3) none,
  .mk (some 8) (.assign (.tmp 116)) none]
def r28_26 : List PS := [.mk (some 117) (.move (.tmp 0)) none,
  .mk (some 118) (.move (.tmp 1)) none,
  .mk (some 119) (.move (.tmp 14)) none,
  .mk (some 120) (.move (.tmp 3)) none,
  .mk (some 121) (.call ⟨(.value (.func 28)), #[(.tmp 117), (.tmp 118), (.tmp 119), (.tmp 120)], #[22, 3, 3, 3]⟩) none]
def r28_27 : List PS := [.mk (some 122) (.move (.tmp 14)) none,
  .mk (some 123) (.binOp .add 3 (.tmp 122) (.const (.int .i64 1)) 3) none,
  .mk (some 1) (.assign (.tmp 123)) none]
def r28_28 : List PS := [.mk (some 124) (.move (.tmp 17)) none,
  .mk (some 125) (.move (.tmp 18)) none,
  .mk (some 126) (.binOp .geq 3 (.tmp 124) (.tmp 125) 3) none,
  .mk (some 8) (.assign (.tmp 126)) none]
def r28_29 : List PS := [.mk (some 127) (.move (.tmp 0)) none,
  .mk (some 128) (.move (.tmp 14)) none,
  .mk (some 129) (.binOp .add 3 (.tmp 128) (.const (.int .i64 1)) 3) none,
  .mk (some 130) (.move (.tmp 2)) none,
  .mk (some 131) (.move (.tmp 3)) none,
  .mk (some 132) (.call ⟨(.value (.func 28)), #[(.tmp 127), (.tmp 129), (.tmp 130), (.tmp 131)], #[22, 3, 3, 3]⟩) none]
def r28_30 : List PS := [.mk (some 133) (.move (.tmp 14)) none,
  .mk (some 2) (.assign (.tmp 133)) none]
def c28 : PC := (.seq (.reg false r28_0) (.seq (.reg false r28_1) (.block 0 (.loop (.block 1 (.seq (.reg false r28_2) (.seq (.seq (.reg false r28_3) (.cond (.tmp 23) (.seq (.reg false r28_4) .ret) .skip)) (.seq (.seq (.reg false r28_5) (.cond (.tmp 29) (.seq (.reg false r28_6) .ret) .skip)) (.seq (.seq (.reg false r28_7) (.cond (.tmp 35) (.seq (.reg false r28_8) (.reg false r28_9)) .skip)) (.seq (.reg false r28_10) (.seq (.seq (.reg false r28_11) (.cond (.tmp 50) (.seq (.reg false r28_12) (.seq (.reg false r28_13) (.reg false r28_14))) .skip)) (.seq (.seq (.reg false r28_15) (.cond (.tmp 68) (.seq (.reg false r28_16) (.cond (.tmp 72) .ret .skip)) .skip)) (.seq (.seq (.reg true r28_17) (.cond (.tmp 87) (.seq (.reg false r28_18) (.seq (.reg false r28_19) (.exit 1))) .skip)) (.seq (.reg false r28_20) (.seq (.reg false r28_21) (.seq (.reg false r28_22) (.seq (.reg false r28_23) (.seq (.reg false r28_24) (.cond (.tmp 113) (.seq (.reg false r28_25) (.seq (.reg false r28_26) (.reg false r28_27))) (.seq (.reg false r28_28) (.seq (.reg false r28_29) (.reg false r28_30))))))))))))))))))))))
theorem e28 {args : List PV} {h : Heap} {K : PV → Heap → Prop} (hl : args.length = 4) (s : pwp Try.prog [] c28 (fin Try.prog [] h K) (slots0 (olds args)) h) : CanP Try.prog 28 args h K :=
  can_of2 (n := 134) mixed Try.func28 rfl (by kernel_rfl) (by rw [hl]; kernel_rfl) rfl (by kernel_rfl) s
/-! ### slices.Sort[[]int,int]: function 18 -/
def r18_0 : List PS := [.mk (some 3) (.move (.tmp 0)) none,
  .mk (some 4) (.call ⟨(.builtin .len), #[(.tmp 3)], #[22]⟩) none,
  .mk (some 2) (.assign (.tmp 4)) none]
def r18_1 : List PS := [.mk (some 5) (.move (.tmp 0)) none,
  .mk (some 6) (.move (.tmp 2)) none,
  .mk (some 7) (.move (.tmp 2)) none,
  .mk (some 8) (.convert 3 49 (.tmp 7)) none,
  .mk (some 9) (.call ⟨(.value (.func 29)), #[(.tmp 8)], #[49]⟩) none,
  .mk (some 10) (.call ⟨(.value (.func 28)), #[(.tmp 5), (.const (.int .i64 0)), (.tmp 6), (.tmp 9)], #[22, 3, 3, 3]⟩) none]
def c18 : PC := (.seq (.reg false r18_0) (.reg false r18_1))
theorem e18 {args : List PV} {h : Heap} {K : PV → Heap → Prop} (hl : args.length = 1) (s : pwp Try.prog [] c18 (fin Try.prog [] h K) (slots0 (olds args)) h) : CanP Try.prog 18 args h K :=
  can_of2 (n := 11) mixed Try.func18 rfl (by kernel_rfl) (by rw [hl]; kernel_rfl) rfl (by kernel_rfl) s
/-! ### naskh.naskhlaw37.CccOrders: function 5 -/
def r5_0 : List PS := [.mk (some 2) (.assign (.const (.bool false))) none]
def r5_1 : List PS := [.mk (some 7) (.move (.tmp 0)) none,
  .mk (some 8) (.call ⟨(.builtin .len), #[(.tmp 7)], #[22]⟩) none,
  .mk (some 9) (.binOp .gtr 3 (.tmp 8) (.const (.int .i64 200)) 3) none]
def r5_2 : List PS := [.mk (some 10) (.call ⟨(.value (.func 6)), #[], #[]⟩) none,
  .mk (some 2) (.assign (.tmp 10)) none]
def r5_3 : List PS := [.mk (some 11) (.call ⟨(.value (.func 7)), #[], #[]⟩) none,
  .mk (some 3) (.assign (.tmp 11)) none]
def r5_4 : List PS := [.mk (some 12) (.move (.tmp 3)) none,
  .mk (some 13) (.move (.tmp 0)) none,
  .mk (some 14) (.call ⟨(.value (.func 15)), #[(.tmp 12), (.tmp 13)], #[24, 22]⟩) none,
  .mk (some 4) (.assign (.tmp 14)) none]
def r5_5 : List PS := [.mk (some 15) (.move (.tmp 0)) none,
  .mk (some 16) (.call ⟨(.value (.func 17)), #[(.tmp 15)], #[22]⟩) none,
  .mk (some 17) (.move (.tmp 4)) none,
  .mk (some 18) (.call ⟨(.value (.func 17)), #[(.tmp 17)], #[22]⟩) none,
  .mk (some 5) (.assign (.tmp 16)) none,
  .mk (some 6) (.assign (.tmp 18)) none]
def r5_6 : List PS := [.mk (some 19) (.move (.tmp 5)) none,
  .mk (some 20) (.call ⟨(.value (.func 18)), #[(.tmp 19)], #[22]⟩) none]
def r5_7 : List PS := [.mk (some 21) (.move (.tmp 6)) none,
  .mk (some 22) (.call ⟨(.value (.func 18)), #[(.tmp 21)], #[22]⟩) none]
def r5_8 : List PS := [.mk (some 23) (.move (.tmp 3)) none,
  .mk (some 24) (.move (.tmp 4)) none,
  .mk (some 25) (.call ⟨(.value (.func 10)), #[(.tmp 23), (.tmp 24)], #[24, 22]⟩) none,
  .mk (some 26) (.move (.tmp 25)) none,
  .mk (some 27) (.move (.tmp 5)) (some (26, true)),
  .mk (some 28) (.move (.tmp 6)) (some (26, true)),
  .mk (some 29) (.call ⟨(.value (.func 12)), #[(.tmp 27), (.tmp 28)], #[22, 22]⟩) (some (26, true)),
  .mk (some 30) (.pick (.tmp 26) (.tmp 29) (.const (.bool false))) none,
  .mk (some 31) (.move (.tmp 30)) none,
  .mk (some 32) (.move (.tmp 3)) (some (31, true)),
  .mk (some 33) (.move (.tmp 4)) (some (31, true)),
  .mk (some 34) (.call ⟨(.value (.func 15)), #[(.tmp 32), (.tmp 33)], #[24, 22]⟩) (some (31, true)),
  .mk (some 35) (.move (.tmp 4)) (some (31, true)),
  .mk (some 36) (.call ⟨(.value (.func 12)), #[(.tmp 34), (.tmp 35)], #[22, 22]⟩) (some (31, true)),
  .mk (some 37) (.pick (.tmp 31) (.tmp 36) (.const (.bool false))) none,
  .mk (some 38) (.move (.tmp 37)) none,
  .mk (some 39) (.call ⟨(.value (.func 6)), #[], #[]⟩) (some (38, true)),
  .mk (some 40) (.pick (.tmp 38) (.tmp 39) (.const (.bool false))) none,
  .mk (some 2) (.assign (.tmp 40)) none]
def c5 : PC := (.seq (.reg false r5_0) (.seq (.seq (.reg false r5_1) (.cond (.tmp 9) (.seq (.reg false r5_2) .ret) .skip)) (.seq (.reg false r5_3) (.seq (.reg false r5_4) (.seq (.reg false r5_5) (.seq (.reg false r5_6) (.seq (.reg false r5_7) (.seq (.reg false r5_8) .ret))))))))
theorem e5 {args : List PV} {h : Heap} {K : PV → Heap → Prop} (hl : args.length = 1) (s : pwp Try.prog [] c5 (fin Try.prog [.tmp 2] h K) (slots0 (olds args)) h) : CanP Try.prog 5 args h K :=
  can_of2 (n := 41) mixed Try.func5 rfl (by kernel_rfl) (by rw [hl]; kernel_rfl) rfl (by kernel_rfl) s
end Go.Proofs.Ythcpammiioogdaa
