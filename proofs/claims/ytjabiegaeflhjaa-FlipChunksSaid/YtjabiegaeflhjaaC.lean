/-
  The functions that the statements of this seat reach, told in short, and facts on their types. Printed by this project's own program.
  Conditions: none.
-/
import Derived.Test.YtjabiegaeflhjaaPmO
import Derived.Test.YtjabiegaeflhjaaProg
import Derived.KernelRfl
namespace Go.Proofs.Ytjabiegaeflhjaa
open Go.Pm
set_option maxRecDepth 100000
set_option linter.unusedVariables false
theorem mixed : Try.prog.follows .mixedOrders = true := by kernel_rfl
theorem tag3 : tag Try.prog 3 = some false := by kernel_rfl
theorem tsz3 : tsz Try.prog 3 = some 1 := by kernel_rfl
theorem und3 : und Try.prog 3 = true := by kernel_rfl
theorem ik3 : ik Try.prog 3 = some .i64 := by kernel_rfl
theorem kd3 : kd Try.prog 3 = none := by kernel_rfl
theorem esz3 : esz Try.prog 3 = none := by kernel_rfl
theorem zc3 : zc Try.prog 3 = some [.int .i64 0] := by kernel_rfl
theorem ars3 : ars Try.prog 3 = none := by kernel_rfl
theorem tag4 : tag Try.prog 4 = some false := by kernel_rfl
theorem tsz4 : tsz Try.prog 4 = some 1 := by kernel_rfl
theorem und4 : und Try.prog 4 = true := by kernel_rfl
theorem ik4 : ik Try.prog 4 = none := by kernel_rfl
theorem kd4 : kd Try.prog 4 = some 3 := by kernel_rfl
theorem esz4 : esz Try.prog 4 = none := by kernel_rfl
theorem zc4 : zc Try.prog 4 = some [.bool false] := by kernel_rfl
theorem ars4 : ars Try.prog 4 = none := by kernel_rfl
theorem tag22 : tag Try.prog 22 = some false := by kernel_rfl
theorem tsz22 : tsz Try.prog 22 = some 1 := by kernel_rfl
theorem und22 : und Try.prog 22 = true := by kernel_rfl
theorem ik22 : ik Try.prog 22 = none := by kernel_rfl
theorem kd22 : kd Try.prog 22 = some 1 := by kernel_rfl
theorem esz22 : esz Try.prog 22 = some 1 := by kernel_rfl
theorem elt22 : elt Try.prog 22 = some 3 := by kernel_rfl
theorem zc22 : zc Try.prog 22 = some [.nils] := by kernel_rfl
theorem ars22 : ars Try.prog 22 = none := by kernel_rfl
theorem eli22 : eli Try.prog 22 = some (1, 8, [.int .i64 0]) := by kernel_rfl
theorem tag24 : tag Try.prog 24 = some false := by kernel_rfl
theorem tsz24 : tsz Try.prog 24 = some 1 := by kernel_rfl
theorem und24 : und Try.prog 24 = true := by kernel_rfl
theorem ik24 : ik Try.prog 24 = none := by kernel_rfl
theorem kd24 : kd Try.prog 24 = some 2 := by kernel_rfl
theorem esz24 : esz Try.prog 24 = none := by kernel_rfl
theorem zc24 : zc Try.prog 24 = some [.nilp] := by kernel_rfl
theorem ars24 : ars Try.prog 24 = none := by kernel_rfl
theorem tag30 : tag Try.prog 30 = some false := by kernel_rfl
theorem tsz30 : tsz Try.prog 30 = some 1 := by kernel_rfl
theorem und30 : und Try.prog 30 = true := by kernel_rfl
theorem ik30 : ik Try.prog 30 = none := by kernel_rfl
theorem kd30 : kd Try.prog 30 = some 1 := by kernel_rfl
theorem esz30 : esz Try.prog 30 = some 2 := by kernel_rfl
theorem elt30 : elt Try.prog 30 = some 32 := by kernel_rfl
theorem zc30 : zc Try.prog 30 = some [.nils] := by kernel_rfl
theorem ars30 : ars Try.prog 30 = none := by kernel_rfl
theorem eli30 : eli Try.prog 30 = some (2, 16, [.int .i64 0, .int .i64 0]) := by kernel_rfl
theorem tag32 : tag Try.prog 32 = some true := by kernel_rfl
theorem tsz32 : tsz Try.prog 32 = some 2 := by kernel_rfl
theorem und32 : und Try.prog 32 = true := by kernel_rfl
theorem ik32 : ik Try.prog 32 = none := by kernel_rfl
theorem kd32 : kd Try.prog 32 = some 14 := by kernel_rfl
theorem esz32 : esz Try.prog 32 = none := by kernel_rfl
theorem zc32 : zc Try.prog 32 = some [.int .i64 0, .int .i64 0] := by kernel_rfl
theorem ars32 : ars Try.prog 32 = none := by kernel_rfl
theorem fld32_0 : fld Try.prog 32 0 = some (0, false, 1) := by kernel_rfl
theorem fld32_1 : fld Try.prog 32 1 = some (1, false, 1) := by kernel_rfl
theorem plc32 : plc Try.prog 32 = some fun i => [(0, 1), (1, 1)][i]? := by kernel_rfl
theorem tag36 : tag Try.prog 36 = some false := by kernel_rfl
theorem tsz36 : tsz Try.prog 36 = some 1 := by kernel_rfl
theorem und36 : und Try.prog 36 = true := by kernel_rfl
theorem ik36 : ik Try.prog 36 = none := by kernel_rfl
theorem kd36 : kd Try.prog 36 = none := by kernel_rfl
theorem esz36 : esz Try.prog 36 = none := by kernel_rfl
theorem zc36 : zc Try.prog 36 = some [.nilf] := by kernel_rfl
theorem ars36 : ars Try.prog 36 = none := by kernel_rfl
theorem tag42 : tag Try.prog 42 = some false := by kernel_rfl
theorem tsz42 : tsz Try.prog 42 = some 1 := by kernel_rfl
theorem und42 : und Try.prog 42 = true := by kernel_rfl
theorem ik42 : ik Try.prog 42 = none := by kernel_rfl
theorem kd42 : kd Try.prog 42 = some 2 := by kernel_rfl
theorem esz42 : esz Try.prog 42 = none := by kernel_rfl
theorem zc42 : zc Try.prog 42 = some [.nilp] := by kernel_rfl
theorem ars42 : ars Try.prog 42 = none := by kernel_rfl
theorem tag43 : tag Try.prog 43 = some false := by kernel_rfl
theorem tsz43 : tsz Try.prog 43 = some 1 := by kernel_rfl
theorem und43 : und Try.prog 43 = true := by kernel_rfl
theorem ik43 : ik Try.prog 43 = some .i64 := by kernel_rfl
theorem kd43 : kd Try.prog 43 = none := by kernel_rfl
theorem esz43 : esz Try.prog 43 = none := by kernel_rfl
theorem zc43 : zc Try.prog 43 = some [.int .i64 0] := by kernel_rfl
theorem ars43 : ars Try.prog 43 = none := by kernel_rfl
theorem tag46 : tag Try.prog 46 = some false := by kernel_rfl
theorem tsz46 : tsz Try.prog 46 = some 1 := by kernel_rfl
theorem und46 : und Try.prog 46 = true := by kernel_rfl
theorem ik46 : ik Try.prog 46 = none := by kernel_rfl
theorem kd46 : kd Try.prog 46 = some 1 := by kernel_rfl
theorem esz46 : esz Try.prog 46 = some 3 := by kernel_rfl
theorem elt46 : elt Try.prog 46 = some 72 := by kernel_rfl
theorem zc46 : zc Try.prog 46 = some [.nils] := by kernel_rfl
theorem ars46 : ars Try.prog 46 = none := by kernel_rfl
theorem eli46 : eli Try.prog 46 = some (3, 24, [.int .i64 0, .int .i64 0, .int .i64 0]) := by kernel_rfl
theorem tag49 : tag Try.prog 49 = some true := by kernel_rfl
theorem tsz49 : tsz Try.prog 49 = some 2 := by kernel_rfl
theorem und49 : und Try.prog 49 = true := by kernel_rfl
theorem ik49 : ik Try.prog 49 = none := by kernel_rfl
theorem kd49 : kd Try.prog 49 = none := by kernel_rfl
theorem esz49 : esz Try.prog 49 = none := by kernel_rfl
theorem zc49 : zc Try.prog 49 = some [.nilp, .nilp] := by kernel_rfl
theorem ars49 : ars Try.prog 49 = none := by kernel_rfl
theorem fld49_0 : fld Try.prog 49 0 = some (0, false, 1) := by kernel_rfl
theorem fld49_1 : fld Try.prog 49 1 = some (1, false, 1) := by kernel_rfl
theorem plc49 : plc Try.prog 49 = some fun i => [(0, 1), (1, 1)][i]? := by kernel_rfl
theorem tag51 : tag Try.prog 51 = some true := by kernel_rfl
theorem tsz51 : tsz Try.prog 51 = some 2 := by kernel_rfl
theorem und51 : und Try.prog 51 = true := by kernel_rfl
theorem ik51 : ik Try.prog 51 = none := by kernel_rfl
theorem kd51 : kd Try.prog 51 = none := by kernel_rfl
theorem esz51 : esz Try.prog 51 = none := by kernel_rfl
theorem zc51 : zc Try.prog 51 = some [.nilp, .nilp] := by kernel_rfl
theorem ars51 : ars Try.prog 51 = none := by kernel_rfl
theorem fld51_0 : fld Try.prog 51 0 = some (0, true, 2) := by kernel_rfl
theorem plc51 : plc Try.prog 51 = some fun i => [(0, 2)][i]? := by kernel_rfl
theorem tag53 : tag Try.prog 53 = some false := by kernel_rfl
theorem tsz53 : tsz Try.prog 53 = some 1 := by kernel_rfl
theorem und53 : und Try.prog 53 = true := by kernel_rfl
theorem ik53 : ik Try.prog 53 = none := by kernel_rfl
theorem kd53 : kd Try.prog 53 = none := by kernel_rfl
theorem esz53 : esz Try.prog 53 = none := by kernel_rfl
theorem zc53 : zc Try.prog 53 = some [.nilf] := by kernel_rfl
theorem ars53 : ars Try.prog 53 = none := by kernel_rfl
theorem tag55 : tag Try.prog 55 = some false := by kernel_rfl
theorem tsz55 : tsz Try.prog 55 = some 1 := by kernel_rfl
theorem und55 : und Try.prog 55 = true := by kernel_rfl
theorem ik55 : ik Try.prog 55 = none := by kernel_rfl
theorem kd55 : kd Try.prog 55 = some 1 := by kernel_rfl
theorem esz55 : esz Try.prog 55 = some 1 := by kernel_rfl
theorem elt55 : elt Try.prog 55 = some 53 := by kernel_rfl
theorem zc55 : zc Try.prog 55 = some [.nils] := by kernel_rfl
theorem ars55 : ars Try.prog 55 = none := by kernel_rfl
theorem eli55 : eli Try.prog 55 = some (1, 8, [.nilf]) := by kernel_rfl
theorem tag61 : tag Try.prog 61 = some false := by kernel_rfl
theorem tsz61 : tsz Try.prog 61 = some 1 := by kernel_rfl
theorem und61 : und Try.prog 61 = true := by kernel_rfl
theorem ik61 : ik Try.prog 61 = none := by kernel_rfl
theorem kd61 : kd Try.prog 61 = some 1 := by kernel_rfl
theorem esz61 : esz Try.prog 61 = some 128 := by kernel_rfl
theorem elt61 : elt Try.prog 61 = some 67 := by kernel_rfl
theorem zc61 : zc Try.prog 61 = some [.nils] := by kernel_rfl
theorem ars61 : ars Try.prog 61 = none := by kernel_rfl
theorem eli61 : eli Try.prog 61 = some (128, 1024, List.replicate 128 (.int .i64 0)) := by kernel_rfl
theorem tag63 : tag Try.prog 63 = some true := by kernel_rfl
theorem tsz63 : tsz Try.prog 63 = some 2 := by kernel_rfl
theorem und63 : und Try.prog 63 = true := by kernel_rfl
theorem ik63 : ik Try.prog 63 = none := by kernel_rfl
theorem kd63 : kd Try.prog 63 = none := by kernel_rfl
theorem esz63 : esz Try.prog 63 = none := by kernel_rfl
theorem zc63 : zc Try.prog 63 = some [.nils, .nils] := by kernel_rfl
theorem ars63 : ars Try.prog 63 = none := by kernel_rfl
theorem fld63_0 : fld Try.prog 63 0 = some (0, false, 1) := by kernel_rfl
theorem fld63_1 : fld Try.prog 63 1 = some (1, false, 1) := by kernel_rfl
theorem plc63 : plc Try.prog 63 = some fun i => [(0, 1), (1, 1)][i]? := by kernel_rfl
theorem tag65 : tag Try.prog 65 = some true := by kernel_rfl
theorem tsz65 : tsz Try.prog 65 = some 4 := by kernel_rfl
theorem und65 : und Try.prog 65 = true := by kernel_rfl
theorem ik65 : ik Try.prog 65 = none := by kernel_rfl
theorem kd65 : kd Try.prog 65 = none := by kernel_rfl
theorem esz65 : esz Try.prog 65 = none := by kernel_rfl
theorem zc65 : zc Try.prog 65 = some [.nils, .nils, .int .i64 0, .bool false] := by kernel_rfl
theorem ars65 : ars Try.prog 65 = none := by kernel_rfl
theorem fld65_0 : fld Try.prog 65 0 = some (0, true, 2) := by kernel_rfl
theorem fld65_1 : fld Try.prog 65 1 = some (2, false, 1) := by kernel_rfl
theorem fld65_2 : fld Try.prog 65 2 = some (3, false, 1) := by kernel_rfl
theorem plc65 : plc Try.prog 65 = some fun i => [(0, 2), (2, 1), (3, 1)][i]? := by kernel_rfl
theorem tag67 : tag Try.prog 67 = some true := by kernel_rfl
theorem tsz67 : tsz Try.prog 67 = some 128 := by kernel_rfl
theorem und67 : und Try.prog 67 = true := by kernel_rfl
theorem ik67 : ik Try.prog 67 = none := by kernel_rfl
theorem kd67 : kd Try.prog 67 = some 266 := by kernel_rfl
theorem esz67 : esz Try.prog 67 = none := by kernel_rfl
theorem zc67 : zc Try.prog 67 = some (List.replicate 128 (.int .i64 0)) := by kernel_rfl
theorem ars67 : ars Try.prog 67 = some (128, 1, false) := by kernel_rfl
theorem plc67 : plc Try.prog 67 = some fun i => some (i * 1, 1) := by kernel_rfl
theorem tag72 : tag Try.prog 72 = some true := by kernel_rfl
theorem tsz72 : tsz Try.prog 72 = some 3 := by kernel_rfl
theorem und72 : und Try.prog 72 = true := by kernel_rfl
theorem ik72 : ik Try.prog 72 = none := by kernel_rfl
theorem kd72 : kd Try.prog 72 = some 16 := by kernel_rfl
theorem esz72 : esz Try.prog 72 = none := by kernel_rfl
theorem zc72 : zc Try.prog 72 = some [.int .i64 0, .int .i64 0, .int .i64 0] := by kernel_rfl
theorem ars72 : ars Try.prog 72 = none := by kernel_rfl
theorem fld72_0 : fld Try.prog 72 0 = some (0, false, 1) := by kernel_rfl
theorem fld72_1 : fld Try.prog 72 1 = some (1, false, 1) := by kernel_rfl
theorem fld72_2 : fld Try.prog 72 2 = some (2, false, 1) := by kernel_rfl
theorem plc72 : plc Try.prog 72 = some fun i => [(0, 1), (1, 1), (2, 1)][i]? := by kernel_rfl
theorem tag77 : tag Try.prog 77 = some false := by kernel_rfl
theorem tsz77 : tsz Try.prog 77 = some 1 := by kernel_rfl
theorem und77 : und Try.prog 77 = true := by kernel_rfl
theorem ik77 : ik Try.prog 77 = none := by kernel_rfl
theorem kd77 : kd Try.prog 77 = none := by kernel_rfl
theorem esz77 : esz Try.prog 77 = none := by kernel_rfl
theorem zc77 : zc Try.prog 77 = some [.nilf] := by kernel_rfl
theorem ars77 : ars Try.prog 77 = none := by kernel_rfl
theorem tag78 : tag Try.prog 78 = some false := by kernel_rfl
theorem tsz78 : tsz Try.prog 78 = some 1 := by kernel_rfl
theorem und78 : und Try.prog 78 = true := by kernel_rfl
theorem ik78 : ik Try.prog 78 = none := by kernel_rfl
theorem kd78 : kd Try.prog 78 = some 1 := by kernel_rfl
theorem esz78 : esz Try.prog 78 = some 2 := by kernel_rfl
theorem elt78 : elt Try.prog 78 = some 81 := by kernel_rfl
theorem zc78 : zc Try.prog 78 = some [.nils] := by kernel_rfl
theorem ars78 : ars Try.prog 78 = none := by kernel_rfl
theorem eli78 : eli Try.prog 78 = some (2, 16, [.int .i64 0, .int .i64 0]) := by kernel_rfl
theorem tag81 : tag Try.prog 81 = some true := by kernel_rfl
theorem tsz81 : tsz Try.prog 81 = some 2 := by kernel_rfl
theorem und81 : und Try.prog 81 = true := by kernel_rfl
theorem ik81 : ik Try.prog 81 = none := by kernel_rfl
theorem kd81 : kd Try.prog 81 = some 14 := by kernel_rfl
theorem esz81 : esz Try.prog 81 = none := by kernel_rfl
theorem zc81 : zc Try.prog 81 = some [.int .i64 0, .int .i64 0] := by kernel_rfl
theorem ars81 : ars Try.prog 81 = none := by kernel_rfl
theorem fld81_0 : fld Try.prog 81 0 = some (0, false, 1) := by kernel_rfl
theorem fld81_1 : fld Try.prog 81 1 = some (1, false, 1) := by kernel_rfl
theorem plc81 : plc Try.prog 81 = some fun i => [(0, 1), (1, 1)][i]? := by kernel_rfl
theorem tag84 : tag Try.prog 84 = some false := by kernel_rfl
theorem tsz84 : tsz Try.prog 84 = some 1 := by kernel_rfl
theorem und84 : und Try.prog 84 = true := by kernel_rfl
theorem ik84 : ik Try.prog 84 = none := by kernel_rfl
theorem kd84 : kd Try.prog 84 = some 2 := by kernel_rfl
theorem esz84 : esz Try.prog 84 = none := by kernel_rfl
theorem zc84 : zc Try.prog 84 = some [.nilp] := by kernel_rfl
theorem ars84 : ars Try.prog 84 = none := by kernel_rfl
theorem tag85 : tag Try.prog 85 = some false := by kernel_rfl
theorem tsz85 : tsz Try.prog 85 = some 1 := by kernel_rfl
theorem und85 : und Try.prog 85 = true := by kernel_rfl
theorem ik85 : ik Try.prog 85 = none := by kernel_rfl
theorem kd85 : kd Try.prog 85 = none := by kernel_rfl
theorem esz85 : esz Try.prog 85 = none := by kernel_rfl
theorem zc85 : zc Try.prog 85 = some [.nilf] := by kernel_rfl
theorem ars85 : ars Try.prog 85 = none := by kernel_rfl
theorem tag86 : tag Try.prog 86 = some false := by kernel_rfl
theorem tsz86 : tsz Try.prog 86 = some 1 := by kernel_rfl
theorem und86 : und Try.prog 86 = true := by kernel_rfl
theorem ik86 : ik Try.prog 86 = none := by kernel_rfl
theorem kd86 : kd Try.prog 86 = some 1 := by kernel_rfl
theorem esz86 : esz Try.prog 86 = some 2 := by kernel_rfl
theorem elt86 : elt Try.prog 86 = some 81 := by kernel_rfl
theorem zc86 : zc Try.prog 86 = some [.nils] := by kernel_rfl
theorem ars86 : ars Try.prog 86 = none := by kernel_rfl
theorem eli86 : eli Try.prog 86 = some (2, 16, [.int .i64 0, .int .i64 0]) := by kernel_rfl
theorem tag89 : tag Try.prog 89 = some false := by kernel_rfl
theorem tsz89 : tsz Try.prog 89 = some 1 := by kernel_rfl
theorem und89 : und Try.prog 89 = true := by kernel_rfl
theorem ik89 : ik Try.prog 89 = none := by kernel_rfl
theorem kd89 : kd Try.prog 89 = some 1 := by kernel_rfl
theorem esz89 : esz Try.prog 89 = some 1 := by kernel_rfl
theorem elt89 : elt Try.prog 89 = some 4 := by kernel_rfl
theorem zc89 : zc Try.prog 89 = some [.nils] := by kernel_rfl
theorem ars89 : ars Try.prog 89 = none := by kernel_rfl
theorem eli89 : eli Try.prog 89 = some (1, 1, [.bool false]) := by kernel_rfl
theorem tag92 : tag Try.prog 92 = some false := by kernel_rfl
theorem tsz92 : tsz Try.prog 92 = some 1 := by kernel_rfl
theorem und92 : und Try.prog 92 = true := by kernel_rfl
theorem ik92 : ik Try.prog 92 = some .u64 := by kernel_rfl
theorem kd92 : kd Try.prog 92 = none := by kernel_rfl
theorem esz92 : esz Try.prog 92 = none := by kernel_rfl
theorem zc92 : zc Try.prog 92 = some [.int .u64 0] := by kernel_rfl
theorem ars92 : ars Try.prog 92 = none := by kernel_rfl
theorem ft : (tag Try.prog 3 = some false) ∧
    (tsz Try.prog 3 = some 1) ∧
    (und Try.prog 3 = true) ∧
    (ik Try.prog 3 = some .i64) ∧
    (kd Try.prog 3 = none) ∧
    (esz Try.prog 3 = none) ∧
    (zc Try.prog 3 = some [.int .i64 0]) ∧
    (ars Try.prog 3 = none) ∧
    (tag Try.prog 4 = some false) ∧
    (tsz Try.prog 4 = some 1) ∧
    (und Try.prog 4 = true) ∧
    (ik Try.prog 4 = none) ∧
    (kd Try.prog 4 = some 3) ∧
    (esz Try.prog 4 = none) ∧
    (zc Try.prog 4 = some [.bool false]) ∧
    (ars Try.prog 4 = none) ∧
    (tag Try.prog 22 = some false) ∧
    (tsz Try.prog 22 = some 1) ∧
    (und Try.prog 22 = true) ∧
    (ik Try.prog 22 = none) ∧
    (kd Try.prog 22 = some 1) ∧
    (esz Try.prog 22 = some 1) ∧
    (elt Try.prog 22 = some 3) ∧
    (zc Try.prog 22 = some [.nils]) ∧
    (ars Try.prog 22 = none) ∧
    (eli Try.prog 22 = some (1, 8, [.int .i64 0])) ∧
    (tag Try.prog 24 = some false) ∧
    (tsz Try.prog 24 = some 1) ∧
    (und Try.prog 24 = true) ∧
    (ik Try.prog 24 = none) ∧
    (kd Try.prog 24 = some 2) ∧
    (esz Try.prog 24 = none) ∧
    (zc Try.prog 24 = some [.nilp]) ∧
    (ars Try.prog 24 = none) ∧
    (tag Try.prog 30 = some false) ∧
    (tsz Try.prog 30 = some 1) ∧
    (und Try.prog 30 = true) ∧
    (ik Try.prog 30 = none) ∧
    (kd Try.prog 30 = some 1) ∧
    (esz Try.prog 30 = some 2) ∧
    (elt Try.prog 30 = some 32) ∧
    (zc Try.prog 30 = some [.nils]) ∧
    (ars Try.prog 30 = none) ∧
    (eli Try.prog 30 = some (2, 16, [.int .i64 0, .int .i64 0])) ∧
    (tag Try.prog 32 = some true) ∧
    (tsz Try.prog 32 = some 2) ∧
    (und Try.prog 32 = true) ∧
    (ik Try.prog 32 = none) ∧
    (kd Try.prog 32 = some 14) ∧
    (esz Try.prog 32 = none) ∧
    (zc Try.prog 32 = some [.int .i64 0, .int .i64 0]) ∧
    (ars Try.prog 32 = none) ∧
    (fld Try.prog 32 0 = some (0, false, 1)) ∧
    (fld Try.prog 32 1 = some (1, false, 1)) ∧
    (plc Try.prog 32 = some fun i => [(0, 1), (1, 1)][i]?) ∧
    (tag Try.prog 36 = some false) ∧
    (tsz Try.prog 36 = some 1) ∧
    (und Try.prog 36 = true) ∧
    (ik Try.prog 36 = none) ∧
    (kd Try.prog 36 = none) ∧
    (esz Try.prog 36 = none) ∧
    (zc Try.prog 36 = some [.nilf]) ∧
    (ars Try.prog 36 = none) ∧
    (tag Try.prog 42 = some false) ∧
    (tsz Try.prog 42 = some 1) ∧
    (und Try.prog 42 = true) ∧
    (ik Try.prog 42 = none) ∧
    (kd Try.prog 42 = some 2) ∧
    (esz Try.prog 42 = none) ∧
    (zc Try.prog 42 = some [.nilp]) ∧
    (ars Try.prog 42 = none) ∧
    (tag Try.prog 43 = some false) ∧
    (tsz Try.prog 43 = some 1) ∧
    (und Try.prog 43 = true) ∧
    (ik Try.prog 43 = some .i64) ∧
    (kd Try.prog 43 = none) ∧
    (esz Try.prog 43 = none) ∧
    (zc Try.prog 43 = some [.int .i64 0]) ∧
    (ars Try.prog 43 = none) ∧
    (tag Try.prog 46 = some false) ∧
    (tsz Try.prog 46 = some 1) ∧
    (und Try.prog 46 = true) ∧
    (ik Try.prog 46 = none) ∧
    (kd Try.prog 46 = some 1) ∧
    (esz Try.prog 46 = some 3) ∧
    (elt Try.prog 46 = some 72) ∧
    (zc Try.prog 46 = some [.nils]) ∧
    (ars Try.prog 46 = none) ∧
    (eli Try.prog 46 = some (3, 24, [.int .i64 0, .int .i64 0, .int .i64 0])) ∧
    (tag Try.prog 49 = some true) ∧
    (tsz Try.prog 49 = some 2) ∧
    (und Try.prog 49 = true) ∧
    (ik Try.prog 49 = none) ∧
    (kd Try.prog 49 = none) ∧
    (esz Try.prog 49 = none) ∧
    (zc Try.prog 49 = some [.nilp, .nilp]) ∧
    (ars Try.prog 49 = none) ∧
    (fld Try.prog 49 0 = some (0, false, 1)) ∧
    (fld Try.prog 49 1 = some (1, false, 1)) ∧
    (plc Try.prog 49 = some fun i => [(0, 1), (1, 1)][i]?) ∧
    (tag Try.prog 51 = some true) ∧
    (tsz Try.prog 51 = some 2) ∧
    (und Try.prog 51 = true) ∧
    (ik Try.prog 51 = none) ∧
    (kd Try.prog 51 = none) ∧
    (esz Try.prog 51 = none) ∧
    (zc Try.prog 51 = some [.nilp, .nilp]) ∧
    (ars Try.prog 51 = none) ∧
    (fld Try.prog 51 0 = some (0, true, 2)) ∧
    (plc Try.prog 51 = some fun i => [(0, 2)][i]?) ∧
    (tag Try.prog 53 = some false) ∧
    (tsz Try.prog 53 = some 1) ∧
    (und Try.prog 53 = true) ∧
    (ik Try.prog 53 = none) ∧
    (kd Try.prog 53 = none) ∧
    (esz Try.prog 53 = none) ∧
    (zc Try.prog 53 = some [.nilf]) ∧
    (ars Try.prog 53 = none) ∧
    (tag Try.prog 55 = some false) ∧
    (tsz Try.prog 55 = some 1) ∧
    (und Try.prog 55 = true) ∧
    (ik Try.prog 55 = none) ∧
    (kd Try.prog 55 = some 1) ∧
    (esz Try.prog 55 = some 1) ∧
    (elt Try.prog 55 = some 53) ∧
    (zc Try.prog 55 = some [.nils]) ∧
    (ars Try.prog 55 = none) ∧
    (eli Try.prog 55 = some (1, 8, [.nilf])) ∧
    (tag Try.prog 61 = some false) ∧
    (tsz Try.prog 61 = some 1) ∧
    (und Try.prog 61 = true) ∧
    (ik Try.prog 61 = none) ∧
    (kd Try.prog 61 = some 1) ∧
    (esz Try.prog 61 = some 128) ∧
    (elt Try.prog 61 = some 67) ∧
    (zc Try.prog 61 = some [.nils]) ∧
    (ars Try.prog 61 = none) ∧
    (eli Try.prog 61 = some (128, 1024, List.replicate 128 (.int .i64 0))) ∧
    (tag Try.prog 63 = some true) ∧
    (tsz Try.prog 63 = some 2) ∧
    (und Try.prog 63 = true) ∧
    (ik Try.prog 63 = none) ∧
    (kd Try.prog 63 = none) ∧
    (esz Try.prog 63 = none) ∧
    (zc Try.prog 63 = some [.nils, .nils]) ∧
    (ars Try.prog 63 = none) ∧
    (fld Try.prog 63 0 = some (0, false, 1)) ∧
    (fld Try.prog 63 1 = some (1, false, 1)) ∧
    (plc Try.prog 63 = some fun i => [(0, 1), (1, 1)][i]?) ∧
    (tag Try.prog 65 = some true) ∧
    (tsz Try.prog 65 = some 4) ∧
    (und Try.prog 65 = true) ∧
    (ik Try.prog 65 = none) ∧
    (kd Try.prog 65 = none) ∧
    (esz Try.prog 65 = none) ∧
    (zc Try.prog 65 = some [.nils, .nils, .int .i64 0, .bool false]) ∧
    (ars Try.prog 65 = none) ∧
    (fld Try.prog 65 0 = some (0, true, 2)) ∧
    (fld Try.prog 65 1 = some (2, false, 1)) ∧
    (fld Try.prog 65 2 = some (3, false, 1)) ∧
    (plc Try.prog 65 = some fun i => [(0, 2), (2, 1), (3, 1)][i]?) ∧
    (tag Try.prog 67 = some true) ∧
    (tsz Try.prog 67 = some 128) ∧
    (und Try.prog 67 = true) ∧
    (ik Try.prog 67 = none) ∧
    (kd Try.prog 67 = some 266) ∧
    (esz Try.prog 67 = none) ∧
    (zc Try.prog 67 = some (List.replicate 128 (.int .i64 0))) ∧
    (ars Try.prog 67 = some (128, 1, false)) ∧
    (plc Try.prog 67 = some fun i => some (i * 1, 1)) ∧
    (tag Try.prog 72 = some true) ∧
    (tsz Try.prog 72 = some 3) ∧
    (und Try.prog 72 = true) ∧
    (ik Try.prog 72 = none) ∧
    (kd Try.prog 72 = some 16) ∧
    (esz Try.prog 72 = none) ∧
    (zc Try.prog 72 = some [.int .i64 0, .int .i64 0, .int .i64 0]) ∧
    (ars Try.prog 72 = none) ∧
    (fld Try.prog 72 0 = some (0, false, 1)) ∧
    (fld Try.prog 72 1 = some (1, false, 1)) ∧
    (fld Try.prog 72 2 = some (2, false, 1)) ∧
    (plc Try.prog 72 = some fun i => [(0, 1), (1, 1), (2, 1)][i]?) ∧
    (tag Try.prog 77 = some false) ∧
    (tsz Try.prog 77 = some 1) ∧
    (und Try.prog 77 = true) ∧
    (ik Try.prog 77 = none) ∧
    (kd Try.prog 77 = none) ∧
    (esz Try.prog 77 = none) ∧
    (zc Try.prog 77 = some [.nilf]) ∧
    (ars Try.prog 77 = none) ∧
    (tag Try.prog 78 = some false) ∧
    (tsz Try.prog 78 = some 1) ∧
    (und Try.prog 78 = true) ∧
    (ik Try.prog 78 = none) ∧
    (kd Try.prog 78 = some 1) ∧
    (esz Try.prog 78 = some 2) ∧
    (elt Try.prog 78 = some 81) ∧
    (zc Try.prog 78 = some [.nils]) ∧
    (ars Try.prog 78 = none) ∧
    (eli Try.prog 78 = some (2, 16, [.int .i64 0, .int .i64 0])) ∧
    (tag Try.prog 81 = some true) ∧
    (tsz Try.prog 81 = some 2) ∧
    (und Try.prog 81 = true) ∧
    (ik Try.prog 81 = none) ∧
    (kd Try.prog 81 = some 14) ∧
    (esz Try.prog 81 = none) ∧
    (zc Try.prog 81 = some [.int .i64 0, .int .i64 0]) ∧
    (ars Try.prog 81 = none) ∧
    (fld Try.prog 81 0 = some (0, false, 1)) ∧
    (fld Try.prog 81 1 = some (1, false, 1)) ∧
    (plc Try.prog 81 = some fun i => [(0, 1), (1, 1)][i]?) ∧
    (tag Try.prog 84 = some false) ∧
    (tsz Try.prog 84 = some 1) ∧
    (und Try.prog 84 = true) ∧
    (ik Try.prog 84 = none) ∧
    (kd Try.prog 84 = some 2) ∧
    (esz Try.prog 84 = none) ∧
    (zc Try.prog 84 = some [.nilp]) ∧
    (ars Try.prog 84 = none) ∧
    (tag Try.prog 85 = some false) ∧
    (tsz Try.prog 85 = some 1) ∧
    (und Try.prog 85 = true) ∧
    (ik Try.prog 85 = none) ∧
    (kd Try.prog 85 = none) ∧
    (esz Try.prog 85 = none) ∧
    (zc Try.prog 85 = some [.nilf]) ∧
    (ars Try.prog 85 = none) ∧
    (tag Try.prog 86 = some false) ∧
    (tsz Try.prog 86 = some 1) ∧
    (und Try.prog 86 = true) ∧
    (ik Try.prog 86 = none) ∧
    (kd Try.prog 86 = some 1) ∧
    (esz Try.prog 86 = some 2) ∧
    (elt Try.prog 86 = some 81) ∧
    (zc Try.prog 86 = some [.nils]) ∧
    (ars Try.prog 86 = none) ∧
    (eli Try.prog 86 = some (2, 16, [.int .i64 0, .int .i64 0])) ∧
    (tag Try.prog 89 = some false) ∧
    (tsz Try.prog 89 = some 1) ∧
    (und Try.prog 89 = true) ∧
    (ik Try.prog 89 = none) ∧
    (kd Try.prog 89 = some 1) ∧
    (esz Try.prog 89 = some 1) ∧
    (elt Try.prog 89 = some 4) ∧
    (zc Try.prog 89 = some [.nils]) ∧
    (ars Try.prog 89 = none) ∧
    (eli Try.prog 89 = some (1, 1, [.bool false])) ∧
    (tag Try.prog 92 = some false) ∧
    (tsz Try.prog 92 = some 1) ∧
    (und Try.prog 92 = true) ∧
    (ik Try.prog 92 = some .u64) ∧
    (kd Try.prog 92 = none) ∧
    (esz Try.prog 92 = none) ∧
    (zc Try.prog 92 = some [.int .u64 0]) ∧
    (ars Try.prog 92 = none) :=
  ⟨tag3, tsz3, und3, ik3, kd3, esz3, zc3, ars3, tag4, tsz4, und4, ik4, kd4, esz4, zc4, ars4, tag22, tsz22, und22, ik22, kd22, esz22, elt22, zc22, ars22, eli22, tag24, tsz24, und24, ik24, kd24, esz24, zc24, ars24, tag30, tsz30, und30, ik30, kd30, esz30, elt30, zc30, ars30, eli30, tag32, tsz32, und32, ik32, kd32, esz32, zc32, ars32, fld32_0, fld32_1, plc32, tag36, tsz36, und36, ik36, kd36, esz36, zc36, ars36, tag42, tsz42, und42, ik42, kd42, esz42, zc42, ars42, tag43, tsz43, und43, ik43, kd43, esz43, zc43, ars43, tag46, tsz46, und46, ik46, kd46, esz46, elt46, zc46, ars46, eli46, tag49, tsz49, und49, ik49, kd49, esz49, zc49, ars49, fld49_0, fld49_1, plc49, tag51, tsz51, und51, ik51, kd51, esz51, zc51, ars51, fld51_0, plc51, tag53, tsz53, und53, ik53, kd53, esz53, zc53, ars53, tag55, tsz55, und55, ik55, kd55, esz55, elt55, zc55, ars55, eli55, tag61, tsz61, und61, ik61, kd61, esz61, elt61, zc61, ars61, eli61, tag63, tsz63, und63, ik63, kd63, esz63, zc63, ars63, fld63_0, fld63_1, plc63, tag65, tsz65, und65, ik65, kd65, esz65, zc65, ars65, fld65_0, fld65_1, fld65_2, plc65, tag67, tsz67, und67, ik67, kd67, esz67, zc67, ars67, plc67, tag72, tsz72, und72, ik72, kd72, esz72, zc72, ars72, fld72_0, fld72_1, fld72_2, plc72, tag77, tsz77, und77, ik77, kd77, esz77, zc77, ars77, tag78, tsz78, und78, ik78, kd78, esz78, elt78, zc78, ars78, eli78, tag81, tsz81, und81, ik81, kd81, esz81, zc81, ars81, fld81_0, fld81_1, plc81, tag84, tsz84, und84, ik84, kd84, esz84, zc84, ars84, tag85, tsz85, und85, ik85, kd85, esz85, zc85, ars85, tag86, tsz86, und86, ik86, kd86, esz86, elt86, zc86, ars86, eli86, tag89, tsz89, und89, ik89, kd89, esz89, elt89, zc89, ars89, eli89, tag92, tsz92, und92, ik92, kd92, esz92, zc92, ars92⟩
/-! ### naskh.trie.may: function 34 -/
def r34_0 : List PS := [.mk (some 2) (.assign (.const (.int .i64 0))) none]
def r34_1 : List PS := [.mk (some 6) (.move (.tmp 0)) none,
  .mk (some 7) (.call ⟨(.builtin .len), #[(.tmp 6)], #[46]⟩) none,
  .mk (some 8) (.binOp .gtr 3 (.tmp 7) (.const (.int .i64 4096)) 3) none]
def r34_2 : List PS := [.mk (some 2) (.assign (.const (.int .i64 6))) none]
def r34_3 : List PS := [.mk (some 3) (.assign (.const (.int .i64 (-1)))) none]
def r34_4 : List PS := [.mk (some 9) (.move (.tmp 0)) none,
  .mk (some 10) (.call ⟨(.builtin .len), #[(.tmp 9)], #[46]⟩) none,
  .mk (some 11) (.move (.const (.int .i64 0))) none]
def r34_5 : List PS := [.mk (some 12) (.binOp .lss 3 (.tmp 11) (.tmp 10) 3) none]
def r34_6 : List PS := [.mk (some 13) (.indexAddr 46 (.tmp 9) (.tmp 11)) none,
  .mk (some 14) (.load 72 (.tmp 13)) none,
  .mk (some 5) (.alloc 72) none,
  .mk none (.store 72 (.tmp 5) (.tmp 14)) none,
  .frz 5]
def r34_7 : List PS := [.mk (some 15) (.fieldAddr 72 (.tmp 5) 0) none,
  .mk (some 16) (.load 3 (.tmp 15)) none,
  .mk (some 17) (.move (.tmp 3)) none,
  .mk (some 18) (.binOp .leq 3 (.tmp 16) (.tmp 17) 3) none,
  .mk (some 19) (.move (.tmp 18)) none,
  .mk (some 20) (.fieldAddr 72 (.tmp 5) 1) (some (19, false)),
  .mk (some 21) (.load 3 (.tmp 20)) (some (19, false)),
  .mk (some 22) (.fieldAddr 72 (.tmp 5) 0) (some (19, false)),
  .mk (some 23) (.load 3 (.tmp 22)) (some (19, false)),
  .mk (some 24) (.binOp .lss 3 (.tmp 21) (.tmp 23) 3) (some (19, false)),
  .mk (some 25) (.pick (.tmp 19) (.const (.bool true)) (.tmp 24)) none,
  .mk (some 26) (.move (.tmp 25)) none,
  .mk (some 27) (.fieldAddr 72 (.tmp 5) 1) (some (26, false)),
  .mk (some 28) (.load 3 (.tmp 27)) (some (26, false)),
  .mk (some 29) (.binOp .gtr 3 (.tmp 28) (.const (.int .i64 1114111)) 3) (some (26, false)),
  .mk (some 30) (.pick (.tmp 26) (.const (.bool true)) (.tmp 29)) none]
def r34_8 : List PS := [.mk (some 2) (.assign (.const (.int .i64 10))) none]
def r34_9 : List PS := [.mk (some 31) (.fieldAddr 72 (.tmp 5) 1) none,
  .mk (some 32) (.load 3 (.tmp 31)) none,
  .mk (some 3) (.assign (.tmp 32)) none]
def r34_10 : List PS := [.mk (some 33) (.binOp .add 3 (.tmp 11) (.const (.int .i64 1)) 3) none,
  .mk (some 11) (.move (.tmp 33)) none]
def r34_11 : List PS := [.mk (some 2) (.assign (.const (.int .i64 0))) none]
def c34 : PC := (.seq (.reg false r34_0) (.seq (.seq (.reg false r34_1) (.cond (.tmp 8) (.seq (.reg false r34_2) .ret) .skip)) (.seq (.reg false r34_3) (.seq (.seq (.reg false r34_4) (.block 0 (.loop (.seq (.reg false r34_5) (.seq (.cond (.tmp 12) .skip (.exit 0)) (.seq (.block 1 (.seq (.reg false r34_6) (.seq (.seq (.reg false r34_7) (.cond (.tmp 30) (.seq (.reg false r34_8) .ret) .skip)) (.reg false r34_9)))) (.reg false r34_10))))))) (.seq (.reg false r34_11) .ret)))))
theorem e34 {args : List PV} {h : Heap} {K : PV → Heap → Prop} (hl : args.length = 1) (s : pwp Try.prog [5] c34 (fin Try.prog [.tmp 2] h K) (slots0 (olds args)) h) : CanP Try.prog 34 args h K :=
  can_of2 (n := 34) mixed Try.func34 rfl (by kernel_rfl) (by rw [hl]; kernel_rfl) rfl (by kernel_rfl) s
/-! ### naskh.trie.even: function 45 -/
def r45_0 : List PS := [.mk (some 2) (.alloc 67) none]
def r45_1 : List PS := [.mk (some 3) (.alloc 67) none]
def r45_2 : List PS := [.mk (some 5) (.move (.const (.int .i64 0))) none]
def r45_3 : List PS := [.mk (some 6) (.binOp .lss 3 (.tmp 5) (.const (.int .i64 128)) 3) none]
def r45_4 : List PS := [.mk (some 7) (.move (.tmp 5)) none,
  .mk (some 4) (.assign (.tmp 7)) none]
def r45_5 : List PS := [.mk (some 8) (.move (.tmp 4)) none,
  .mk (some 9) (.move (.tmp 0)) none,
  .mk (some 10) (.indexAddr 67 (.tmp 3) (.tmp 8)) none,
  .mk none (.store 3 (.tmp 10) (.tmp 9)) none]
def r45_6 : List PS := [.mk (some 11) (.binOp .add 3 (.tmp 5) (.const (.int .i64 1)) 3) none,
  .mk (some 5) (.move (.tmp 11)) none]
def r45_7 : List PS := [.mk (some 12) (.load 67 (.tmp 3)) none,
  .mk none (.store 67 (.tmp 2) (.tmp 12)) none]
def c45 : PC := (.seq (.reg false r45_0) (.seq (.reg false r45_1) (.seq (.seq (.reg false r45_2) (.block 0 (.loop (.seq (.reg false r45_3) (.seq (.cond (.tmp 6) .skip (.exit 0)) (.seq (.block 1 (.seq (.reg false r45_4) (.reg false r45_5))) (.reg false r45_6))))))) (.seq (.reg false r45_7) .ret))))
theorem e45 {args : List PV} {h : Heap} {K : PV → Heap → Prop} (hl : args.length = 1) (s : pwp Try.prog [2, 3] c45 (fin Try.prog [.cell 2 67] h K) (slots0 (olds args)) h) : CanP Try.prog 45 args h K :=
  can_of2 (n := 13) mixed Try.func45 rfl (by kernel_rfl) (by rw [hl]; kernel_rfl) rfl (by kernel_rfl) s
/-! ### naskh.trie.filled: function 35 -/
def r35_0 : List PS := [.mk (some 8) (.alloc 67) none,
  .mk (some 9) (.assign (.const (.int .i64 0))) none]
def r35_1 : List PS := [.mk (some 14) (.move (.tmp 3)) none,
  .mk (some 15) (.call ⟨(.value (.func 45)), #[(.tmp 14)], #[3]⟩) none,
  .mk (some 10) (.alloc 67) none,
  .mk none (.store 67 (.tmp 10) (.tmp 15)) none]
def r35_2 : List PS := [.mk (some 16) (.move (.tmp 1)) none,
  .mk (some 17) (.binOp .mul 3 (.tmp 16) (.const (.int .i64 128)) 3) none,
  .mk (some 11) (.assign (.tmp 17)) none]
def r35_3 : List PS := [.mk (some 18) (.move (.tmp 2)) none,
  .mk (some 19) (.move (.tmp 0)) none,
  .mk (some 20) (.call ⟨(.builtin .len), #[(.tmp 19)], #[46]⟩) none,
  .mk (some 21) (.binOp .lss 3 (.tmp 18) (.tmp 20) 3) none,
  .mk (some 22) (.move (.tmp 21)) none,
  .mk (some 23) (.move (.tmp 0)) (some (22, true)),
  .mk (some 24) (.move (.tmp 2)) (some (22, true)),
  .mk (some 25) (.indexAddr 46 (.tmp 23) (.tmp 24)) (some (22, true)),
  .mk (some 26) (.fieldAddr 72 (.tmp 25) 0) (some (22, true)),
  .mk (some 27) (.load 3 (.tmp 26)) (some (22, true)),
  .mk (some 28) (.move (.tmp 11)) (some (22, true)),
  .mk (some 29) (.binOp .add 3 (.tmp 28) (.const (.int .i64 128)) 3) (some (22, true)),
  .mk (some 30) (.binOp .lss 3 (.tmp 27) (.tmp 29) 3) (some (22, true)),
  .mk (some 31) (.pick (.tmp 22) (.tmp 30) (.const (.bool false))) none]
def r35_4 : List PS := [.mk (some 34) (.move (.tmp 0)) none,
  .mk (some 35) (.move (.tmp 2)) none,
  .mk (some 36) (.indexAddr 46 (.tmp 34) (.tmp 35)) none,
  .mk (some 37) (.load 72 (.tmp 36)) none,
  .mk (some 12) (.alloc 72) none,
  .mk none (.store 72 (.tmp 12) (.tmp 37)) none,
  .frz 12]
def r35_5 : List PS := [.mk (some 38) (.fieldAddr 72 (.tmp 12) 0) none,
  .mk (some 39) (.load 3 (.tmp 38)) none,
  .mk (some 40) (.move (.tmp 11)) none,
  .mk (some 41) (.call ⟨(.builtin .max), #[(.tmp 39), (.tmp 40)], #[3, 3]⟩) none,
  .mk (some 13) (.assign (.tmp 41)) none]
def r35_6 : List PS := [.mk (some 42) (.move (.tmp 13)) none,
  .mk (some 43) (.fieldAddr 72 (.tmp 12) 1) none,
  .mk (some 44) (.load 3 (.tmp 43)) none,
  .mk (some 45) (.move (.tmp 11)) none,
  .mk (some 46) (.binOp .add 3 (.tmp 45) (.const (.int .i64 128)) 3) none,
  .mk (some 47) (.binOp .sub 3 (.tmp 46) (.const (.int .i64 1)) 3) none,
  .mk (some 48) (.call ⟨(.builtin .min), #[(.tmp 44), (.tmp 47)], #[3, 3]⟩) none,
  .mk (some 49) (.binOp .leq 3 (.tmp 42) (.tmp 48) 3) none]
def r35_7 : List PS := [.mk (some 52) (.move (.tmp 13)) none,
  .mk (some 53) (.move (.tmp 11)) none,
  .mk (some 54) (.binOp .sub 3 (.tmp 52) (.tmp 53) 3) none,
  .mk (some 55) (.fieldAddr 72 (.tmp 12) 2) none,
  .mk (some 56) (.load 3 (.tmp 55)) none,
  .mk (some 57) (.indexAddr 67 (.tmp 10) (.tmp 54)) none,
  .mk none (.store 3 (.tmp 57) (.tmp 56)) none]
def r35_8 : List PS := [.mk (some 50) (.move (.tmp 13)) none,
  .mk (some 51) (.binOp .add 3 (.tmp 50) (.const (.int .i64 1)) 3) none,
  .mk (some 13) (.assign (.tmp 51)) none]
def r35_9 : List PS := [.mk (some 58) (.fieldAddr 72 (.tmp 12) 1) none,
  .mk (some 59) (.load 3 (.tmp 58)) none,
  .mk (some 60) (.move (.tmp 11)) none,
  .mk (some 61) (.binOp .add 3 (.tmp 60) (.const (.int .i64 128)) 3) none,
  .mk (some 62) (.binOp .geq 3 (.tmp 59) (.tmp 61) 3) none]
def r35_10 : List PS := [.mk (some 32) (.move (.tmp 2)) none,
  .mk (some 33) (.binOp .add 3 (.tmp 32) (.const (.int .i64 1)) 3) none,
  .mk (some 2) (.assign (.tmp 33)) none]
def r35_11 : List PS := [.mk (some 63) (.load 67 (.tmp 10)) none,
  .mk (some 64) (.move (.tmp 2)) none,
  .mk none (.store 67 (.tmp 8) (.tmp 63)) none,
  .mk (some 9) (.assign (.tmp 64)) none]
def c35 : PC := (.seq (.reg false r35_0) (.seq (.reg false r35_1) (.seq (.reg false r35_2) (.seq (.block 0 (.loop (.seq (.seq (.reg false r35_3) (.cond (.tmp 31) .skip (.exit 0))) (.seq (.block 1 (.seq (.reg false r35_4) (.seq (.seq (.reg false r35_5) (.block 2 (.loop (.seq (.seq (.reg false r35_6) (.cond (.tmp 49) .skip (.exit 2))) (.seq (.block 3 (.reg false r35_7)) (.reg false r35_8)))))) (.seq (.reg false r35_9) (.cond (.tmp 62) (.exit 0) .skip))))) (.reg false r35_10))))) (.seq (.reg false r35_11) .ret)))))
theorem e35 {args : List PV} {h : Heap} {K : PV → Heap → Prop} (hl : args.length = 4) (s : pwp Try.prog [8, 10, 12] c35 (fin Try.prog [.cell 8 67, .tmp 9] h K) (slots0 (olds args)) h) : CanP Try.prog 35 args h K :=
  can_of2 (n := 65) mixed Try.func35 rfl (by kernel_rfl) (by rw [hl]; kernel_rfl) rfl (by kernel_rfl) s
/-! ### (*naskh.trie.stages).add: function 36 -/
def r36_0 : List PS := [.mk (some 3) (.box 67 (.tmp 1)) none,
  .mk (some 4) (.assign (.const (.int .i64 0))) none]
def r36_1 : List PS := [.mk (some 6) (.move (.tmp 0)) none,
  .mk (some 7) (.nilCheck (.tmp 6)) none,
  .mk (some 8) (.fieldAddr 63 (.tmp 7) 1) none,
  .mk (some 9) (.load 61 (.tmp 8)) none,
  .mk (some 10) (.call ⟨(.builtin .len), #[(.tmp 9)], #[61]⟩) none,
  .mk (some 11) (.move (.const (.int .i64 0))) none]
def r36_2 : List PS := [.mk (some 12) (.binOp .lss 3 (.tmp 11) (.tmp 10) 3) none]
def r36_3 : List PS := [.mk (some 13) (.move (.tmp 11)) none,
  .mk (some 5) (.assign (.tmp 13)) none]
def r36_4 : List PS := [.mk (some 14) (.move (.tmp 0)) none,
  .mk (some 15) (.nilCheck (.tmp 14)) none,
  .mk (some 16) (.fieldAddr 63 (.tmp 15) 1) none,
  .mk (some 17) (.load 61 (.tmp 16)) none,
  .mk (some 18) (.move (.tmp 5)) none,
  .mk (some 19) (.indexAddr 61 (.tmp 17) (.tmp 18)) none,
  .mk (some 20) (.load 67 (.tmp 19)) none,
  .mk (some 21) (.load 67 (.tmp 3)) none,
  .mk (some 22) (.binOp .eql 67 (.tmp 20) (.tmp 21) 67) none]
def r36_5 : List PS := [.mk (some 23) (.move (.tmp 5)) none,
  .mk (some 4) (.assign (.tmp 23)) none]
def r36_6 : List PS := [.mk (some 24) (.binOp .add 3 (.tmp 11) (.const (.int .i64 1)) 3) none,
  .mk (some 11) (.move (.tmp 24)) none]
def r36_7 : List PS := [.mk (some 25) (.move (.tmp 0)) none,
  .mk (some 26) (.move (.tmp 0)) none,
  .mk (some 27) (.nilCheck (.tmp 26)) none,
  .mk (some 28) (.fieldAddr 63 (.tmp 27) 1) none,
  .mk (some 29) (.load 61 (.tmp 28)) none,
  .mk (some 30) (.load 67 (.tmp 3)) none,
  .mk (some 31) (.buildSlice 61 1 #[(0, (.tmp 30))]) none,
  .mk (some 32) (.call ⟨(.builtin .append), #[(.tmp 29), (.tmp 31)], #[61, 61]⟩) none,
  .mk (some 33) (.nilCheck (.tmp 25)) none,
  .mk (some 34) (.fieldAddr 63 (.tmp 33) 1) none,
  .mk none (.store 61 (.tmp 34) (.tmp 32)) none]
def r36_8 : List PS := [.mk (some 35) (.move (.tmp 0)) none,
  .mk (some 36) (.nilCheck (.tmp 35)) none,
  .mk (some 37) (.fieldAddr 63 (.tmp 36) 1) none,
  .mk (some 38) (.load 61 (.tmp 37)) none,
  .mk (some 39) (.call ⟨(.builtin .len), #[(.tmp 38)], #[61]⟩) none,
  .mk (some 40) (.binOp .sub 3 (.tmp 39) (.const (.int .i64 1)) 3) none,
  .mk (some 4) (.assign (.tmp 40)) none]
def c36 : PC := (.seq (.reg false r36_0) (.seq (.seq (.reg false r36_1) (.block 0 (.loop (.seq (.reg false r36_2) (.seq (.cond (.tmp 12) .skip (.exit 0)) (.seq (.block 1 (.seq (.reg false r36_3) (.seq (.reg true r36_4) (.cond (.tmp 22) (.seq (.reg false r36_5) .ret) .skip)))) (.reg false r36_6))))))) (.seq (.reg true r36_7) (.seq (.reg false r36_8) .ret))))
theorem e36 {args : List PV} {h : Heap} {K : PV → Heap → Prop} (hl : args.length = 2) (s : pwp Try.prog [] c36 (fin Try.prog [.tmp 4] h K) (slots0 (olds args)) h) : CanP Try.prog 36 args h K :=
  can_of2 (n := 41) mixed Try.func36 rfl (by kernel_rfl) (by rw [hl]; kernel_rfl) rfl (by kernel_rfl) s
/-! ### naskh.trie.Build: function 19 -/
def r19_0 : List PS := [.mk (some 4) (.assign (.const (.pointer none))) none,
  .mk (some 5) (.assign (.const (.int .i64 0))) none]
def r19_1 : List PS := [.mk (some 13) (.move (.tmp 0)) none,
  .mk (some 14) (.call ⟨(.value (.func 34)), #[(.tmp 13)], #[46]⟩) none,
  .mk (some 6) (.assign (.tmp 14)) none]
def r19_2 : List PS := [.mk (some 15) (.move (.tmp 6)) none,
  .mk (some 16) (.binOp .neq 43 (.tmp 15) (.const (.int .i64 0)) 43) none]
def r19_3 : List PS := [.mk (some 17) (.move (.tmp 6)) none,
  .mk (some 4) (.assign (.const (.pointer none))) none,
  .mk (some 5) (.assign (.tmp 17)) none]
def r19_4 : List PS := [.mk (some 18) (.move (.tmp 1)) none,
  .mk (some 19) (.build 65 #[(1, (.tmp 18)), (2, (.const (.bool true)))]) none,
  .mk (some 20) (.box 65 (.tmp 19)) none,
  .mk (some 7) (.assign (.tmp 20)) none]
def r19_5 : List PS := [.mk (some 21) (.move (.tmp 7)) none,
  .mk (some 22) (.makeSlice 22 (.const (.int .i64 8704)) (.const (.int .i64 8704))) none,
  .mk (some 23) (.nilCheck (.tmp 21)) none,
  .mk (some 24) (.fieldAddr 65 (.tmp 23) 0) none,
  .mk (some 25) (.fieldAddr 63 (.tmp 24) 0) none,
  .mk none (.store 22 (.tmp 25) (.tmp 22)) none]
def r19_6 : List PS := [.mk (some 8) (.assign (.const (.int .i64 0))) none]
def r19_7 : List PS := [.mk (some 26) (.build 67 #[]) none,
  .mk (some 9) (.alloc 67) none,
  .mk none (.store 67 (.tmp 9) (.tmp 26)) none,
  .mk (some 10) (.assign (.const (.int .i64 (-1)))) none]
def r19_8 : List PS := [.mk (some 27) (.move (.const (.int .i64 0))) none]
def r19_9 : List PS := [.mk (some 28) (.binOp .lss 3 (.tmp 27) (.const (.int .i64 8704)) 3) none]
def r19_10 : List PS := [.mk (some 29) (.move (.tmp 27)) none,
  .mk (some 11) (.assign (.tmp 29)) none]
def r19_11 : List PS := [.mk (some 12) (.alloc 67) none]
def r19_12 : List PS := [.mk (some 31) (.move (.tmp 0)) none,
  .mk (some 32) (.move (.tmp 11)) none,
  .mk (some 33) (.move (.tmp 8)) none,
  .mk (some 34) (.move (.tmp 1)) none,
  .mk (some 35) (.call ⟨(.value (.func 35)), #[(.tmp 31), (.tmp 32), (.tmp 33), (.tmp 34)], #[46, 3, 3, 3]⟩) none,
  .mk (some 30) (.move (.tmp 35)) none,
  .mk (some 36) (.extract (.tmp 30) 0) none,
  .mk (some 37) (.extract (.tmp 30) 1) none,
  .mk none (.store 67 (.tmp 12) (.tmp 36)) none,
  .frz 12,
  .mk (some 8) (.assign (.tmp 37)) none]
def r19_13 : List PS := [.mk (some 38) (.move (.tmp 10)) none,
  .mk (some 39) (.binOp .lss 3 (.tmp 38) (.const (.int .i64 0)) 3) none,
  .mk (some 40) (.move (.tmp 39)) none,
  .mk (some 41) (.load 67 (.tmp 12)) (some (40, false)),
  .mk (some 42) (.load 67 (.tmp 9)) (some (40, false)),
  .mk (some 43) (.binOp .neq 67 (.tmp 41) (.tmp 42) 67) (some (40, false)),
  .mk (some 44) (.pick (.tmp 40) (.const (.bool true)) (.tmp 43)) none]
def r19_14 : List PS := [.mk (some 45) (.load 67 (.tmp 12)) none,
  .mk (some 46) (.move (.tmp 7)) none,
  .mk (some 47) (.nilCheck (.tmp 46)) none,
  .mk (some 48) (.fieldAddr 65 (.tmp 47) 0) none,
  .mk (some 49) (.load 67 (.tmp 12)) none,
  .mk (some 50) (.call ⟨(.value (.func 36)), #[(.tmp 48), (.tmp 49)], #[63, 67]⟩) none,
  .mk none (.store 67 (.tmp 9) (.tmp 45)) none,
  .mk (some 10) (.assign (.tmp 50)) none]
def r19_15 : List PS := [.mk (some 51) (.move (.tmp 7)) none,
  .mk (some 52) (.nilCheck (.tmp 51)) none,
  .mk (some 53) (.fieldAddr 65 (.tmp 52) 0) none,
  .mk (some 54) (.fieldAddr 63 (.tmp 53) 0) none,
  .mk (some 55) (.load 22 (.tmp 54)) none,
  .mk (some 56) (.move (.tmp 11)) none,
  .mk (some 57) (.move (.tmp 10)) none,
  .mk (some 58) (.indexAddr 22 (.tmp 55) (.tmp 56)) none,
  .mk none (.store 3 (.tmp 58) (.tmp 57)) none]
def r19_16 : List PS := [.mk (some 59) (.binOp .add 3 (.tmp 27) (.const (.int .i64 1)) 3) none,
  .mk (some 27) (.move (.tmp 59)) none]
def r19_17 : List PS := [.frzc 7 0,
  .frzc 7 1,
  .mk (some 60) (.move (.tmp 7)) none,
  .mk (some 4) (.assign (.tmp 60)) none,
  .mk (some 5) (.assign (.const (.int .i64 0))) none]
def c19 : PC := (.seq (.reg false r19_0) (.seq (.seq (.reg false r19_1) (.seq (.reg false r19_2) (.cond (.tmp 16) (.seq (.reg false r19_3) .ret) .skip))) (.seq (.reg false r19_4) (.seq (.reg false r19_5) (.seq (.reg false r19_6) (.seq (.reg false r19_7) (.seq (.seq (.reg false r19_8) (.block 0 (.loop (.seq (.reg false r19_9) (.seq (.cond (.tmp 28) .skip (.exit 0)) (.seq (.block 1 (.seq (.reg false r19_10) (.seq (.reg false r19_11) (.seq (.reg false r19_12) (.seq (.seq (.reg false r19_13) (.cond (.tmp 44) (.reg true r19_14) .skip)) (.reg false r19_15)))))) (.reg false r19_16))))))) (.seq (.reg false r19_17) .ret))))))))
theorem e19 {args : List PV} {h : Heap} {K : PV → Heap → Prop} (hl : args.length = 2) (s : pwp Try.prog [9, 12, 20, 45, 50] c19 (fin Try.prog [.tmp 4, .tmp 5] h K) (slots0 (olds args)) h) : CanP Try.prog 19 args h K :=
  can_of2 (n := 61) mixed Try.func19 rfl (by kernel_rfl) (by rw [hl]; kernel_rfl) rfl (by kernel_rfl) s
/-! ### naskh.api.BidiRanges: function 20 -/
def r20_0 : List PS := [.mk (some 0) (.assign (.const (.slice none 0 0))) none]
def r20_1 : List PS := [.mk (some 1) (.build 72 #[(0, (.const (.int .i64 0))), (1, (.const (.int .i64 8))), (2, (.const (.int .i64 9)))]) none,
  .mk (some 2) (.build 72 #[(0, (.const (.int .i64 9))), (1, (.const (.int .i64 9))), (2, (.const (.int .i64 11)))]) none,
  .mk (some 3) (.build 72 #[(0, (.const (.int .i64 10))), (1, (.const (.int .i64 10))), (2, (.const (.int .i64 10)))]) none,
  .mk (some 4) (.build 72 #[(0, (.const (.int .i64 11))), (1, (.const (.int .i64 11))), (2, (.const (.int .i64 11)))]) none,
  .mk (some 5) (.build 72 #[(0, (.const (.int .i64 12))), (1, (.const (.int .i64 12))), (2, (.const (.int .i64 12)))]) none,
  .mk (some 6) (.build 72 #[(0, (.const (.int .i64 13))), (1, (.const (.int .i64 13))), (2, (.const (.int .i64 10)))]) none,
  .mk (some 7) (.build 72 #[(0, (.const (.int .i64 14))), (1, (.const (.int .i64 27))), (2, (.const (.int .i64 9)))]) none,
  .mk (some 8) (.build 72 #[(0, (.const (.int .i64 28))), (1, (.const (.int .i64 30))), (2, (.const (.int .i64 10)))]) none,
  .mk (some 9) (.build 72 #[(0, (.const (.int .i64 31))), (1, (.const (.int .i64 31))), (2, (.const (.int .i64 11)))]) none,
  .mk (some 10) (.build 72 #[(0, (.const (.int .i64 32))), (1, (.const (.int .i64 32))), (2, (.const (.int .i64 12)))]) none,
  .mk (some 11) (.build 72 #[(0, (.const (.int .i64 33))), (1, (.const (.int .i64 34))), (2, (.const (.int .i64 13)))]) none,
  .mk (some 12) (.build 72 #[(0, (.const (.int .i64 35))), (1, (.const (.int .i64 37))), (2, (.const (.int .i64 5)))]) none,
  .mk (some 13) (.build 72 #[(0, (.const (.int .i64 38))), (1, (.const (.int .i64 42))), (2, (.const (.int .i64 13)))]) none,
  .mk (some 14) (.build 72 #[(0, (.const (.int .i64 43))), (1, (.const (.int .i64 43))), (2, (.const (.int .i64 4)))]) none,
  .mk (some 15) (.build 72 #[(0, (.const (.int .i64 44))), (1, (.const (.int .i64 44))), (2, (.const (.int .i64 7)))]) none,
  .mk (some 16) (.build 72 #[(0, (.const (.int .i64 45))), (1, (.const (.int .i64 45))), (2, (.const (.int .i64 4)))]) none,
  .mk (some 17) (.build 72 #[(0, (.const (.int .i64 46))), (1, (.const (.int .i64 47))), (2, (.const (.int .i64 7)))]) none,
  .mk (some 18) (.build 72 #[(0, (.const (.int .i64 48))), (1, (.const (.int .i64 57))), (2, (.const (.int .i64 3)))]) none,
  .mk (some 19) (.build 72 #[(0, (.const (.int .i64 58))), (1, (.const (.int .i64 58))), (2, (.const (.int .i64 7)))]) none,
  .mk (some 20) (.build 72 #[(0, (.const (.int .i64 59))), (1, (.const (.int .i64 64))), (2, (.const (.int .i64 13)))]) none,
  .mk (some 21) (.build 72 #[(0, (.const (.int .i64 91))), (1, (.const (.int .i64 96))), (2, (.const (.int .i64 13)))]) none,
  .mk (some 22) (.build 72 #[(0, (.const (.int .i64 123))), (1, (.const (.int .i64 126))), (2, (.const (.int .i64 13)))]) none,
  .mk (some 23) (.build 72 #[(0, (.const (.int .i64 127))), (1, (.const (.int .i64 132))), (2, (.const (.int .i64 9)))]) none,
  .mk (some 24) (.build 72 #[(0, (.const (.int .i64 133))), (1, (.const (.int .i64 133))), (2, (.const (.int .i64 10)))]) none,
  .mk (some 25) (.build 72 #[(0, (.const (.int .i64 134))), (1, (.const (.int .i64 159))), (2, (.const (.int .i64 9)))]) none,
  .mk (some 26) (.build 72 #[(0, (.const (.int .i64 160))), (1, (.const (.int .i64 160))), (2, (.const (.int .i64 7)))]) none,
  .mk (some 27) (.build 72 #[(0, (.const (.int .i64 161))), (1, (.const (.int .i64 161))), (2, (.const (.int .i64 13)))]) none,
  .mk (some 28) (.build 72 #[(0, (.const (.int .i64 162))), (1, (.const (.int .i64 165))), (2, (.const (.int .i64 5)))]) none,
  .mk (some 29) (.build 72 #[(0, (.const (.int .i64 166))), (1, (.const (.int .i64 169))), (2, (.const (.int .i64 13)))]) none,
  .mk (some 30) (.build 72 #[(0, (.const (.int .i64 171))), (1, (.const (.int .i64 172))), (2, (.const (.int .i64 13)))]) none,
  .mk (some 31) (.build 72 #[(0, (.const (.int .i64 173))), (1, (.const (.int .i64 173))), (2, (.const (.int .i64 9)))]) none,
  .mk (some 32) (.build 72 #[(0, (.const (.int .i64 174))), (1, (.const (.int .i64 175))), (2, (.const (.int .i64 13)))]) none,
  .mk (some 33) (.build 72 #[(0, (.const (.int .i64 176))), (1, (.const (.int .i64 177))), (2, (.const (.int .i64 5)))]) none,
  .mk (some 34) (.build 72 #[(0, (.const (.int .i64 178))), (1, (.const (.int .i64 179))), (2, (.const (.int .i64 3)))]) none,
  .mk (some 35) (.build 72 #[(0, (.const (.int .i64 180))), (1, (.const (.int .i64 180))), (2, (.const (.int .i64 13)))]) none,
  .mk (some 36) (.build 72 #[(0, (.const (.int .i64 182))), (1, (.const (.int .i64 184))), (2, (.const (.int .i64 13)))]) none,
  .mk (some 37) (.build 72 #[(0, (.const (.int .i64 185))), (1, (.const (.int .i64 185))), (2, (.const (.int .i64 3)))]) none,
  .mk (some 38) (.build 72 #[(0, (.const (.int .i64 187))), (1, (.const (.int .i64 191))), (2, (.const (.int .i64 13)))]) none,
  .mk (some 39) (.build 72 #[(0, (.const (.int .i64 215))), (1, (.const (.int .i64 215))), (2, (.const (.int .i64 13)))]) none,
  .mk (some 40) (.build 72 #[(0, (.const (.int .i64 247))), (1, (.const (.int .i64 247))), (2, (.const (.int .i64 13)))]) none,
  .mk (some 41) (.build 72 #[(0, (.const (.int .i64 697))), (1, (.const (.int .i64 698))), (2, (.const (.int .i64 13)))]) none,
  .mk (some 42) (.build 72 #[(0, (.const (.int .i64 706))), (1, (.const (.int .i64 719))), (2, (.const (.int .i64 13)))]) none,
  .mk (some 43) (.build 72 #[(0, (.const (.int .i64 722))), (1, (.const (.int .i64 735))), (2, (.const (.int .i64 13)))]) none,
  .mk (some 44) (.build 72 #[(0, (.const (.int .i64 768))), (1, (.const (.int .i64 879))), (2, (.const (.int .i64 8)))]) none,
  .mk (some 45) (.build 72 #[(0, (.const (.int .i64 1424))), (1, (.const (.int .i64 1424))), (2, (.const (.int .i64 1)))]) none,
  .mk (some 46) (.build 72 #[(0, (.const (.int .i64 1425))), (1, (.const (.int .i64 1469))), (2, (.const (.int .i64 8)))]) none,
  .mk (some 47) (.build 72 #[(0, (.const (.int .i64 1470))), (1, (.const (.int .i64 1470))), (2, (.const (.int .i64 1)))]) none,
  .mk (some 48) (.build 72 #[(0, (.const (.int .i64 1471))), (1, (.const (.int .i64 1471))), (2, (.const (.int .i64 8)))]) none,
  .mk (some 49) (.build 72 #[(0, (.const (.int .i64 1472))), (1, (.const (.int .i64 1472))), (2, (.const (.int .i64 1)))]) none,
  .mk (some 50) (.build 72 #[(0, (.const (.int .i64 1473))), (1, (.const (.int .i64 1474))), (2, (.const (.int .i64 8)))]) none,
  .mk (some 51) (.build 72 #[(0, (.const (.int .i64 1475))), (1, (.const (.int .i64 1475))), (2, (.const (.int .i64 1)))]) none,
  .mk (some 52) (.build 72 #[(0, (.const (.int .i64 1476))), (1, (.const (.int .i64 1477))), (2, (.const (.int .i64 8)))]) none,
  .mk (some 53) (.build 72 #[(0, (.const (.int .i64 1478))), (1, (.const (.int .i64 1478))), (2, (.const (.int .i64 1)))]) none,
  .mk (some 54) (.build 72 #[(0, (.const (.int .i64 1479))), (1, (.const (.int .i64 1479))), (2, (.const (.int .i64 8)))]) none,
  .mk (some 55) (.build 72 #[(0, (.const (.int .i64 1480))), (1, (.const (.int .i64 1535))), (2, (.const (.int .i64 1)))]) none,
  .mk (some 56) (.build 72 #[(0, (.const (.int .i64 1536))), (1, (.const (.int .i64 1541))), (2, (.const (.int .i64 6)))]) none,
  .mk (some 57) (.build 72 #[(0, (.const (.int .i64 1542))), (1, (.const (.int .i64 1543))), (2, (.const (.int .i64 13)))]) none,
  .mk (some 58) (.build 72 #[(0, (.const (.int .i64 1544))), (1, (.const (.int .i64 1544))), (2, (.const (.int .i64 2)))]) none,
  .mk (some 59) (.build 72 #[(0, (.const (.int .i64 1545))), (1, (.const (.int .i64 1546))), (2, (.const (.int .i64 5)))]) none,
  .mk (some 60) (.build 72 #[(0, (.const (.int .i64 1547))), (1, (.const (.int .i64 1547))), (2, (.const (.int .i64 2)))]) none,
  .mk (some 61) (.build 72 #[(0, (.const (.int .i64 1548))), (1, (.const (.int .i64 1548))), (2, (.const (.int .i64 7)))]) none,
  .mk (some 62) (.build 72 #[(0, (.const (.int .i64 1549))), (1, (.const (.int .i64 1549))), (2, (.const (.int .i64 2)))]) none,
  .mk (some 63) (.build 72 #[(0, (.const (.int .i64 1550))), (1, (.const (.int .i64 1551))), (2, (.const (.int .i64 13)))]) none,
  .mk (some 64) (.build 72 #[(0, (.const (.int .i64 1552))), (1, (.const (.int .i64 1562))), (2, (.const (.int .i64 8)))]) none,
  .mk (some 65) (.build 72 #[(0, (.const (.int .i64 1563))), (1, (.const (.int .i64 1610))), (2, (.const (.int .i64 2)))]) none,
  .mk (some 66) (.build 72 #[(0, (.const (.int .i64 1611))), (1, (.const (.int .i64 1631))), (2, (.const (.int .i64 8)))]) none,
  .mk (some 67) (.build 72 #[(0, (.const (.int .i64 1632))), (1, (.const (.int .i64 1641))), (2, (.const (.int .i64 6)))]) none,
  .mk (some 68) (.build 72 #[(0, (.const (.int .i64 1642))), (1, (.const (.int .i64 1642))), (2, (.const (.int .i64 5)))]) none,
  .mk (some 69) (.build 72 #[(0, (.const (.int .i64 1643))), (1, (.const (.int .i64 1644))), (2, (.const (.int .i64 6)))]) none,
  .mk (some 70) (.build 72 #[(0, (.const (.int .i64 1645))), (1, (.const (.int .i64 1647))), (2, (.const (.int .i64 2)))]) none,
  .mk (some 71) (.build 72 #[(0, (.const (.int .i64 1648))), (1, (.const (.int .i64 1648))), (2, (.const (.int .i64 8)))]) none,
  .mk (some 72) (.build 72 #[(0, (.const (.int .i64 1649))), (1, (.const (.int .i64 1749))), (2, (.const (.int .i64 2)))]) none,
  .mk (some 73) (.build 72 #[(0, (.const (.int .i64 1750))), (1, (.const (.int .i64 1756))), (2, (.const (.int .i64 8)))]) none,
  .mk (some 74) (.build 72 #[(0, (.const (.int .i64 1757))), (1, (.const (.int .i64 1757))), (2, (.const (.int .i64 6)))]) none,
  .mk (some 75) (.build 72 #[(0, (.const (.int .i64 1758))), (1, (.const (.int .i64 1758))), (2, (.const (.int .i64 13)))]) none,
  .mk (some 76) (.build 72 #[(0, (.const (.int .i64 1759))), (1, (.const (.int .i64 1764))), (2, (.const (.int .i64 8)))]) none,
  .mk (some 77) (.build 72 #[(0, (.const (.int .i64 1765))), (1, (.const (.int .i64 1766))), (2, (.const (.int .i64 2)))]) none,
  .mk (some 78) (.build 72 #[(0, (.const (.int .i64 1767))), (1, (.const (.int .i64 1768))), (2, (.const (.int .i64 8)))]) none,
  .mk (some 79) (.build 72 #[(0, (.const (.int .i64 1769))), (1, (.const (.int .i64 1769))), (2, (.const (.int .i64 13)))]) none,
  .mk (some 80) (.build 72 #[(0, (.const (.int .i64 1770))), (1, (.const (.int .i64 1773))), (2, (.const (.int .i64 8)))]) none,
  .mk (some 81) (.build 72 #[(0, (.const (.int .i64 1774))), (1, (.const (.int .i64 1775))), (2, (.const (.int .i64 2)))]) none,
  .mk (some 82) (.build 72 #[(0, (.const (.int .i64 1776))), (1, (.const (.int .i64 1785))), (2, (.const (.int .i64 3)))]) none,
  .mk (some 83) (.build 72 #[(0, (.const (.int .i64 1786))), (1, (.const (.int .i64 1808))), (2, (.const (.int .i64 2)))]) none,
  .mk (some 84) (.build 72 #[(0, (.const (.int .i64 1809))), (1, (.const (.int .i64 1809))), (2, (.const (.int .i64 8)))]) none,
  .mk (some 85) (.build 72 #[(0, (.const (.int .i64 1810))), (1, (.const (.int .i64 1839))), (2, (.const (.int .i64 2)))]) none,
  .mk (some 86) (.build 72 #[(0, (.const (.int .i64 1840))), (1, (.const (.int .i64 1866))), (2, (.const (.int .i64 8)))]) none,
  .mk (some 87) (.build 72 #[(0, (.const (.int .i64 1867))), (1, (.const (.int .i64 1957))), (2, (.const (.int .i64 2)))]) none,
  .mk (some 88) (.build 72 #[(0, (.const (.int .i64 1958))), (1, (.const (.int .i64 1968))), (2, (.const (.int .i64 8)))]) none,
  .mk (some 89) (.build 72 #[(0, (.const (.int .i64 1969))), (1, (.const (.int .i64 1983))), (2, (.const (.int .i64 2)))]) none,
  .mk (some 90) (.build 72 #[(0, (.const (.int .i64 1984))), (1, (.const (.int .i64 2026))), (2, (.const (.int .i64 1)))]) none,
  .mk (some 91) (.build 72 #[(0, (.const (.int .i64 2027))), (1, (.const (.int .i64 2035))), (2, (.const (.int .i64 8)))]) none,
  .mk (some 92) (.build 72 #[(0, (.const (.int .i64 2036))), (1, (.const (.int .i64 2037))), (2, (.const (.int .i64 1)))]) none,
  .mk (some 93) (.build 72 #[(0, (.const (.int .i64 2038))), (1, (.const (.int .i64 2041))), (2, (.const (.int .i64 13)))]) none,
  .mk (some 94) (.build 72 #[(0, (.const (.int .i64 2042))), (1, (.const (.int .i64 2044))), (2, (.const (.int .i64 1)))]) none,
  .mk (some 95) (.build 72 #[(0, (.const (.int .i64 2045))), (1, (.const (.int .i64 2045))), (2, (.const (.int .i64 8)))]) none,
  .mk (some 96) (.build 72 #[(0, (.const (.int .i64 2046))), (1, (.const (.int .i64 2069))), (2, (.const (.int .i64 1)))]) none,
  .mk (some 97) (.build 72 #[(0, (.const (.int .i64 2070))), (1, (.const (.int .i64 2073))), (2, (.const (.int .i64 8)))]) none,
  .mk (some 98) (.build 72 #[(0, (.const (.int .i64 2074))), (1, (.const (.int .i64 2074))), (2, (.const (.int .i64 1)))]) none,
  .mk (some 99) (.build 72 #[(0, (.const (.int .i64 2075))), (1, (.const (.int .i64 2083))), (2, (.const (.int .i64 8)))]) none,
  .mk (some 100) (.build 72 #[(0, (.const (.int .i64 2084))), (1, (.const (.int .i64 2084))), (2, (.const (.int .i64 1)))]) none,
  .mk (some 101) (.build 72 #[(0, (.const (.int .i64 2085))), (1, (.const (.int .i64 2087))), (2, (.const (.int .i64 8)))]) none,
  .mk (some 102) (.build 72 #[(0, (.const (.int .i64 2088))), (1, (.const (.int .i64 2088))), (2, (.const (.int .i64 1)))]) none,
  .mk (some 103) (.build 72 #[(0, (.const (.int .i64 2089))), (1, (.const (.int .i64 2093))), (2, (.const (.int .i64 8)))]) none,
  .mk (some 104) (.build 72 #[(0, (.const (.int .i64 2094))), (1, (.const (.int .i64 2136))), (2, (.const (.int .i64 1)))]) none,
  .mk (some 105) (.build 72 #[(0, (.const (.int .i64 2137))), (1, (.const (.int .i64 2139))), (2, (.const (.int .i64 8)))]) none,
  .mk (some 106) (.build 72 #[(0, (.const (.int .i64 2140))), (1, (.const (.int .i64 2143))), (2, (.const (.int .i64 1)))]) none,
  .mk (some 107) (.build 72 #[(0, (.const (.int .i64 2144))), (1, (.const (.int .i64 2191))), (2, (.const (.int .i64 2)))]) none,
  .mk (some 108) (.build 72 #[(0, (.const (.int .i64 2192))), (1, (.const (.int .i64 2193))), (2, (.const (.int .i64 6)))]) none,
  .mk (some 109) (.build 72 #[(0, (.const (.int .i64 2194))), (1, (.const (.int .i64 2199))), (2, (.const (.int .i64 2)))]) none,
  .mk (some 110) (.build 72 #[(0, (.const (.int .i64 2200))), (1, (.const (.int .i64 2207))), (2, (.const (.int .i64 8)))]) none,
  .mk (some 111) (.build 72 #[(0, (.const (.int .i64 2208))), (1, (.const (.int .i64 2249))), (2, (.const (.int .i64 2)))]) none,
  .mk (some 112) (.build 72 #[(0, (.const (.int .i64 2250))), (1, (.const (.int .i64 2273))), (2, (.const (.int .i64 8)))]) none,
  .mk (some 113) (.build 72 #[(0, (.const (.int .i64 2274))), (1, (.const (.int .i64 2274))), (2, (.const (.int .i64 6)))]) none,
  .mk (some 114) (.build 72 #[(0, (.const (.int .i64 2275))), (1, (.const (.int .i64 2306))), (2, (.const (.int .i64 8)))]) none,
  .mk (some 115) (.build 72 #[(0, (.const (.int .i64 8192))), (1, (.const (.int .i64 8202))), (2, (.const (.int .i64 12)))]) none,
  .mk (some 116) (.build 72 #[(0, (.const (.int .i64 8203))), (1, (.const (.int .i64 8205))), (2, (.const (.int .i64 9)))]) none,
  .mk (some 117) (.build 72 #[(0, (.const (.int .i64 8207))), (1, (.const (.int .i64 8207))), (2, (.const (.int .i64 1)))]) none,
  .mk (some 118) (.build 72 #[(0, (.const (.int .i64 8208))), (1, (.const (.int .i64 8231))), (2, (.const (.int .i64 13)))]) none,
  .mk (some 119) (.build 72 #[(0, (.const (.int .i64 8232))), (1, (.const (.int .i64 8232))), (2, (.const (.int .i64 12)))]) none,
  .mk (some 120) (.build 72 #[(0, (.const (.int .i64 8233))), (1, (.const (.int .i64 8233))), (2, (.const (.int .i64 10)))]) none,
  .mk (some 121) (.build 72 #[(0, (.const (.int .i64 8234))), (1, (.const (.int .i64 8234))), (2, (.const (.int .i64 14)))]) none,
  .mk (some 122) (.build 72 #[(0, (.const (.int .i64 8235))), (1, (.const (.int .i64 8235))), (2, (.const (.int .i64 16)))]) none,
  .mk (some 123) (.build 72 #[(0, (.const (.int .i64 8236))), (1, (.const (.int .i64 8236))), (2, (.const (.int .i64 18)))]) none,
  .mk (some 124) (.build 72 #[(0, (.const (.int .i64 8237))), (1, (.const (.int .i64 8237))), (2, (.const (.int .i64 15)))]) none,
  .mk (some 125) (.build 72 #[(0, (.const (.int .i64 8238))), (1, (.const (.int .i64 8238))), (2, (.const (.int .i64 17)))]) none,
  .mk (some 126) (.build 72 #[(0, (.const (.int .i64 8239))), (1, (.const (.int .i64 8239))), (2, (.const (.int .i64 7)))]) none,
  .mk (some 127) (.build 72 #[(0, (.const (.int .i64 8240))), (1, (.const (.int .i64 8244))), (2, (.const (.int .i64 5)))]) none,
  .mk (some 128) (.build 72 #[(0, (.const (.int .i64 8245))), (1, (.const (.int .i64 8259))), (2, (.const (.int .i64 13)))]) none,
  .mk (some 129) (.build 72 #[(0, (.const (.int .i64 8260))), (1, (.const (.int .i64 8260))), (2, (.const (.int .i64 7)))]) none,
  .mk (some 130) (.build 72 #[(0, (.const (.int .i64 8261))), (1, (.const (.int .i64 8286))), (2, (.const (.int .i64 13)))]) none,
  .mk (some 131) (.build 72 #[(0, (.const (.int .i64 8287))), (1, (.const (.int .i64 8287))), (2, (.const (.int .i64 12)))]) none,
  .mk (some 132) (.build 72 #[(0, (.const (.int .i64 8288))), (1, (.const (.int .i64 8293))), (2, (.const (.int .i64 9)))]) none,
  .mk (some 133) (.build 72 #[(0, (.const (.int .i64 8294))), (1, (.const (.int .i64 8294))), (2, (.const (.int .i64 19)))]) none,
  .mk (some 134) (.build 72 #[(0, (.const (.int .i64 8295))), (1, (.const (.int .i64 8295))), (2, (.const (.int .i64 20)))]) none,
  .mk (some 135) (.build 72 #[(0, (.const (.int .i64 8296))), (1, (.const (.int .i64 8296))), (2, (.const (.int .i64 21)))]) none,
  .mk (some 136) (.build 72 #[(0, (.const (.int .i64 8297))), (1, (.const (.int .i64 8297))), (2, (.const (.int .i64 22)))]) none,
  .mk (some 137) (.build 72 #[(0, (.const (.int .i64 8298))), (1, (.const (.int .i64 8303))), (2, (.const (.int .i64 9)))]) none,
  .mk (some 138) (.build 72 #[(0, (.const (.int .i64 8304))), (1, (.const (.int .i64 8304))), (2, (.const (.int .i64 3)))]) none,
  .mk (some 139) (.build 72 #[(0, (.const (.int .i64 8308))), (1, (.const (.int .i64 8313))), (2, (.const (.int .i64 3)))]) none,
  .mk (some 140) (.build 72 #[(0, (.const (.int .i64 8314))), (1, (.const (.int .i64 8315))), (2, (.const (.int .i64 4)))]) none,
  .mk (some 141) (.build 72 #[(0, (.const (.int .i64 8316))), (1, (.const (.int .i64 8318))), (2, (.const (.int .i64 13)))]) none,
  .mk (some 142) (.build 72 #[(0, (.const (.int .i64 8320))), (1, (.const (.int .i64 8329))), (2, (.const (.int .i64 3)))]) none,
  .mk (some 143) (.build 72 #[(0, (.const (.int .i64 8330))), (1, (.const (.int .i64 8331))), (2, (.const (.int .i64 4)))]) none,
  .mk (some 144) (.build 72 #[(0, (.const (.int .i64 8332))), (1, (.const (.int .i64 8334))), (2, (.const (.int .i64 13)))]) none,
  .mk (some 145) (.build 72 #[(0, (.const (.int .i64 8352))), (1, (.const (.int .i64 8399))), (2, (.const (.int .i64 5)))]) none,
  .mk (some 146) (.build 72 #[(0, (.const (.int .i64 8400))), (1, (.const (.int .i64 8432))), (2, (.const (.int .i64 8)))]) none,
  .mk (some 147) (.build 72 #[(0, (.const (.int .i64 8592))), (1, (.const (.int .i64 8721))), (2, (.const (.int .i64 13)))]) none,
  .mk (some 148) (.build 72 #[(0, (.const (.int .i64 8722))), (1, (.const (.int .i64 8722))), (2, (.const (.int .i64 4)))]) none,
  .mk (some 149) (.build 72 #[(0, (.const (.int .i64 8723))), (1, (.const (.int .i64 8723))), (2, (.const (.int .i64 5)))]) none,
  .mk (some 150) (.build 72 #[(0, (.const (.int .i64 8724))), (1, (.const (.int .i64 9013))), (2, (.const (.int .i64 13)))]) none,
  .mk (some 151) (.build 72 #[(0, (.const (.int .i64 9083))), (1, (.const (.int .i64 9108))), (2, (.const (.int .i64 13)))]) none,
  .mk (some 152) (.build 72 #[(0, (.const (.int .i64 9110))), (1, (.const (.int .i64 9254))), (2, (.const (.int .i64 13)))]) none,
  .mk (some 153) (.build 72 #[(0, (.const (.int .i64 9280))), (1, (.const (.int .i64 9290))), (2, (.const (.int .i64 13)))]) none,
  .mk (some 154) (.build 72 #[(0, (.const (.int .i64 9312))), (1, (.const (.int .i64 9351))), (2, (.const (.int .i64 13)))]) none,
  .mk (some 155) (.build 72 #[(0, (.const (.int .i64 9352))), (1, (.const (.int .i64 9371))), (2, (.const (.int .i64 3)))]) none,
  .mk (some 156) (.build 72 #[(0, (.const (.int .i64 9450))), (1, (.const (.int .i64 9899))), (2, (.const (.int .i64 13)))]) none,
  .mk (some 157) (.build 72 #[(0, (.const (.int .i64 9901))), (1, (.const (.int .i64 10239))), (2, (.const (.int .i64 13)))]) none,
  .mk (some 158) (.build 72 #[(0, (.const (.int .i64 10496))), (1, (.const (.int .i64 11123))), (2, (.const (.int .i64 13)))]) none,
  .mk (some 159) (.build 72 #[(0, (.const (.int .i64 11776))), (1, (.const (.int .i64 11869))), (2, (.const (.int .i64 13)))]) none,
  .mk (some 160) (.build 72 #[(0, (.const (.int .i64 12288))), (1, (.const (.int .i64 12288))), (2, (.const (.int .i64 12)))]) none,
  .mk (some 161) (.build 72 #[(0, (.const (.int .i64 12289))), (1, (.const (.int .i64 12292))), (2, (.const (.int .i64 13)))]) none,
  .mk (some 162) (.build 72 #[(0, (.const (.int .i64 12296))), (1, (.const (.int .i64 12320))), (2, (.const (.int .i64 13)))]) none,
  .mk (some 163) (.build 72 #[(0, (.const (.int .i64 12330))), (1, (.const (.int .i64 12333))), (2, (.const (.int .i64 8)))]) none,
  .mk (some 164) (.build 72 #[(0, (.const (.int .i64 12336))), (1, (.const (.int .i64 12336))), (2, (.const (.int .i64 13)))]) none,
  .mk (some 165) (.build 72 #[(0, (.const (.int .i64 64285))), (1, (.const (.int .i64 64285))), (2, (.const (.int .i64 1)))]) none,
  .mk (some 166) (.build 72 #[(0, (.const (.int .i64 64286))), (1, (.const (.int .i64 64286))), (2, (.const (.int .i64 8)))]) none,
  .mk (some 167) (.build 72 #[(0, (.const (.int .i64 64287))), (1, (.const (.int .i64 64296))), (2, (.const (.int .i64 1)))]) none,
  .mk (some 168) (.build 72 #[(0, (.const (.int .i64 64297))), (1, (.const (.int .i64 64297))), (2, (.const (.int .i64 4)))]) none,
  .mk (some 169) (.build 72 #[(0, (.const (.int .i64 64298))), (1, (.const (.int .i64 64335))), (2, (.const (.int .i64 1)))]) none,
  .mk (some 170) (.build 72 #[(0, (.const (.int .i64 64336))), (1, (.const (.int .i64 64829))), (2, (.const (.int .i64 2)))]) none,
  .mk (some 171) (.build 72 #[(0, (.const (.int .i64 64830))), (1, (.const (.int .i64 64847))), (2, (.const (.int .i64 13)))]) none,
  .mk (some 172) (.build 72 #[(0, (.const (.int .i64 64848))), (1, (.const (.int .i64 64974))), (2, (.const (.int .i64 2)))]) none,
  .mk (some 173) (.build 72 #[(0, (.const (.int .i64 64975))), (1, (.const (.int .i64 64975))), (2, (.const (.int .i64 13)))]) none,
  .mk (some 174) (.build 72 #[(0, (.const (.int .i64 64976))), (1, (.const (.int .i64 65007))), (2, (.const (.int .i64 9)))]) none,
  .mk (some 175) (.build 72 #[(0, (.const (.int .i64 65008))), (1, (.const (.int .i64 65020))), (2, (.const (.int .i64 2)))]) none,
  .mk (some 176) (.build 72 #[(0, (.const (.int .i64 65021))), (1, (.const (.int .i64 65023))), (2, (.const (.int .i64 13)))]) none,
  .mk (some 177) (.build 72 #[(0, (.const (.int .i64 65024))), (1, (.const (.int .i64 65039))), (2, (.const (.int .i64 8)))]) none,
  .mk (some 178) (.build 72 #[(0, (.const (.int .i64 65040))), (1, (.const (.int .i64 65049))), (2, (.const (.int .i64 13)))]) none,
  .mk (some 179) (.build 72 #[(0, (.const (.int .i64 65056))), (1, (.const (.int .i64 65071))), (2, (.const (.int .i64 8)))]) none,
  .mk (some 180) (.build 72 #[(0, (.const (.int .i64 65072))), (1, (.const (.int .i64 65103))), (2, (.const (.int .i64 13)))]) none,
  .mk (some 181) (.build 72 #[(0, (.const (.int .i64 65104))), (1, (.const (.int .i64 65104))), (2, (.const (.int .i64 7)))]) none,
  .mk (some 182) (.build 72 #[(0, (.const (.int .i64 65105))), (1, (.const (.int .i64 65105))), (2, (.const (.int .i64 13)))]) none,
  .mk (some 183) (.build 72 #[(0, (.const (.int .i64 65106))), (1, (.const (.int .i64 65106))), (2, (.const (.int .i64 7)))]) none,
  .mk (some 184) (.build 72 #[(0, (.const (.int .i64 65108))), (1, (.const (.int .i64 65108))), (2, (.const (.int .i64 13)))]) none,
  .mk (some 185) (.build 72 #[(0, (.const (.int .i64 65109))), (1, (.const (.int .i64 65109))), (2, (.const (.int .i64 7)))]) none,
  .mk (some 186) (.build 72 #[(0, (.const (.int .i64 65110))), (1, (.const (.int .i64 65118))), (2, (.const (.int .i64 13)))]) none,
  .mk (some 187) (.build 72 #[(0, (.const (.int .i64 65119))), (1, (.const (.int .i64 65119))), (2, (.const (.int .i64 5)))]) none,
  .mk (some 188) (.build 72 #[(0, (.const (.int .i64 65120))), (1, (.const (.int .i64 65121))), (2, (.const (.int .i64 13)))]) none,
  .mk (some 189) (.build 72 #[(0, (.const (.int .i64 65122))), (1, (.const (.int .i64 65123))), (2, (.const (.int .i64 4)))]) none,
  .mk (some 190) (.build 72 #[(0, (.const (.int .i64 65124))), (1, (.const (.int .i64 65126))), (2, (.const (.int .i64 13)))]) none,
  .mk (some 191) (.build 72 #[(0, (.const (.int .i64 65128))), (1, (.const (.int .i64 65128))), (2, (.const (.int .i64 13)))]) none,
  .mk (some 192) (.build 72 #[(0, (.const (.int .i64 65129))), (1, (.const (.int .i64 65130))), (2, (.const (.int .i64 5)))]) none,
  .mk (some 193) (.build 72 #[(0, (.const (.int .i64 65131))), (1, (.const (.int .i64 65131))), (2, (.const (.int .i64 13)))]) none,
  .mk (some 194) (.build 72 #[(0, (.const (.int .i64 65136))), (1, (.const (.int .i64 65278))), (2, (.const (.int .i64 2)))]) none,
  .mk (some 195) (.build 72 #[(0, (.const (.int .i64 65279))), (1, (.const (.int .i64 65279))), (2, (.const (.int .i64 9)))]) none,
  .mk (some 196) (.build 72 #[(0, (.const (.int .i64 65281))), (1, (.const (.int .i64 65282))), (2, (.const (.int .i64 13)))]) none,
  .mk (some 197) (.build 72 #[(0, (.const (.int .i64 65283))), (1, (.const (.int .i64 65285))), (2, (.const (.int .i64 5)))]) none,
  .mk (some 198) (.build 72 #[(0, (.const (.int .i64 65286))), (1, (.const (.int .i64 65290))), (2, (.const (.int .i64 13)))]) none,
  .mk (some 199) (.build 72 #[(0, (.const (.int .i64 65291))), (1, (.const (.int .i64 65291))), (2, (.const (.int .i64 4)))]) none,
  .mk (some 200) (.build 72 #[(0, (.const (.int .i64 65292))), (1, (.const (.int .i64 65292))), (2, (.const (.int .i64 7)))]) none,
  .mk (some 201) (.build 72 #[(0, (.const (.int .i64 65293))), (1, (.const (.int .i64 65293))), (2, (.const (.int .i64 4)))]) none,
  .mk (some 202) (.build 72 #[(0, (.const (.int .i64 65294))), (1, (.const (.int .i64 65295))), (2, (.const (.int .i64 7)))]) none,
  .mk (some 203) (.build 72 #[(0, (.const (.int .i64 65296))), (1, (.const (.int .i64 65305))), (2, (.const (.int .i64 3)))]) none,
  .mk (some 204) (.build 72 #[(0, (.const (.int .i64 65306))), (1, (.const (.int .i64 65306))), (2, (.const (.int .i64 7)))]) none,
  .mk (some 205) (.build 72 #[(0, (.const (.int .i64 65307))), (1, (.const (.int .i64 65312))), (2, (.const (.int .i64 13)))]) none,
  .mk (some 206) (.build 72 #[(0, (.const (.int .i64 65339))), (1, (.const (.int .i64 65344))), (2, (.const (.int .i64 13)))]) none,
  .mk (some 207) (.build 72 #[(0, (.const (.int .i64 65371))), (1, (.const (.int .i64 65381))), (2, (.const (.int .i64 13)))]) none,
  .mk (some 208) (.build 72 #[(0, (.const (.int .i64 65504))), (1, (.const (.int .i64 65505))), (2, (.const (.int .i64 5)))]) none,
  .mk (some 209) (.build 72 #[(0, (.const (.int .i64 65506))), (1, (.const (.int .i64 65508))), (2, (.const (.int .i64 13)))]) none,
  .mk (some 210) (.build 72 #[(0, (.const (.int .i64 65509))), (1, (.const (.int .i64 65510))), (2, (.const (.int .i64 5)))]) none,
  .mk (some 211) (.build 72 #[(0, (.const (.int .i64 65520))), (1, (.const (.int .i64 65528))), (2, (.const (.int .i64 9)))]) none,
  .mk (some 212) (.build 72 #[(0, (.const (.int .i64 65529))), (1, (.const (.int .i64 65533))), (2, (.const (.int .i64 13)))]) none,
  .mk (some 213) (.build 72 #[(0, (.const (.int .i64 65534))), (1, (.const (.int .i64 65535))), (2, (.const (.int .i64 9)))]) none,
  .mk (some 214) (.build 72 #[(0, (.const (.int .i64 67584))), (1, (.const (.int .i64 68863))), (2, (.const (.int .i64 1)))]) none,
  .mk (some 215) (.build 72 #[(0, (.const (.int .i64 68864))), (1, (.const (.int .i64 68927))), (2, (.const (.int .i64 2)))]) none,
  .mk (some 216) (.build 72 #[(0, (.const (.int .i64 68928))), (1, (.const (.int .i64 69631))), (2, (.const (.int .i64 1)))]) none,
  .mk (some 217) (.build 72 #[(0, (.const (.int .i64 120782))), (1, (.const (.int .i64 120831))), (2, (.const (.int .i64 3)))]) none,
  .mk (some 218) (.build 72 #[(0, (.const (.int .i64 124928))), (1, (.const (.int .i64 126063))), (2, (.const (.int .i64 1)))]) none,
  .mk (some 219) (.build 72 #[(0, (.const (.int .i64 126064))), (1, (.const (.int .i64 126143))), (2, (.const (.int .i64 2)))]) none,
  .mk (some 220) (.build 72 #[(0, (.const (.int .i64 126144))), (1, (.const (.int .i64 126207))), (2, (.const (.int .i64 1)))]) none,
  .mk (some 221) (.build 72 #[(0, (.const (.int .i64 126208))), (1, (.const (.int .i64 126287))), (2, (.const (.int .i64 2)))]) none,
  .mk (some 222) (.build 72 #[(0, (.const (.int .i64 126288))), (1, (.const (.int .i64 126463))), (2, (.const (.int .i64 1)))]) none,
  .mk (some 223) (.build 72 #[(0, (.const (.int .i64 126464))), (1, (.const (.int .i64 126719))), (2, (.const (.int .i64 2)))]) none,
  .mk (some 224) (.build 72 #[(0, (.const (.int .i64 126720))), (1, (.const (.int .i64 126975))), (2, (.const (.int .i64 1)))]) none,
  .mk (some 225) (.build 72 #[(0, (.const (.int .i64 126976))), (1, (.const (.int .i64 127231))), (2, (.const (.int .i64 13)))]) none,
  .mk (some 226) (.build 72 #[(0, (.const (.int .i64 127232))), (1, (.const (.int .i64 127242))), (2, (.const (.int .i64 3)))]) none,
  .mk (some 227) (.build 72 #[(0, (.const (.int .i64 127744))), (1, (.const (.int .i64 128727))), (2, (.const (.int .i64 13)))]) none,
  .mk (some 228) (.build 72 #[(0, (.const (.int .i64 917504))), (1, (.const (.int .i64 917759))), (2, (.const (.int .i64 9)))]) none,
  .mk (some 229) (.build 72 #[(0, (.const (.int .i64 917760))), (1, (.const (.int .i64 917999))), (2, (.const (.int .i64 8)))]) none,
  .mk (some 230) (.build 72 #[(0, (.const (.int .i64 918000))), (1, (.const (.int .i64 921599))), (2, (.const (.int .i64 9)))]) none,
  .mk (some 231) (.buildSlice 46 230 #[(0, (.tmp 1)), (1, (.tmp 2)), (2, (.tmp 3)), (3, (.tmp 4)), (4, (.tmp 5)), (5, (.tmp 6)), (6, (.tmp 7)), (7, (.tmp 8)), (8, (.tmp 9)), (9, (.tmp 10)), (10, (.tmp 11)), (11, (.tmp 12)), (12, (.tmp 13)), (13, (.tmp 14)), (14, (.tmp 15)), (15, (.tmp 16)), (16, (.tmp 17)), (17, (.tmp 18)), (18, (.tmp 19)), (19, (.tmp 20)), (20, (.tmp 21)), (21, (.tmp 22)), (22, (.tmp 23)), (23, (.tmp 24)), (24, (.tmp 25)), (25, (.tmp 26)), (26, (.tmp 27)), (27, (.tmp 28)), (28, (.tmp 29)), (29, (.tmp 30)), (30, (.tmp 31)), (31, (.tmp 32)), (32, (.tmp 33)), (33, (.tmp 34)), (34, (.tmp 35)), (35, (.tmp 36)), (36, (.tmp 37)), (37, (.tmp 38)), (38, (.tmp 39)), (39, (.tmp 40)), (40, (.tmp 41)), (41, (.tmp 42)), (42, (.tmp 43)), (43, (.tmp 44)), (44, (.tmp 45)), (45, (.tmp 46)), (46, (.tmp 47)), (47, (.tmp 48)), (48, (.tmp 49)), (49, (.tmp 50)), (50, (.tmp 51)), (51, (.tmp 52)), (52, (.tmp 53)), (53, (.tmp 54)), (54, (.tmp 55)), (55, (.tmp 56)), (56, (.tmp 57)), (57, (.tmp 58)), (58, (.tmp 59)), (59, (.tmp 60)), (60, (.tmp 61)), (61, (.tmp 62)), (62, (.tmp 63)), (63, (.tmp 64)), (64, (.tmp 65)), (65, (.tmp 66)), (66, (.tmp 67)), (67, (.tmp 68)), (68, (.tmp 69)), (69, (.tmp 70)), (70, (.tmp 71)), (71, (.tmp 72)), (72, (.tmp 73)), (73, (.tmp 74)), (74, (.tmp 75)), (75, (.tmp 76)), (76, (.tmp 77)), (77, (.tmp 78)), (78, (.tmp 79)), (79, (.tmp 80)), (80, (.tmp 81)), (81, (.tmp 82)), (82, (.tmp 83)), (83, (.tmp 84)), (84, (.tmp 85)), (85, (.tmp 86)), (86, (.tmp 87)), (87, (.tmp 88)), (88, (.tmp 89)), (89, (.tmp 90)), (90, (.tmp 91)), (91, (.tmp 92)), (92, (.tmp 93)), (93, (.tmp 94)), (94, (.tmp 95)), (95, (.tmp 96)), (96, (.tmp 97)), (97, (.tmp 98)), (98, (.tmp 99)), (99, (.tmp 100)), (100, (.tmp 101)), (101, (.tmp 102)), (102, (.tmp 103)), (103, (.tmp 104)), (104, (.tmp 105)), (105, (.tmp 106)), (106, (.tmp 107)), (107, (.tmp 108)), (108, (.tmp 109)), (109, (.tmp 110)), (110, (.tmp 111)), (111, (.tmp 112)), (112, (.tmp 113)), (113, (.tmp 114)), (114, (.tmp 115)), (115, (.tmp 116)), (116, (.tmp 117)), (117, (.tmp 118)), (118, (.tmp 119)), (119, (.tmp 120)), (120, (.tmp 121)), (121, (.tmp 122)), (122, (.tmp 123)), (123, (.tmp 124)), (124, (.tmp 125)), (125, (.tmp 126)), (126, (.tmp 127)), (127, (.tmp 128)), (128, (.tmp 129)), (129, (.tmp 130)), (130, (.tmp 131)), (131, (.tmp 132)), (132, (.tmp 133)), (133, (.tmp 134)), (134, (.tmp 135)), (135, (.tmp 136)), (136, (.tmp 137)), (137, (.tmp 138)), (138, (.tmp 139)), (139, (.tmp 140)), (140, (.tmp 141)), (141, (.tmp 142)), (142, (.tmp 143)), (143, (.tmp 144)), (144, (.tmp 145)), (145, (.tmp 146)), (146, (.tmp 147)), (147, (.tmp 148)), (148, (.tmp 149)), (149, (.tmp 150)), (150, (.tmp 151)), (151, (.tmp 152)), (152, (.tmp 153)), (153, (.tmp 154)), (154, (.tmp 155)), (155, (.tmp 156)), (156, (.tmp 157)), (157, (.tmp 158)), (158, (.tmp 159)), (159, (.tmp 160)), (160, (.tmp 161)), (161, (.tmp 162)), (162, (.tmp 163)), (163, (.tmp 164)), (164, (.tmp 165)), (165, (.tmp 166)), (166, (.tmp 167)), (167, (.tmp 168)), (168, (.tmp 169)), (169, (.tmp 170)), (170, (.tmp 171)), (171, (.tmp 172)), (172, (.tmp 173)), (173, (.tmp 174)), (174, (.tmp 175)), (175, (.tmp 176)), (176, (.tmp 177)), (177, (.tmp 178)), (178, (.tmp 179)), (179, (.tmp 180)), (180, (.tmp 181)), (181, (.tmp 182)), (182, (.tmp 183)), (183, (.tmp 184)), (184, (.tmp 185)), (185, (.tmp 186)), (186, (.tmp 187)), (187, (.tmp 188)), (188, (.tmp 189)), (189, (.tmp 190)), (190, (.tmp 191)), (191, (.tmp 192)), (192, (.tmp 193)), (193, (.tmp 194)), (194, (.tmp 195)), (195, (.tmp 196)), (196, (.tmp 197)), (197, (.tmp 198)), (198, (.tmp 199)), (199, (.tmp 200)), (200, (.tmp 201)), (201, (.tmp 202)), (202, (.tmp 203)), (203, (.tmp 204)), (204, (.tmp 205)), (205, (.tmp 206)), (206, (.tmp 207)), (207, (.tmp 208)), (208, (.tmp 209)), (209, (.tmp 210)), (210, (.tmp 211)), (211, (.tmp 212)), (212, (.tmp 213)), (213, (.tmp 214)), (214, (.tmp 215)), (215, (.tmp 216)), (216, (.tmp 217)), (217, (.tmp 218)), (218, (.tmp 219)), (219, (.tmp 220)), (220, (.tmp 221)), (221, (.tmp 222)), (222, (.tmp 223)), (223, (.tmp 224)), (224, (.tmp 225)), (225, (.tmp 226)), (226, (.tmp 227)), (227, (.tmp 228)), (228, (.tmp 229)), (229, (.tmp 230))]) none,
  .mk (some 0) (.assign (.tmp 231)) none]
def c20 : PC := (.seq (.reg false r20_0) (.seq (.reg false r20_1) .ret))
theorem e20 {args : List PV} {h : Heap} {K : PV → Heap → Prop} (hl : args.length = 0) (s : pwp Try.prog [] c20 (fin Try.prog [.tmp 0] h K) (slots0 (olds args)) h) : CanP Try.prog 20 args h K :=
  can_of2 (n := 232) mixed Try.func20 rfl (by kernel_rfl) (by rw [hl]; kernel_rfl) rfl (by kernel_rfl) s
/-! ### naskh.api.JoinRanges: function 21 -/
def r21_0 : List PS := [.mk (some 0) (.assign (.const (.slice none 0 0))) none]
def r21_1 : List PS := [.mk (some 1) (.build 72 #[(0, (.const (.int .i64 768))), (1, (.const (.int .i64 879))), (2, (.const (.int .i64 1)))]) none,
  .mk (some 2) (.build 72 #[(0, (.const (.int .i64 1155))), (1, (.const (.int .i64 1161))), (2, (.const (.int .i64 1)))]) none,
  .mk (some 3) (.build 72 #[(0, (.const (.int .i64 1425))), (1, (.const (.int .i64 1469))), (2, (.const (.int .i64 1)))]) none,
  .mk (some 4) (.build 72 #[(0, (.const (.int .i64 1471))), (1, (.const (.int .i64 1471))), (2, (.const (.int .i64 1)))]) none,
  .mk (some 5) (.build 72 #[(0, (.const (.int .i64 1473))), (1, (.const (.int .i64 1474))), (2, (.const (.int .i64 1)))]) none,
  .mk (some 6) (.build 72 #[(0, (.const (.int .i64 1476))), (1, (.const (.int .i64 1477))), (2, (.const (.int .i64 1)))]) none,
  .mk (some 7) (.build 72 #[(0, (.const (.int .i64 1479))), (1, (.const (.int .i64 1479))), (2, (.const (.int .i64 1)))]) none,
  .mk (some 8) (.build 72 #[(0, (.const (.int .i64 1552))), (1, (.const (.int .i64 1562))), (2, (.const (.int .i64 1)))]) none,
  .mk (some 9) (.build 72 #[(0, (.const (.int .i64 1564))), (1, (.const (.int .i64 1564))), (2, (.const (.int .i64 1)))]) none,
  .mk (some 10) (.build 72 #[(0, (.const (.int .i64 1568))), (1, (.const (.int .i64 1568))), (2, (.const (.int .i64 3)))]) none,
  .mk (some 11) (.build 72 #[(0, (.const (.int .i64 1570))), (1, (.const (.int .i64 1573))), (2, (.const (.int .i64 2)))]) none,
  .mk (some 12) (.build 72 #[(0, (.const (.int .i64 1574))), (1, (.const (.int .i64 1574))), (2, (.const (.int .i64 3)))]) none,
  .mk (some 13) (.build 72 #[(0, (.const (.int .i64 1575))), (1, (.const (.int .i64 1575))), (2, (.const (.int .i64 2)))]) none,
  .mk (some 14) (.build 72 #[(0, (.const (.int .i64 1576))), (1, (.const (.int .i64 1576))), (2, (.const (.int .i64 3)))]) none,
  .mk (some 15) (.build 72 #[(0, (.const (.int .i64 1577))), (1, (.const (.int .i64 1577))), (2, (.const (.int .i64 2)))]) none,
  .mk (some 16) (.build 72 #[(0, (.const (.int .i64 1578))), (1, (.const (.int .i64 1582))), (2, (.const (.int .i64 3)))]) none,
  .mk (some 17) (.build 72 #[(0, (.const (.int .i64 1583))), (1, (.const (.int .i64 1586))), (2, (.const (.int .i64 2)))]) none,
  .mk (some 18) (.build 72 #[(0, (.const (.int .i64 1587))), (1, (.const (.int .i64 1599))), (2, (.const (.int .i64 3)))]) none,
  .mk (some 19) (.build 72 #[(0, (.const (.int .i64 1600))), (1, (.const (.int .i64 1600))), (2, (.const (.int .i64 5)))]) none,
  .mk (some 20) (.build 72 #[(0, (.const (.int .i64 1601))), (1, (.const (.int .i64 1607))), (2, (.const (.int .i64 3)))]) none,
  .mk (some 21) (.build 72 #[(0, (.const (.int .i64 1608))), (1, (.const (.int .i64 1608))), (2, (.const (.int .i64 2)))]) none,
  .mk (some 22) (.build 72 #[(0, (.const (.int .i64 1609))), (1, (.const (.int .i64 1610))), (2, (.const (.int .i64 3)))]) none,
  .mk (some 23) (.build 72 #[(0, (.const (.int .i64 1611))), (1, (.const (.int .i64 1631))), (2, (.const (.int .i64 1)))]) none,
  .mk (some 24) (.build 72 #[(0, (.const (.int .i64 1646))), (1, (.const (.int .i64 1647))), (2, (.const (.int .i64 3)))]) none,
  .mk (some 25) (.build 72 #[(0, (.const (.int .i64 1648))), (1, (.const (.int .i64 1648))), (2, (.const (.int .i64 1)))]) none,
  .mk (some 26) (.build 72 #[(0, (.const (.int .i64 1649))), (1, (.const (.int .i64 1651))), (2, (.const (.int .i64 2)))]) none,
  .mk (some 27) (.build 72 #[(0, (.const (.int .i64 1653))), (1, (.const (.int .i64 1655))), (2, (.const (.int .i64 2)))]) none,
  .mk (some 28) (.build 72 #[(0, (.const (.int .i64 1656))), (1, (.const (.int .i64 1671))), (2, (.const (.int .i64 3)))]) none,
  .mk (some 29) (.build 72 #[(0, (.const (.int .i64 1672))), (1, (.const (.int .i64 1689))), (2, (.const (.int .i64 2)))]) none,
  .mk (some 30) (.build 72 #[(0, (.const (.int .i64 1690))), (1, (.const (.int .i64 1727))), (2, (.const (.int .i64 3)))]) none,
  .mk (some 31) (.build 72 #[(0, (.const (.int .i64 1728))), (1, (.const (.int .i64 1728))), (2, (.const (.int .i64 2)))]) none,
  .mk (some 32) (.build 72 #[(0, (.const (.int .i64 1729))), (1, (.const (.int .i64 1730))), (2, (.const (.int .i64 3)))]) none,
  .mk (some 33) (.build 72 #[(0, (.const (.int .i64 1731))), (1, (.const (.int .i64 1739))), (2, (.const (.int .i64 2)))]) none,
  .mk (some 34) (.build 72 #[(0, (.const (.int .i64 1740))), (1, (.const (.int .i64 1740))), (2, (.const (.int .i64 3)))]) none,
  .mk (some 35) (.build 72 #[(0, (.const (.int .i64 1741))), (1, (.const (.int .i64 1741))), (2, (.const (.int .i64 2)))]) none,
  .mk (some 36) (.build 72 #[(0, (.const (.int .i64 1742))), (1, (.const (.int .i64 1742))), (2, (.const (.int .i64 3)))]) none,
  .mk (some 37) (.build 72 #[(0, (.const (.int .i64 1743))), (1, (.const (.int .i64 1743))), (2, (.const (.int .i64 2)))]) none,
  .mk (some 38) (.build 72 #[(0, (.const (.int .i64 1744))), (1, (.const (.int .i64 1745))), (2, (.const (.int .i64 3)))]) none,
  .mk (some 39) (.build 72 #[(0, (.const (.int .i64 1746))), (1, (.const (.int .i64 1747))), (2, (.const (.int .i64 2)))]) none,
  .mk (some 40) (.build 72 #[(0, (.const (.int .i64 1749))), (1, (.const (.int .i64 1749))), (2, (.const (.int .i64 2)))]) none,
  .mk (some 41) (.build 72 #[(0, (.const (.int .i64 1750))), (1, (.const (.int .i64 1756))), (2, (.const (.int .i64 1)))]) none,
  .mk (some 42) (.build 72 #[(0, (.const (.int .i64 1759))), (1, (.const (.int .i64 1764))), (2, (.const (.int .i64 1)))]) none,
  .mk (some 43) (.build 72 #[(0, (.const (.int .i64 1767))), (1, (.const (.int .i64 1768))), (2, (.const (.int .i64 1)))]) none,
  .mk (some 44) (.build 72 #[(0, (.const (.int .i64 1770))), (1, (.const (.int .i64 1773))), (2, (.const (.int .i64 1)))]) none,
  .mk (some 45) (.build 72 #[(0, (.const (.int .i64 1774))), (1, (.const (.int .i64 1775))), (2, (.const (.int .i64 2)))]) none,
  .mk (some 46) (.build 72 #[(0, (.const (.int .i64 1786))), (1, (.const (.int .i64 1788))), (2, (.const (.int .i64 3)))]) none,
  .mk (some 47) (.build 72 #[(0, (.const (.int .i64 1791))), (1, (.const (.int .i64 1791))), (2, (.const (.int .i64 3)))]) none,
  .mk (some 48) (.build 72 #[(0, (.const (.int .i64 1840))), (1, (.const (.int .i64 1866))), (2, (.const (.int .i64 1)))]) none,
  .mk (some 49) (.build 72 #[(0, (.const (.int .i64 1958))), (1, (.const (.int .i64 1968))), (2, (.const (.int .i64 1)))]) none,
  .mk (some 50) (.build 72 #[(0, (.const (.int .i64 1994))), (1, (.const (.int .i64 2026))), (2, (.const (.int .i64 3)))]) none,
  .mk (some 51) (.build 72 #[(0, (.const (.int .i64 2027))), (1, (.const (.int .i64 2035))), (2, (.const (.int .i64 1)))]) none,
  .mk (some 52) (.build 72 #[(0, (.const (.int .i64 2042))), (1, (.const (.int .i64 2042))), (2, (.const (.int .i64 5)))]) none,
  .mk (some 53) (.build 72 #[(0, (.const (.int .i64 2200))), (1, (.const (.int .i64 2207))), (2, (.const (.int .i64 1)))]) none,
  .mk (some 54) (.build 72 #[(0, (.const (.int .i64 2250))), (1, (.const (.int .i64 2273))), (2, (.const (.int .i64 1)))]) none,
  .mk (some 55) (.build 72 #[(0, (.const (.int .i64 2275))), (1, (.const (.int .i64 2306))), (2, (.const (.int .i64 1)))]) none,
  .mk (some 56) (.build 72 #[(0, (.const (.int .i64 8203))), (1, (.const (.int .i64 8203))), (2, (.const (.int .i64 1)))]) none,
  .mk (some 57) (.build 72 #[(0, (.const (.int .i64 8205))), (1, (.const (.int .i64 8205))), (2, (.const (.int .i64 5)))]) none,
  .mk (some 58) (.build 72 #[(0, (.const (.int .i64 8206))), (1, (.const (.int .i64 8207))), (2, (.const (.int .i64 1)))]) none,
  .mk (some 59) (.build 72 #[(0, (.const (.int .i64 8234))), (1, (.const (.int .i64 8238))), (2, (.const (.int .i64 1)))]) none,
  .mk (some 60) (.build 72 #[(0, (.const (.int .i64 8288))), (1, (.const (.int .i64 8292))), (2, (.const (.int .i64 1)))]) none,
  .mk (some 61) (.build 72 #[(0, (.const (.int .i64 8298))), (1, (.const (.int .i64 8303))), (2, (.const (.int .i64 1)))]) none,
  .mk (some 62) (.build 72 #[(0, (.const (.int .i64 8400))), (1, (.const (.int .i64 8432))), (2, (.const (.int .i64 1)))]) none,
  .mk (some 63) (.build 72 #[(0, (.const (.int .i64 43072))), (1, (.const (.int .i64 43121))), (2, (.const (.int .i64 3)))]) none,
  .mk (some 64) (.build 72 #[(0, (.const (.int .i64 43122))), (1, (.const (.int .i64 43122))), (2, (.const (.int .i64 4)))]) none,
  .mk (some 65) (.build 72 #[(0, (.const (.int .i64 65024))), (1, (.const (.int .i64 65039))), (2, (.const (.int .i64 1)))]) none,
  .mk (some 66) (.build 72 #[(0, (.const (.int .i64 65056))), (1, (.const (.int .i64 65071))), (2, (.const (.int .i64 1)))]) none,
  .mk (some 67) (.build 72 #[(0, (.const (.int .i64 65279))), (1, (.const (.int .i64 65279))), (2, (.const (.int .i64 1)))]) none,
  .mk (some 68) (.build 72 #[(0, (.const (.int .i64 917760))), (1, (.const (.int .i64 917999))), (2, (.const (.int .i64 1)))]) none,
  .mk (some 69) (.buildSlice 46 68 #[(0, (.tmp 1)), (1, (.tmp 2)), (2, (.tmp 3)), (3, (.tmp 4)), (4, (.tmp 5)), (5, (.tmp 6)), (6, (.tmp 7)), (7, (.tmp 8)), (8, (.tmp 9)), (9, (.tmp 10)), (10, (.tmp 11)), (11, (.tmp 12)), (12, (.tmp 13)), (13, (.tmp 14)), (14, (.tmp 15)), (15, (.tmp 16)), (16, (.tmp 17)), (17, (.tmp 18)), (18, (.tmp 19)), (19, (.tmp 20)), (20, (.tmp 21)), (21, (.tmp 22)), (22, (.tmp 23)), (23, (.tmp 24)), (24, (.tmp 25)), (25, (.tmp 26)), (26, (.tmp 27)), (27, (.tmp 28)), (28, (.tmp 29)), (29, (.tmp 30)), (30, (.tmp 31)), (31, (.tmp 32)), (32, (.tmp 33)), (33, (.tmp 34)), (34, (.tmp 35)), (35, (.tmp 36)), (36, (.tmp 37)), (37, (.tmp 38)), (38, (.tmp 39)), (39, (.tmp 40)), (40, (.tmp 41)), (41, (.tmp 42)), (42, (.tmp 43)), (43, (.tmp 44)), (44, (.tmp 45)), (45, (.tmp 46)), (46, (.tmp 47)), (47, (.tmp 48)), (48, (.tmp 49)), (49, (.tmp 50)), (50, (.tmp 51)), (51, (.tmp 52)), (52, (.tmp 53)), (53, (.tmp 54)), (54, (.tmp 55)), (55, (.tmp 56)), (56, (.tmp 57)), (57, (.tmp 58)), (58, (.tmp 59)), (59, (.tmp 60)), (60, (.tmp 61)), (61, (.tmp 62)), (62, (.tmp 63)), (63, (.tmp 64)), (64, (.tmp 65)), (65, (.tmp 66)), (66, (.tmp 67)), (67, (.tmp 68))]) none,
  .mk (some 0) (.assign (.tmp 69)) none]
def c21 : PC := (.seq (.reg false r21_0) (.seq (.reg false r21_1) .ret))
theorem e21 {args : List PV} {h : Heap} {K : PV → Heap → Prop} (hl : args.length = 0) (s : pwp Try.prog [] c21 (fin Try.prog [.tmp 0] h K) (slots0 (olds args)) h) : CanP Try.prog 21 args h K :=
  can_of2 (n := 70) mixed Try.func21 rfl (by kernel_rfl) (by rw [hl]; kernel_rfl) rfl (by kernel_rfl) s
/-! ### naskh.props.New: function 7 -/
def r7_0 : List PS := [.mk (some 0) (.assign (.const (.pointer none))) none]
def r7_1 : List PS := [.mk (some 6) (.call ⟨(.value (.func 20)), #[], #[]⟩) none,
  .mk (some 7) (.call ⟨(.value (.func 19)), #[(.tmp 6), (.const (.int .i64 0))], #[46, 3]⟩) none,
  .mk (some 5) (.move (.tmp 7)) none,
  .mk (some 8) (.extract (.tmp 5) 0) none,
  .mk (some 9) (.extract (.tmp 5) 1) none,
  .mk (some 1) (.assign (.tmp 8)) none,
  .mk (some 2) (.assign (.tmp 9)) none]
def r7_2 : List PS := [.mk (some 11) (.call ⟨(.value (.func 21)), #[], #[]⟩) none,
  .mk (some 12) (.call ⟨(.value (.func 19)), #[(.tmp 11), (.const (.int .i64 0))], #[46, 3]⟩) none,
  .mk (some 10) (.move (.tmp 12)) none,
  .mk (some 13) (.extract (.tmp 10) 0) none,
  .mk (some 14) (.extract (.tmp 10) 1) none,
  .mk (some 3) (.assign (.tmp 13)) none,
  .mk (some 4) (.assign (.tmp 14)) none]
def r7_3 : List PS := [.mk (some 15) (.move (.tmp 2)) none,
  .mk (some 16) (.binOp .neq 43 (.tmp 15) (.const (.int .i64 0)) 43) none,
  .mk (some 17) (.move (.tmp 16)) none,
  .mk (some 18) (.move (.tmp 4)) (some (17, false)),
  .mk (some 19) (.binOp .neq 43 (.tmp 18) (.const (.int .i64 0)) 43) (some (17, false)),
  .mk (some 20) (.pick (.tmp 17) (.const (.bool true)) (.tmp 19)) none]
def r7_4 : List PS := [.mk (some 0) (.assign (.const (.pointer none))) none]
def r7_5 : List PS := [.mk (some 21) (.move (.tmp 1)) none,
  .mk (some 22) (.move (.tmp 3)) none,
  .mk (some 23) (.build 49 #[(0, (.tmp 21)), (1, (.tmp 22))]) none,
  .mk (some 24) (.build 51 #[(0, (.tmp 23))]) none,
  .mk (some 25) (.box 51 (.tmp 24)) none,
  .mk (some 0) (.assign (.tmp 25)) none]
def c7 : PC := (.seq (.reg false r7_0) (.seq (.reg false r7_1) (.seq (.reg false r7_2) (.seq (.seq (.reg false r7_3) (.cond (.tmp 20) (.seq (.reg false r7_4) .ret) .skip)) (.seq (.reg false r7_5) .ret)))))
theorem e7 {args : List PV} {h : Heap} {K : PV → Heap → Prop} (hl : args.length = 0) (s : pwp Try.prog [] c7 (fin Try.prog [.tmp 0] h K) (slots0 (olds args)) h) : CanP Try.prog 7 args h K :=
  can_of2 (n := 26) mixed Try.func7 rfl (by kernel_rfl) (by rw [hl]; kernel_rfl) rfl (by kernel_rfl) s
/-! ### slices.Equal[[]int,int]: function 8 -/
def r8_0 : List PS := [.mk (some 4) (.assign (.const (.bool false))) none]
def r8_1 : List PS := [.mk (some 6) (.move (.tmp 0)) none,
  .mk (some 7) (.call ⟨(.builtin .len), #[(.tmp 6)], #[22]⟩) none,
  .mk (some 8) (.move (.tmp 1)) none,
  .mk (some 9) (.call ⟨(.builtin .len), #[(.tmp 8)], #[22]⟩) none,
  .mk (some 10) (.binOp .neq 3 (.tmp 7) (.tmp 9) 3) none]
def r8_2 : List PS := [.mk (some 4) (.assign (.const (.bool false))) none]
def r8_3 : List PS := [.mk (some 11) (.move (.tmp 0)) none,
  .mk (some 12) (.call ⟨(.builtin .len), #[(.tmp 11)], #[22]⟩) none,
  .mk (some 13) (.move (.const (.int .i64 0))) none]
def r8_4 : List PS := [.mk (some 14) (.binOp .lss 3 (.tmp 13) (.tmp 12) 3) none]
def r8_5 : List PS := [.mk (some 15) (.move (.tmp 13)) none,
  .mk (some 5) (.assign (.tmp 15)) none]
def r8_6 : List PS := [.mk (some 16) (.move (.tmp 0)) none,
  .mk (some 17) (.move (.tmp 5)) none,
  .mk (some 18) (.indexAddr 22 (.tmp 16) (.tmp 17)) none,
  .mk (some 19) (.load 3 (.tmp 18)) none,
  .mk (some 20) (.move (.tmp 1)) none,
  .mk (some 21) (.move (.tmp 5)) none,
  .mk (some 22) (.indexAddr 22 (.tmp 20) (.tmp 21)) none,
  .mk (some 23) (.load 3 (.tmp 22)) none,
  .mk (some 24) (.binOp .neq 3 (.tmp 19) (.tmp 23) 3) none]
def r8_7 : List PS := [.mk (some 4) (.assign (.const (.bool false))) none]
def r8_8 : List PS := [.mk (some 25) (.binOp .add 3 (.tmp 13) (.const (.int .i64 1)) 3) none,
  .mk (some 13) (.move (.tmp 25)) none]
def r8_9 : List PS := [.mk (some 4) (.assign (.const (.bool true))) none]
def c8 : PC := (.seq (.reg false r8_0) (.seq (.seq (.reg false r8_1) (.cond (.tmp 10) (.seq (.reg false r8_2) .ret) .skip)) (.seq (.seq (.reg false r8_3) (.block 0 (.loop (.seq (.reg false r8_4) (.seq (.cond (.tmp 14) .skip (.exit 0)) (.seq (.block 1 (.seq (.reg false r8_5) (.seq (.reg true r8_6) (.cond (.tmp 24) (.seq (.reg false r8_7) .ret) .skip)))) (.reg false r8_8))))))) (.seq (.reg false r8_9) .ret))))
theorem e8 {args : List PV} {h : Heap} {K : PV → Heap → Prop} (hl : args.length = 2) (s : pwp Try.prog [] c8 (fin Try.prog [.tmp 4] h K) (slots0 (olds args)) h) : CanP Try.prog 8 args h K :=
  can_of2 (n := 26) mixed Try.func8 rfl (by kernel_rfl) (by rw [hl]; kernel_rfl) rfl (by kernel_rfl) s
/-! ### (*naskh.props.Props).made: function 51 -/
def r51_0 : List PS := [.mk (some 2) (.assign (.const (.bool false))) none]
def r51_1 : List PS := [.mk (some 3) (.move (.tmp 0)) none,
  .mk (some 4) (.binOp .neq 24 (.tmp 3) (.const (.pointer none)) 24) none,
  .mk (some 5) (.move (.tmp 4)) none,
  .mk (some 6) (.move (.tmp 0)) (some (5, true)),
  .mk (some 7) (.nilCheck (.tmp 6)) (some (5, true)),
  .mk (some 8) (.fieldAddr 51 (.tmp 7) 0) (some (5, true)),
  .mk (some 9) (.fieldAddr 49 (.tmp 8) 0) (some (5, true)),
  .mk (some 10) (.load 42 (.tmp 9)) (some (5, true)),
  .mk (some 11) (.binOp .neq 42 (.tmp 10) (.const (.pointer none)) 42) (some (5, true)),
  .mk (some 12) (.pick (.tmp 5) (.tmp 11) (.const (.bool false))) none,
  .mk (some 2) (.assign (.tmp 12)) none]
def c51 : PC := (.seq (.reg false r51_0) (.seq (.reg false r51_1) .ret))
theorem e51 {args : List PV} {h : Heap} {K : PV → Heap → Prop} (hl : args.length = 1) (s : pwp Try.prog [] c51 (fin Try.prog [.tmp 2] h K) (slots0 (olds args)) h) : CanP Try.prog 51 args h K :=
  can_of2 (n := 13) mixed Try.func51 rfl (by kernel_rfl) (by rw [hl]; kernel_rfl) rfl (by kernel_rfl) s
/-! ### naskh.props.code: function 56 -/
def r56_0 : List PS := [.mk (some 2) (.assign (.const (.bool false))) none]
def r56_1 : List PS := [.mk (some 3) (.move (.tmp 0)) none,
  .mk (some 4) (.binOp .geq 3 (.tmp 3) (.const (.int .i64 0)) 3) none,
  .mk (some 5) (.move (.tmp 4)) none,
  .mk (some 6) (.move (.tmp 0)) (some (5, true)),
  .mk (some 7) (.binOp .leq 3 (.tmp 6) (.const (.int .i64 1114111)) 3) (some (5, true)),
  .mk (some 8) (.pick (.tmp 5) (.tmp 7) (.const (.bool false))) none,
  .mk (some 2) (.assign (.tmp 8)) none]
def c56 : PC := (.seq (.reg false r56_0) (.seq (.reg false r56_1) .ret))
theorem e56 {args : List PV} {h : Heap} {K : PV → Heap → Prop} (hl : args.length = 1) (s : pwp Try.prog [] c56 (fin Try.prog [.tmp 2] h K) (slots0 (olds args)) h) : CanP Try.prog 56 args h K :=
  can_of2 (n := 9) mixed Try.func56 rfl (by kernel_rfl) (by rw [hl]; kernel_rfl) rfl (by kernel_rfl) s
/-! ### (*naskh.trie.Table).has: function 58 -/
def r58_0 : List PS := [.mk (some 4) (.assign (.const (.bool false))) none]
def r58_1 : List PS := [.mk (some 5) (.move (.tmp 0)) none,
  .mk (some 6) (.binOp .neq 42 (.tmp 5) (.const (.pointer none)) 42) none,
  .mk (some 7) (.move (.tmp 6)) none,
  .mk (some 8) (.move (.tmp 0)) (some (7, true)),
  .mk (some 9) (.nilCheck (.tmp 8)) (some (7, true)),
  .mk (some 10) (.fieldAddr 65 (.tmp 9) 2) (some (7, true)),
  .mk (some 11) (.load 4 (.tmp 10)) (some (7, true)),
  .mk (some 12) (.pick (.tmp 7) (.tmp 11) (.const (.bool false))) none,
  .mk (some 13) (.move (.tmp 12)) none,
  .mk (some 14) (.move (.tmp 1)) (some (13, true)),
  .mk (some 15) (.binOp .geq 3 (.tmp 14) (.const (.int .i64 0)) 3) (some (13, true)),
  .mk (some 16) (.pick (.tmp 13) (.tmp 15) (.const (.bool false))) none,
  .mk (some 17) (.move (.tmp 16)) none,
  .mk (some 18) (.move (.tmp 1)) (some (17, true)),
  .mk (some 19) (.binOp .leq 3 (.tmp 18) (.const (.int .i64 1114111)) 3) (some (17, true)),
  .mk (some 20) (.pick (.tmp 17) (.tmp 19) (.const (.bool false))) none,
  .mk (some 4) (.assign (.tmp 20)) none]
def c58 : PC := (.seq (.reg false r58_0) (.seq (.reg false r58_1) .ret))
theorem e58 {args : List PV} {h : Heap} {K : PV → Heap → Prop} (hl : args.length = 2) (s : pwp Try.prog [] c58 (fin Try.prog [.tmp 4] h K) (slots0 (olds args)) h) : CanP Try.prog 58 args h K :=
  can_of2 (n := 21) mixed Try.func58 rfl (by kernel_rfl) (by rw [hl]; kernel_rfl) rfl (by kernel_rfl) s
/-! ### (*naskh.trie.stages).at: function 59 -/
def r59_0 : List PS := [.mk (some 4) (.assign (.const (.int .i64 0))) none]
def r59_1 : List PS := [.mk (some 5) (.move (.tmp 0)) none,
  .mk (some 6) (.nilCheck (.tmp 5)) none,
  .mk (some 7) (.fieldAddr 63 (.tmp 6) 1) none,
  .mk (some 8) (.load 61 (.tmp 7)) none,
  .mk (some 9) (.move (.tmp 0)) none,
  .mk (some 10) (.nilCheck (.tmp 9)) none,
  .mk (some 11) (.fieldAddr 63 (.tmp 10) 0) none,
  .mk (some 12) (.load 22 (.tmp 11)) none,
  .mk (some 13) (.move (.tmp 1)) none,
  .mk (some 14) (.binOp .shr 3 (.tmp 13) (.const (.int .u64 7)) 92) none,
  .mk (some 15) (.indexAddr 22 (.tmp 12) (.tmp 14)) none,
  .mk (some 16) (.load 3 (.tmp 15)) none,
  .mk (some 17) (.move (.tmp 1)) none,
  .mk (some 18) (.binOp .and 3 (.tmp 17) (.const (.int .i64 127)) 3) none,
  .mk (some 19) (.indexAddr 61 (.tmp 8) (.tmp 16)) none,
  .mk (some 20) (.indexAddr 67 (.tmp 19) (.tmp 18)) none,
  .mk (some 21) (.load 3 (.tmp 20)) none,
  .mk (some 4) (.assign (.tmp 21)) none]
def c59 : PC := (.seq (.reg false r59_0) (.seq (.reg true r59_1) .ret))
theorem e59 {args : List PV} {h : Heap} {K : PV → Heap → Prop} (hl : args.length = 2) (s : pwp Try.prog [] c59 (fin Try.prog [.tmp 4] h K) (slots0 (olds args)) h) : CanP Try.prog 59 args h K :=
  can_of2 (n := 22) mixed Try.func59 rfl (by kernel_rfl) (by rw [hl]; kernel_rfl) rfl (by kernel_rfl) s
/-! ### (*naskh.trie.Table).Get: function 57 -/
def r57_0 : List PS := [.mk (some 4) (.assign (.const (.int .i64 0))) none]
def r57_1 : List PS := [.mk (some 6) (.move (.tmp 0)) none,
  .mk (some 7) (.move (.tmp 1)) none,
  .mk (some 8) (.call ⟨(.value (.func 58)), #[(.tmp 6), (.tmp 7)], #[42, 3]⟩) none,
  .mk (some 5) (.assign (.tmp 8)) none]
def r57_2 : List PS := [.mk (some 9) (.move (.tmp 0)) none,
  .mk (some 10) (.nilCheck (.tmp 9)) none,
  .mk (some 11) (.fieldAddr 65 (.tmp 10) 0) none,
  .mk (some 12) (.move (.tmp 1)) none,
  .mk (some 13) (.call ⟨(.value (.func 59)), #[(.tmp 11), (.tmp 12)], #[63, 3]⟩) none,
  .mk (some 4) (.assign (.tmp 13)) none]
def r57_3 : List PS := [.mk (some 15) (.move (.tmp 0)) none,
  .mk (some 16) (.binOp .eql 42 (.tmp 15) (.const (.pointer none)) 42) none,
  .mk (some 14) (.assign (.tmp 16)) none]
def r57_4 : List PS := [.mk (some 4) (.assign (.const (.int .i64 0))) none]
def r57_5 : List PS := [.mk (some 17) (.move (.tmp 0)) none,
  .mk (some 18) (.nilCheck (.tmp 17)) none,
  .mk (some 19) (.fieldAddr 65 (.tmp 18) 1) none,
  .mk (some 20) (.load 3 (.tmp 19)) none,
  .mk (some 4) (.assign (.tmp 20)) none]
def c57 : PC := (.seq (.reg false r57_0) (.seq (.block 0 (.seq (.reg false r57_1) (.cond (.tmp 5) (.seq (.reg false r57_2) .ret) (.seq (.reg false r57_3) (.cond (.tmp 14) (.seq (.reg false r57_4) .ret) .skip))))) (.seq (.reg false r57_5) .ret)))
theorem e57 {args : List PV} {h : Heap} {K : PV → Heap → Prop} (hl : args.length = 2) (s : pwp Try.prog [] c57 (fin Try.prog [.tmp 4] h K) (slots0 (olds args)) h) : CanP Try.prog 57 args h K :=
  can_of2 (n := 21) mixed Try.func57 rfl (by kernel_rfl) (by rw [hl]; kernel_rfl) rfl (by kernel_rfl) s
/-! ### (*naskh.props.Props).Class: function 52 -/
def r52_0 : List PS := [.mk (some 4) (.assign (.const (.int .i64 0))) none]
def r52_1 : List PS := [.mk (some 5) (.move (.tmp 0)) none,
  .mk (some 6) (.call ⟨(.value (.func 51)), #[(.tmp 5)], #[24]⟩) none,
  .mk (some 7) (.unOp .not 4 (.tmp 6)) none,
  .mk (some 8) (.move (.tmp 7)) none,
  .mk (some 9) (.move (.tmp 1)) (some (8, false)),
  .mk (some 10) (.call ⟨(.value (.func 56)), #[(.tmp 9)], #[3]⟩) (some (8, false)),
  .mk (some 11) (.unOp .not 4 (.tmp 10)) (some (8, false)),
  .mk (some 12) (.pick (.tmp 8) (.const (.bool true)) (.tmp 11)) none]
def r52_2 : List PS := [.mk (some 4) (.assign (.const (.int .i64 13))) none]
def r52_3 : List PS := [.mk (some 13) (.move (.tmp 0)) none,
  .mk (some 14) (.nilCheck (.tmp 13)) none,
  .mk (some 15) (.fieldAddr 51 (.tmp 14) 0) none,
  .mk (some 16) (.fieldAddr 49 (.tmp 15) 0) none,
  .mk (some 17) (.load 42 (.tmp 16)) none,
  .mk (some 18) (.move (.tmp 1)) none,
  .mk (some 19) (.call ⟨(.value (.func 57)), #[(.tmp 17), (.tmp 18)], #[42, 3]⟩) none,
  .mk (some 4) (.assign (.tmp 19)) none]
def c52 : PC := (.seq (.reg false r52_0) (.seq (.seq (.reg false r52_1) (.cond (.tmp 12) (.seq (.reg false r52_2) .ret) .skip)) (.seq (.reg false r52_3) .ret)))
theorem e52 {args : List PV} {h : Heap} {K : PV → Heap → Prop} (hl : args.length = 2) (s : pwp Try.prog [] c52 (fin Try.prog [.tmp 4] h K) (slots0 (olds args)) h) : CanP Try.prog 52 args h K :=
  can_of2 (n := 20) mixed Try.func52 rfl (by kernel_rfl) (by rw [hl]; kernel_rfl) rfl (by kernel_rfl) s
/-! ### (*naskh.props.Props).is: function 44 -/
def r44_0 : List PS := [.mk (some 6) (.assign (.const (.bool false))) none]
def r44_1 : List PS := [.mk (some 10) (.move (.tmp 0)) none,
  .mk (some 11) (.call ⟨(.value (.func 51)), #[(.tmp 10)], #[24]⟩) none,
  .mk (some 12) (.unOp .not 4 (.tmp 11)) none]
def r44_2 : List PS := [.mk (some 6) (.assign (.const (.bool false))) none]
def r44_3 : List PS := [.mk (some 13) (.move (.tmp 0)) none,
  .mk (some 14) (.move (.tmp 1)) none,
  .mk (some 15) (.call ⟨(.value (.func 52)), #[(.tmp 13), (.tmp 14)], #[24, 3]⟩) none,
  .mk (some 7) (.assign (.tmp 15)) none]
def r44_4 : List PS := [.mk (some 16) (.move (.tmp 2)) none,
  .mk (some 17) (.call ⟨(.builtin .len), #[(.tmp 16)], #[22]⟩) none,
  .mk (some 18) (.move (.const (.int .i64 0))) none]
def r44_5 : List PS := [.mk (some 19) (.binOp .lss 3 (.tmp 18) (.tmp 17) 3) none]
def r44_6 : List PS := [.mk (some 20) (.indexAddr 22 (.tmp 16) (.tmp 18)) none,
  .mk (some 21) (.load 3 (.tmp 20)) none,
  .mk (some 9) (.assign (.tmp 21)) none]
def r44_7 : List PS := [.mk (some 22) (.move (.tmp 7)) none,
  .mk (some 23) (.move (.tmp 9)) none,
  .mk (some 24) (.binOp .eql 3 (.tmp 22) (.tmp 23) 3) none]
def r44_8 : List PS := [.mk (some 6) (.assign (.const (.bool true))) none]
def r44_9 : List PS := [.mk (some 25) (.binOp .add 3 (.tmp 18) (.const (.int .i64 1)) 3) none,
  .mk (some 18) (.move (.tmp 25)) none]
def r44_10 : List PS := [.mk (some 6) (.assign (.const (.bool false))) none]
def c44 : PC := (.seq (.reg false r44_0) (.seq (.seq (.reg false r44_1) (.cond (.tmp 12) (.seq (.reg false r44_2) .ret) .skip)) (.seq (.reg false r44_3) (.seq (.seq (.reg false r44_4) (.block 0 (.loop (.seq (.reg false r44_5) (.seq (.cond (.tmp 19) .skip (.exit 0)) (.seq (.block 1 (.seq (.reg false r44_6) (.seq (.reg false r44_7) (.cond (.tmp 24) (.seq (.reg false r44_8) .ret) .skip)))) (.reg false r44_9))))))) (.seq (.reg false r44_10) .ret)))))
theorem e44 {args : List PV} {h : Heap} {K : PV → Heap → Prop} (hl : args.length = 3) (s : pwp Try.prog [] c44 (fin Try.prog [.tmp 6] h K) (slots0 (olds args)) h) : CanP Try.prog 44 args h K :=
  can_of2 (n := 26) mixed Try.func44 rfl (by kernel_rfl) (by rw [hl]; kernel_rfl) rfl (by kernel_rfl) s
/-! ### (*naskh.props.Props).Mark: function 30 -/
def r30_0 : List PS := [.mk (some 4) (.assign (.const (.bool false))) none]
def r30_1 : List PS := [.mk (some 5) (.move (.tmp 0)) none,
  .mk (some 6) (.move (.tmp 1)) none,
  .mk (some 7) (.buildSlice 22 1 #[(0, (.const (.int .i64 8)))]) none,
  .mk (some 8) (.call ⟨(.value (.func 44)), #[(.tmp 5), (.tmp 6), (.tmp 7)], #[24, 3, 22]⟩) none,
  .mk (some 4) (.assign (.tmp 8)) none]
def c30 : PC := (.seq (.reg false r30_0) (.seq (.reg false r30_1) .ret))
theorem e30 {args : List PV} {h : Heap} {K : PV → Heap → Prop} (hl : args.length = 2) (s : pwp Try.prog [] c30 (fin Try.prog [.tmp 4] h K) (slots0 (olds args)) h) : CanP Try.prog 30 args h K :=
  can_of2 (n := 9) mixed Try.func30 rfl (by kernel_rfl) (by rw [hl]; kernel_rfl) rfl (by kernel_rfl) s
/-! ### naskh.flip.Chunks: function 12 -/
def r12_0 : List PS := [.mk (some 6) (.assign (.const (.slice none 0 0))) none]
def r12_1 : List PS := [.mk (some 7) (.assign (.const (.slice none 0 0))) none]
def r12_2 : List PS := [.mk (some 11) (.move (.tmp 1)) none,
  .mk (some 12) (.call ⟨(.builtin .len), #[(.tmp 11)], #[22]⟩) none,
  .mk (some 13) (.move (.const (.int .i64 0))) none]
def r12_3 : List PS := [.mk (some 14) (.binOp .lss 3 (.tmp 13) (.tmp 12) 3) none]
def r12_4 : List PS := [.mk (some 15) (.move (.tmp 13)) none,
  .mk (some 16) (.indexAddr 22 (.tmp 11) (.tmp 13)) none,
  .mk (some 17) (.load 3 (.tmp 16)) none,
  .mk (some 8) (.assign (.tmp 15)) none,
  .mk (some 9) (.assign (.tmp 17)) none]
def r12_5 : List PS := [.mk (some 18) (.move (.tmp 7)) none,
  .mk (some 19) (.call ⟨(.builtin .len), #[(.tmp 18)], #[30]⟩) none,
  .mk (some 20) (.binOp .sub 3 (.tmp 19) (.const (.int .i64 1)) 3) none,
  .mk (some 10) (.assign (.tmp 20)) none]
def r12_6 : List PS := [.mk (some 21) (.move (.tmp 2)) none,
  .mk (some 22) (.move (.tmp 21)) none,
  .mk (some 23) (.move (.tmp 10)) (some (22, true)),
  .mk (some 24) (.binOp .geq 3 (.tmp 23) (.const (.int .i64 0)) 3) (some (22, true)),
  .mk (some 25) (.pick (.tmp 22) (.tmp 24) (.const (.bool false))) none,
  .mk (some 26) (.move (.tmp 25)) none,
  .mk (some 27) (.move (.tmp 0)) (some (26, true)),
  .mk (some 28) (.move (.tmp 9)) (some (26, true)),
  .mk (some 29) (.call ⟨(.value (.func 30)), #[(.tmp 27), (.tmp 28)], #[24, 3]⟩) (some (26, true)),
  .mk (some 30) (.pick (.tmp 26) (.tmp 29) (.const (.bool false))) none]
def r12_7 : List PS := [.mk (some 31) (.move (.tmp 7)) none,
  .mk (some 32) (.move (.tmp 10)) none,
  .mk (some 33) (.move (.tmp 8)) none,
  .mk (some 34) (.binOp .add 3 (.tmp 33) (.const (.int .i64 1)) 3) none,
  .mk (some 35) (.indexAddr 30 (.tmp 31) (.tmp 32)) none,
  .mk (some 36) (.fieldAddr 32 (.tmp 35) 1) none,
  .mk none (.store 3 (.tmp 36) (.tmp 34)) none]
def r12_8 : List PS := [.mk (some 37) (.move (.tmp 7)) none,
  .mk (some 38) (.move (.tmp 8)) none,
  .mk (some 39) (.move (.tmp 8)) none,
  .mk (some 40) (.binOp .add 3 (.tmp 39) (.const (.int .i64 1)) 3) none,
  .mk (some 41) (.build 32 #[(0, (.tmp 38)), (1, (.tmp 40))]) none,
  .mk (some 42) (.buildSlice 30 1 #[(0, (.tmp 41))]) none,
  .mk (some 43) (.call ⟨(.builtin .append), #[(.tmp 37), (.tmp 42)], #[30, 30]⟩) none,
  .mk (some 7) (.assign (.tmp 43)) none]
def r12_9 : List PS := [.mk (some 44) (.binOp .add 3 (.tmp 13) (.const (.int .i64 1)) 3) none,
  .mk (some 13) (.move (.tmp 44)) none]
def r12_10 : List PS := [.mk (some 45) (.move (.tmp 7)) none,
  .mk (some 6) (.assign (.tmp 45)) none]
def c12 : PC := (.seq (.reg false r12_0) (.seq (.reg false r12_1) (.seq (.seq (.reg false r12_2) (.block 0 (.loop (.seq (.reg false r12_3) (.seq (.cond (.tmp 14) .skip (.exit 0)) (.seq (.block 1 (.seq (.reg false r12_4) (.seq (.reg false r12_5) (.seq (.seq (.reg false r12_6) (.cond (.tmp 30) (.seq (.reg false r12_7) (.exit 1)) .skip)) (.reg false r12_8))))) (.reg false r12_9))))))) (.seq (.reg false r12_10) .ret))))
theorem e12 {args : List PV} {h : Heap} {K : PV → Heap → Prop} (hl : args.length = 3) (s : pwp Try.prog [] c12 (fin Try.prog [.tmp 6] h K) (slots0 (olds args)) h) : CanP Try.prog 12 args h K :=
  can_of2 (n := 46) mixed Try.func12 rfl (by kernel_rfl) (by rw [hl]; kernel_rfl) rfl (by kernel_rfl) s
/-! ### slices.Backward[[]naskh.api.Span,naskh.api.Span]$1: function 46 -/
def r46_0 : List PS := [.mk (some 4) (.load 30 (.tmp 1)) none,
  .mk (some 5) (.call ⟨(.builtin .len), #[(.tmp 4)], #[30]⟩) none,
  .mk (some 6) (.binOp .sub 3 (.tmp 5) (.const (.int .i64 1)) 3) none,
  .mk (some 3) (.assign (.tmp 6)) none]
def r46_1 : List PS := [.mk (some 7) (.move (.tmp 3)) none,
  .mk (some 8) (.binOp .geq 3 (.tmp 7) (.const (.int .i64 0)) 3) none]
def r46_2 : List PS := [.mk (some 11) (.move (.tmp 0)) none,
  .mk (some 12) (.move (.tmp 3)) none,
  .mk (some 13) (.load 30 (.tmp 1)) none,
  .mk (some 14) (.move (.tmp 3)) none,
  .mk (some 15) (.indexAddr 30 (.tmp 13) (.tmp 14)) none,
  .mk (some 16) (.load 32 (.tmp 15)) none,
  .mk (some 17) (.call ⟨(.value (.tmp 11)), #[(.tmp 12), (.tmp 16)], #[3, 32]⟩) none,
  .mk (some 18) (.unOp .not 4 (.tmp 17)) none]
def r46_3 : List PS := [.mk (some 9) (.move (.tmp 3)) none,
  .mk (some 10) (.binOp .sub 3 (.tmp 9) (.const (.int .i64 1)) 3) none,
  .mk (some 3) (.assign (.tmp 10)) none]
def c46 : PC := (.seq (.reg false r46_0) (.block 0 (.loop (.seq (.seq (.reg false r46_1) (.cond (.tmp 8) .skip (.exit 0))) (.seq (.block 1 (.seq (.reg false r46_2) (.cond (.tmp 18) .ret .skip))) (.reg false r46_3))))))
theorem e46 {args : List PV} {h : Heap} {K : PV → Heap → Prop} (hl : args.length = 2) (s : pwp Try.prog [] c46 (fin Try.prog [] h K) (slots0 (olds args)) h) : CanP Try.prog 46 args h K :=
  can_of2 (n := 19) mixed Try.func46 rfl (by kernel_rfl) (by rw [hl]; kernel_rfl) rfl (by kernel_rfl) s
/-! ### slices.Backward[[]naskh.api.Span,naskh.api.Span]: function 37 -/
def r37_0 : List PS := [.mk (some 1) (.box 30 (.tmp 0)) none,
  .mk (some 2) (.assign (.const .nilFunc)) none]
def r37_1 : List PS := [.mk (some 3) (.makeFunc (.func 46) #[] #[(.tmp 1)]) none,
  .mk (some 2) (.assign (.tmp 3)) none]
def c37 : PC := (.seq (.reg false r37_0) (.seq (.reg false r37_1) .ret))
theorem e37 {args : List PV} {h : Heap} {K : PV → Heap → Prop} (hl : args.length = 1) (s : pwp Try.prog [] c37 (fin Try.prog [.tmp 2] h K) (slots0 (olds args)) h) : CanP Try.prog 37 args h K :=
  can_of2 (n := 4) mixed Try.func37 rfl (by kernel_rfl) (by rw [hl]; kernel_rfl) rfl (by kernel_rfl) s
/-! ### naskh.flip.Reverse$1: function 22 -/
def r22_0 : List PS := [.mk (some 4) (.assign (.const (.slice none 0 0))) none]
def r22_1 : List PS := [.mk (some 5) (.load 24 (.tmp 1)) none,
  .mk (some 6) (.move (.tmp 0)) none,
  .mk (some 7) (.load 4 (.tmp 2)) none,
  .mk (some 8) (.call ⟨(.value (.func 23)), #[(.tmp 5), (.tmp 6), (.tmp 7)], #[24, 22, 4]⟩) none,
  .mk (some 4) (.assign (.tmp 8)) none]
def c22 : PC := (.seq (.reg false r22_0) (.seq (.reg false r22_1) .ret))
theorem e22 {args : List PV} {h : Heap} {K : PV → Heap → Prop} (hl : args.length = 3) (s : pwp Try.prog [] c22 (fin Try.prog [.tmp 4] h K) (slots0 (olds args)) h) : CanP Try.prog 22 args h K :=
  can_of2 (n := 9) mixed Try.func22 rfl (by kernel_rfl) (by rw [hl]; kernel_rfl) rfl (by kernel_rfl) s
/-! ### slices.Clone[[]int,int]: function 38 -/
def r38_0 : List PS := [.mk (some 2) (.assign (.const (.slice none 0 0))) none]
def r38_1 : List PS := [.mk (some 3) (.move (.tmp 0)) none,
  .mk (some 4) (.binOp .eql 22 (.tmp 3) (.const (.slice none 0 0)) 22) none]
def r38_2 : List PS := [.mk (some 2) (.assign (.const (.slice none 0 0))) none]
def r38_3 : List PS := [.mk (some 5) (.buildSlice 22 0 #[]) none,
  .mk (some 6) (.move (.tmp 0)) none,
  .mk (some 7) (.call ⟨(.builtin .append), #[(.tmp 5), (.tmp 6)], #[22, 22]⟩) none,
  .mk (some 2) (.assign (.tmp 7)) none]
def c38 : PC := (.seq (.reg false r38_0) (.seq (.seq (.reg false r38_1) (.cond (.tmp 4) (.seq (.reg false r38_2) .ret) .skip)) (.seq (.reg false r38_3) .ret)))
theorem e38 {args : List PV} {h : Heap} {K : PV → Heap → Prop} (hl : args.length = 1) (s : pwp Try.prog [5] c38 (fin Try.prog [.tmp 2] h K) (slots0 (olds args)) h) : CanP Try.prog 38 args h K :=
  can_of2 (n := 8) mixed Try.func38 rfl (by kernel_rfl) (by rw [hl]; kernel_rfl) rfl (by kernel_rfl) s
/-! ### naskh.api.Mirrors: function 42 -/
def r42_0 : List PS := [.mk (some 0) (.assign (.const (.slice none 0 0))) none]
def r42_1 : List PS := [.mk (some 1) (.build 81 #[(0, (.const (.int .i64 40))), (1, (.const (.int .i64 41)))]) none,
  .mk (some 2) (.build 81 #[(0, (.const (.int .i64 60))), (1, (.const (.int .i64 62)))]) none,
  .mk (some 3) (.build 81 #[(0, (.const (.int .i64 91))), (1, (.const (.int .i64 93)))]) none,
  .mk (some 4) (.build 81 #[(0, (.const (.int .i64 123))), (1, (.const (.int .i64 125)))]) none,
  .mk (some 5) (.build 81 #[(0, (.const (.int .i64 171))), (1, (.const (.int .i64 187)))]) none,
  .mk (some 6) (.build 81 #[(0, (.const (.int .i64 3898))), (1, (.const (.int .i64 3899)))]) none,
  .mk (some 7) (.build 81 #[(0, (.const (.int .i64 8249))), (1, (.const (.int .i64 8250)))]) none,
  .mk (some 8) (.build 81 #[(0, (.const (.int .i64 8261))), (1, (.const (.int .i64 8262)))]) none,
  .mk (some 9) (.build 81 #[(0, (.const (.int .i64 8317))), (1, (.const (.int .i64 8318)))]) none,
  .mk (some 10) (.build 81 #[(0, (.const (.int .i64 8333))), (1, (.const (.int .i64 8334)))]) none,
  .mk (some 11) (.build 81 #[(0, (.const (.int .i64 8712))), (1, (.const (.int .i64 8715)))]) none,
  .mk (some 12) (.build 81 #[(0, (.const (.int .i64 8804))), (1, (.const (.int .i64 8805)))]) none,
  .mk (some 13) (.build 81 #[(0, (.const (.int .i64 8810))), (1, (.const (.int .i64 8811)))]) none,
  .mk (some 14) (.build 81 #[(0, (.const (.int .i64 9001))), (1, (.const (.int .i64 9002)))]) none,
  .mk (some 15) (.build 81 #[(0, (.const (.int .i64 10088))), (1, (.const (.int .i64 10089)))]) none,
  .mk (some 16) (.build 81 #[(0, (.const (.int .i64 10090))), (1, (.const (.int .i64 10091)))]) none,
  .mk (some 17) (.build 81 #[(0, (.const (.int .i64 10092))), (1, (.const (.int .i64 10093)))]) none,
  .mk (some 18) (.build 81 #[(0, (.const (.int .i64 10094))), (1, (.const (.int .i64 10095)))]) none,
  .mk (some 19) (.build 81 #[(0, (.const (.int .i64 10096))), (1, (.const (.int .i64 10097)))]) none,
  .mk (some 20) (.build 81 #[(0, (.const (.int .i64 10098))), (1, (.const (.int .i64 10099)))]) none,
  .mk (some 21) (.build 81 #[(0, (.const (.int .i64 10100))), (1, (.const (.int .i64 10101)))]) none,
  .mk (some 22) (.build 81 #[(0, (.const (.int .i64 10214))), (1, (.const (.int .i64 10215)))]) none,
  .mk (some 23) (.build 81 #[(0, (.const (.int .i64 10216))), (1, (.const (.int .i64 10217)))]) none,
  .mk (some 24) (.build 81 #[(0, (.const (.int .i64 10218))), (1, (.const (.int .i64 10219)))]) none,
  .mk (some 25) (.build 81 #[(0, (.const (.int .i64 10220))), (1, (.const (.int .i64 10221)))]) none,
  .mk (some 26) (.build 81 #[(0, (.const (.int .i64 10222))), (1, (.const (.int .i64 10223)))]) none,
  .mk (some 27) (.build 81 #[(0, (.const (.int .i64 10627))), (1, (.const (.int .i64 10628)))]) none,
  .mk (some 28) (.build 81 #[(0, (.const (.int .i64 10629))), (1, (.const (.int .i64 10630)))]) none,
  .mk (some 29) (.build 81 #[(0, (.const (.int .i64 10631))), (1, (.const (.int .i64 10632)))]) none,
  .mk (some 30) (.build 81 #[(0, (.const (.int .i64 10633))), (1, (.const (.int .i64 10634)))]) none,
  .mk (some 31) (.build 81 #[(0, (.const (.int .i64 10635))), (1, (.const (.int .i64 10636)))]) none,
  .mk (some 32) (.build 81 #[(0, (.const (.int .i64 10641))), (1, (.const (.int .i64 10642)))]) none,
  .mk (some 33) (.build 81 #[(0, (.const (.int .i64 12296))), (1, (.const (.int .i64 12297)))]) none,
  .mk (some 34) (.build 81 #[(0, (.const (.int .i64 12298))), (1, (.const (.int .i64 12299)))]) none,
  .mk (some 35) (.build 81 #[(0, (.const (.int .i64 12300))), (1, (.const (.int .i64 12301)))]) none,
  .mk (some 36) (.build 81 #[(0, (.const (.int .i64 12302))), (1, (.const (.int .i64 12303)))]) none,
  .mk (some 37) (.build 81 #[(0, (.const (.int .i64 12304))), (1, (.const (.int .i64 12305)))]) none,
  .mk (some 38) (.build 81 #[(0, (.const (.int .i64 12308))), (1, (.const (.int .i64 12309)))]) none,
  .mk (some 39) (.build 81 #[(0, (.const (.int .i64 12310))), (1, (.const (.int .i64 12311)))]) none,
  .mk (some 40) (.build 81 #[(0, (.const (.int .i64 12312))), (1, (.const (.int .i64 12313)))]) none,
  .mk (some 41) (.build 81 #[(0, (.const (.int .i64 12314))), (1, (.const (.int .i64 12315)))]) none,
  .mk (some 42) (.build 81 #[(0, (.const (.int .i64 65113))), (1, (.const (.int .i64 65114)))]) none,
  .mk (some 43) (.build 81 #[(0, (.const (.int .i64 65115))), (1, (.const (.int .i64 65116)))]) none,
  .mk (some 44) (.build 81 #[(0, (.const (.int .i64 65117))), (1, (.const (.int .i64 65118)))]) none,
  .mk (some 45) (.build 81 #[(0, (.const (.int .i64 65124))), (1, (.const (.int .i64 65125)))]) none,
  .mk (some 46) (.build 81 #[(0, (.const (.int .i64 65288))), (1, (.const (.int .i64 65289)))]) none,
  .mk (some 47) (.build 81 #[(0, (.const (.int .i64 65308))), (1, (.const (.int .i64 65310)))]) none,
  .mk (some 48) (.build 81 #[(0, (.const (.int .i64 65339))), (1, (.const (.int .i64 65341)))]) none,
  .mk (some 49) (.build 81 #[(0, (.const (.int .i64 65371))), (1, (.const (.int .i64 65373)))]) none,
  .mk (some 50) (.build 81 #[(0, (.const (.int .i64 65375))), (1, (.const (.int .i64 65376)))]) none,
  .mk (some 51) (.build 81 #[(0, (.const (.int .i64 65378))), (1, (.const (.int .i64 65379)))]) none,
  .mk (some 52) (.buildSlice 78 51 #[(0, (.tmp 1)), (1, (.tmp 2)), (2, (.tmp 3)), (3, (.tmp 4)), (4, (.tmp 5)), (5, (.tmp 6)), (6, (.tmp 7)), (7, (.tmp 8)), (8, (.tmp 9)), (9, (.tmp 10)), (10, (.tmp 11)), (11, (.tmp 12)), (12, (.tmp 13)), (13, (.tmp 14)), (14, (.tmp 15)), (15, (.tmp 16)), (16, (.tmp 17)), (17, (.tmp 18)), (18, (.tmp 19)), (19, (.tmp 20)), (20, (.tmp 21)), (21, (.tmp 22)), (22, (.tmp 23)), (23, (.tmp 24)), (24, (.tmp 25)), (25, (.tmp 26)), (26, (.tmp 27)), (27, (.tmp 28)), (28, (.tmp 29)), (29, (.tmp 30)), (30, (.tmp 31)), (31, (.tmp 32)), (32, (.tmp 33)), (33, (.tmp 34)), (34, (.tmp 35)), (35, (.tmp 36)), (36, (.tmp 37)), (37, (.tmp 38)), (38, (.tmp 39)), (39, (.tmp 40)), (40, (.tmp 41)), (41, (.tmp 42)), (42, (.tmp 43)), (43, (.tmp 44)), (44, (.tmp 45)), (45, (.tmp 46)), (46, (.tmp 47)), (47, (.tmp 48)), (48, (.tmp 49)), (49, (.tmp 50)), (50, (.tmp 51))]) none,
  .mk (some 0) (.assign (.tmp 52)) none]
def c42 : PC := (.seq (.reg false r42_0) (.seq (.reg false r42_1) .ret))
theorem e42 {args : List PV} {h : Heap} {K : PV → Heap → Prop} (hl : args.length = 0) (s : pwp Try.prog [] c42 (fin Try.prog [.tmp 0] h K) (slots0 (olds args)) h) : CanP Try.prog 42 args h K :=
  can_of2 (n := 53) mixed Try.func42 rfl (by kernel_rfl) (by rw [hl]; kernel_rfl) rfl (by kernel_rfl) s
/-! ### sort.Search: function 53 -/
def r53_0 : List PS := [.mk (some 4) (.assign (.const (.int .i64 0))) none]
def r53_1 : List PS := [.mk (some 8) (.move (.tmp 0)) none,
  .mk (some 5) (.assign (.const (.int .i64 0))) none,
  .mk (some 6) (.assign (.tmp 8)) none]
def r53_2 : List PS := [.mk (some 9) (.move (.tmp 5)) none,
  .mk (some 10) (.move (.tmp 6)) none,
  .mk (some 11) (.binOp .lss 3 (.tmp 9) (.tmp 10) 3) none]
def r53_3 : List PS := [.mk (some 12) (.move (.tmp 5)) none,
  .mk (some 13) (.move (.tmp 6)) none,
  .mk (some 14) (.binOp .add 3 (.tmp 12) (.tmp 13) 3) none,
  .mk (some 15) (.convert 3 92 (.tmp 14)) none,
  .mk (some 16) (.binOp .shr 92 (.tmp 15) (.const (.int .u64 1)) 92) none,
  .mk (some 17) (.convert 92 3 (.tmp 16)) none,
  .mk (some 7) (.assign (.tmp 17)) none]
def r53_4 : List PS := [.mk (some 18) (.move (.tmp 1)) none,
  .mk (some 19) (.move (.tmp 7)) none,
  .mk (some 20) (.call ⟨(.value (.tmp 18)), #[(.tmp 19)], #[3]⟩) none,
  .mk (some 21) (.unOp .not 4 (.tmp 20)) none]
def r53_5 : List PS := [.mk (some 22) (.move (.tmp 7)) none,
  .mk (some 23) (.binOp .add 3 (.tmp 22) (.const (.int .i64 1)) 3) none,
  .mk (some 5) (.assign (.tmp 23)) none]
def r53_6 : List PS := [.mk (some 24) (.move (.tmp 7)) none,
  .mk (some 6) (.assign (.tmp 24)) none]
def r53_7 : List PS := [.mk (some 25) (.move (.tmp 5)) none,
  .mk (some 4) (.assign (.tmp 25)) none]
def c53 : PC := (.seq (.reg false r53_0) (.seq (.reg false r53_1) (.seq (.block 0 (.loop (.seq (.seq (.reg false r53_2) (.cond (.tmp 11) .skip (.exit 0))) (.block 1 (.seq (.reg false r53_3) (.seq (.reg false r53_4) (.cond (.tmp 21) (.reg false r53_5) (.reg false r53_6)))))))) (.seq (.reg false r53_7) .ret))))
theorem e53 {args : List PV} {h : Heap} {K : PV → Heap → Prop} (hl : args.length = 2) (s : pwp Try.prog [] c53 (fin Try.prog [.tmp 4] h K) (slots0 (olds args)) h) : CanP Try.prog 53 args h K :=
  can_of2 (n := 26) mixed Try.func53 rfl (by kernel_rfl) (by rw [hl]; kernel_rfl) rfl (by kernel_rfl) s
/-! ### (naskh.pairs.list).find$1: function 54 -/
def r54_0 : List PS := [.mk (some 4) (.assign (.const (.bool false))) none]
def r54_1 : List PS := [.mk (some 5) (.load 86 (.tmp 1)) none,
  .mk (some 6) (.move (.tmp 0)) none,
  .mk (some 7) (.indexAddr 86 (.tmp 5) (.tmp 6)) none,
  .mk (some 8) (.fieldAddr 81 (.tmp 7) 0) none,
  .mk (some 9) (.load 3 (.tmp 8)) none,
  .mk (some 10) (.load 3 (.tmp 2)) none,
  .mk (some 11) (.binOp .geq 3 (.tmp 9) (.tmp 10) 3) none,
  .mk (some 4) (.assign (.tmp 11)) none]
def c54 : PC := (.seq (.reg false r54_0) (.seq (.reg true r54_1) .ret))
theorem e54 {args : List PV} {h : Heap} {K : PV → Heap → Prop} (hl : args.length = 3) (s : pwp Try.prog [] c54 (fin Try.prog [.tmp 4] h K) (slots0 (olds args)) h) : CanP Try.prog 54 args h K :=
  can_of2 (n := 12) mixed Try.func54 rfl (by kernel_rfl) (by rw [hl]; kernel_rfl) rfl (by kernel_rfl) s
/-! ### (naskh.pairs.list).find: function 47 -/
def r47_0 : List PS := [.mk (some 2) (.box 86 (.tmp 0)) none,
  .mk (some 3) (.box 3 (.tmp 1)) none,
  .mk (some 4) (.alloc 81) none,
  .mk (some 5) (.assign (.const (.bool false))) none]
def r47_1 : List PS := [.mk (some 7) (.load 86 (.tmp 2)) none,
  .mk (some 8) (.call ⟨(.builtin .len), #[(.tmp 7)], #[86]⟩) none,
  .mk (some 9) (.makeFunc (.func 54) #[] #[(.tmp 2), (.tmp 3)]) none,
  .mk (some 10) (.call ⟨(.value (.func 53)), #[(.tmp 8), (.tmp 9)], #[3, 36]⟩) none,
  .mk (some 6) (.assign (.tmp 10)) none]
def r47_2 : List PS := [.mk (some 11) (.move (.tmp 6)) none,
  .mk (some 12) (.load 86 (.tmp 2)) none,
  .mk (some 13) (.call ⟨(.builtin .len), #[(.tmp 12)], #[86]⟩) none,
  .mk (some 14) (.binOp .eql 3 (.tmp 11) (.tmp 13) 3) none,
  .mk (some 15) (.move (.tmp 14)) none,
  .mk (some 16) (.load 86 (.tmp 2)) (some (15, false)),
  .mk (some 17) (.move (.tmp 6)) (some (15, false)),
  .mk (some 18) (.indexAddr 86 (.tmp 16) (.tmp 17)) (some (15, false)),
  .mk (some 19) (.fieldAddr 81 (.tmp 18) 0) (some (15, false)),
  .mk (some 20) (.load 3 (.tmp 19)) (some (15, false)),
  .mk (some 21) (.load 3 (.tmp 3)) (some (15, false)),
  .mk (some 22) (.binOp .neq 3 (.tmp 20) (.tmp 21) 3) (some (15, false)),
  .mk (some 23) (.pick (.tmp 15) (.const (.bool true)) (.tmp 22)) none]
def r47_3 : List PS := [.mk (some 24) (.build 81 #[]) none,
  .mk none (.store 81 (.tmp 4) (.tmp 24)) none,
  .mk (some 5) (.assign (.const (.bool false))) none]
def r47_4 : List PS := [.mk (some 25) (.load 86 (.tmp 2)) none,
  .mk (some 26) (.move (.tmp 6)) none,
  .mk (some 27) (.indexAddr 86 (.tmp 25) (.tmp 26)) none,
  .mk (some 28) (.load 81 (.tmp 27)) none,
  .mk none (.store 81 (.tmp 4) (.tmp 28)) none,
  .mk (some 5) (.assign (.const (.bool true))) none]
def c47 : PC := (.seq (.reg false r47_0) (.seq (.reg false r47_1) (.seq (.seq (.reg true r47_2) (.cond (.tmp 23) (.seq (.reg false r47_3) .ret) .skip)) (.seq (.reg false r47_4) .ret))))
theorem e47 {args : List PV} {h : Heap} {K : PV → Heap → Prop} (hl : args.length = 2) (s : pwp Try.prog [4] c47 (fin Try.prog [.cell 4 81, .tmp 5] h K) (slots0 (olds args)) h) : CanP Try.prog 47 args h K :=
  can_of2 (n := 29) mixed Try.func47 rfl (by kernel_rfl) (by rw [hl]; kernel_rfl) rfl (by kernel_rfl) s
/-! ### (naskh.pairs.list).back: function 48 -/
def r48_0 : List PS := [.mk (some 4) (.alloc 81) none,
  .mk (some 5) (.assign (.const (.bool false))) none]
def r48_1 : List PS := [.mk (some 8) (.move (.tmp 0)) none,
  .mk (some 9) (.call ⟨(.builtin .len), #[(.tmp 8)], #[86]⟩) none,
  .mk (some 10) (.move (.const (.int .i64 0))) none]
def r48_2 : List PS := [.mk (some 11) (.binOp .lss 3 (.tmp 10) (.tmp 9) 3) none]
def r48_3 : List PS := [.mk (some 12) (.indexAddr 86 (.tmp 8) (.tmp 10)) none,
  .mk (some 13) (.load 81 (.tmp 12)) none,
  .mk (some 7) (.alloc 81) none,
  .mk none (.store 81 (.tmp 7) (.tmp 13)) none,
  .frz 7]
def r48_4 : List PS := [.mk (some 14) (.fieldAddr 81 (.tmp 7) 1) none,
  .mk (some 15) (.load 3 (.tmp 14)) none,
  .mk (some 16) (.move (.tmp 1)) none,
  .mk (some 17) (.binOp .eql 3 (.tmp 15) (.tmp 16) 3) none]
def r48_5 : List PS := [.mk (some 18) (.load 81 (.tmp 7)) none,
  .mk none (.store 81 (.tmp 4) (.tmp 18)) none,
  .mk (some 5) (.assign (.const (.bool true))) none]
def r48_6 : List PS := [.mk (some 19) (.binOp .add 3 (.tmp 10) (.const (.int .i64 1)) 3) none,
  .mk (some 10) (.move (.tmp 19)) none]
def r48_7 : List PS := [.mk (some 20) (.build 81 #[]) none,
  .mk none (.store 81 (.tmp 4) (.tmp 20)) none,
  .mk (some 5) (.assign (.const (.bool false))) none]
def c48 : PC := (.seq (.reg false r48_0) (.seq (.seq (.reg false r48_1) (.block 0 (.loop (.seq (.reg false r48_2) (.seq (.cond (.tmp 11) .skip (.exit 0)) (.seq (.block 1 (.seq (.reg false r48_3) (.seq (.reg false r48_4) (.cond (.tmp 17) (.seq (.reg false r48_5) .ret) .skip)))) (.reg false r48_6))))))) (.seq (.reg false r48_7) .ret)))
theorem e48 {args : List PV} {h : Heap} {K : PV → Heap → Prop} (hl : args.length = 2) (s : pwp Try.prog [4, 7] c48 (fin Try.prog [.cell 4 81, .tmp 5] h K) (slots0 (olds args)) h) : CanP Try.prog 48 args h K :=
  can_of2 (n := 21) mixed Try.func48 rfl (by kernel_rfl) (by rw [hl]; kernel_rfl) rfl (by kernel_rfl) s
/-! ### naskh.pairs.Mirror: function 39 -/
def r39_0 : List PS := [.mk (some 2) (.assign (.const (.int .i64 0))) none]
def r39_1 : List PS := [.mk (some 8) (.call ⟨(.value (.func 42)), #[], #[]⟩) none,
  .mk (some 3) (.assign (.tmp 8)) none]
def r39_2 : List PS := [.mk (some 10) (.move (.tmp 3)) none,
  .mk (some 11) (.move (.tmp 0)) none,
  .mk (some 12) (.call ⟨(.value (.func 47)), #[(.tmp 10), (.tmp 11)], #[86, 3]⟩) none,
  .mk (some 9) (.move (.tmp 12)) none,
  .mk (some 13) (.extract (.tmp 9) 0) none,
  .mk (some 14) (.extract (.tmp 9) 1) none,
  .mk (some 4) (.alloc 81) none,
  .mk none (.store 81 (.tmp 4) (.tmp 13)) none,
  .frz 4,
  .mk (some 5) (.assign (.tmp 14)) none]
def r39_3 : List PS := [.mk (some 15) (.move (.tmp 5)) none]
def r39_4 : List PS := [.mk (some 16) (.fieldAddr 81 (.tmp 4) 1) none,
  .mk (some 17) (.load 3 (.tmp 16)) none,
  .mk (some 2) (.assign (.tmp 17)) none]
def r39_5 : List PS := [.mk (some 19) (.move (.tmp 3)) none,
  .mk (some 20) (.move (.tmp 0)) none,
  .mk (some 21) (.call ⟨(.value (.func 48)), #[(.tmp 19), (.tmp 20)], #[86, 3]⟩) none,
  .mk (some 18) (.move (.tmp 21)) none,
  .mk (some 22) (.extract (.tmp 18) 0) none,
  .mk (some 23) (.extract (.tmp 18) 1) none,
  .mk (some 6) (.alloc 81) none,
  .mk none (.store 81 (.tmp 6) (.tmp 22)) none,
  .frz 6,
  .mk (some 7) (.assign (.tmp 23)) none]
def r39_6 : List PS := [.mk (some 24) (.move (.tmp 7)) none]
def r39_7 : List PS := [.mk (some 25) (.fieldAddr 81 (.tmp 6) 0) none,
  .mk (some 26) (.load 3 (.tmp 25)) none,
  .mk (some 2) (.assign (.tmp 26)) none]
def r39_8 : List PS := [.mk (some 27) (.move (.tmp 0)) none,
  .mk (some 2) (.assign (.tmp 27)) none]
def c39 : PC := (.seq (.reg false r39_0) (.seq (.reg false r39_1) (.seq (.seq (.reg false r39_2) (.seq (.reg false r39_3) (.cond (.tmp 15) (.seq (.reg false r39_4) .ret) .skip))) (.seq (.seq (.reg false r39_5) (.seq (.reg false r39_6) (.cond (.tmp 24) (.seq (.reg false r39_7) .ret) .skip))) (.seq (.reg false r39_8) .ret)))))
theorem e39 {args : List PV} {h : Heap} {K : PV → Heap → Prop} (hl : args.length = 1) (s : pwp Try.prog [4, 6] c39 (fin Try.prog [.tmp 2] h K) (slots0 (olds args)) h) : CanP Try.prog 39 args h K :=
  can_of2 (n := 28) mixed Try.func39 rfl (by kernel_rfl) (by rw [hl]; kernel_rfl) rfl (by kernel_rfl) s
/-! ### naskh.flip.mirrored: function 24 -/
def r24_0 : List PS := [.mk (some 2) (.assign (.const (.slice none 0 0))) none]
def r24_1 : List PS := [.mk (some 5) (.move (.tmp 0)) none,
  .mk (some 6) (.call ⟨(.value (.func 38)), #[(.tmp 5)], #[22]⟩) none,
  .mk (some 3) (.assign (.tmp 6)) none]
def r24_2 : List PS := [.mk (some 7) (.move (.tmp 3)) none,
  .mk (some 8) (.call ⟨(.builtin .len), #[(.tmp 7)], #[22]⟩) none,
  .mk (some 9) (.move (.const (.int .i64 0))) none]
def r24_3 : List PS := [.mk (some 10) (.binOp .lss 3 (.tmp 9) (.tmp 8) 3) none]
def r24_4 : List PS := [.mk (some 11) (.move (.tmp 9)) none,
  .mk (some 4) (.assign (.tmp 11)) none]
def r24_5 : List PS := [.mk (some 12) (.move (.tmp 3)) none,
  .mk (some 13) (.move (.tmp 4)) none,
  .mk (some 14) (.move (.tmp 3)) none,
  .mk (some 15) (.move (.tmp 4)) none,
  .mk (some 16) (.indexAddr 22 (.tmp 14) (.tmp 15)) none,
  .mk (some 17) (.load 3 (.tmp 16)) none,
  .mk (some 18) (.call ⟨(.value (.func 39)), #[(.tmp 17)], #[3]⟩) none,
  .mk (some 19) (.indexAddr 22 (.tmp 12) (.tmp 13)) none,
  .mk none (.store 3 (.tmp 19) (.tmp 18)) none]
def r24_6 : List PS := [.mk (some 20) (.binOp .add 3 (.tmp 9) (.const (.int .i64 1)) 3) none,
  .mk (some 9) (.move (.tmp 20)) none]
def r24_7 : List PS := [.mk (some 21) (.move (.tmp 3)) none,
  .mk (some 2) (.assign (.tmp 21)) none]
def c24 : PC := (.seq (.reg false r24_0) (.seq (.reg false r24_1) (.seq (.seq (.reg false r24_2) (.block 0 (.loop (.seq (.reg false r24_3) (.seq (.cond (.tmp 10) .skip (.exit 0)) (.seq (.block 1 (.seq (.reg false r24_4) (.reg false r24_5))) (.reg false r24_6))))))) (.seq (.reg false r24_7) .ret))))
theorem e24 {args : List PV} {h : Heap} {K : PV → Heap → Prop} (hl : args.length = 1) (s : pwp Try.prog [] c24 (fin Try.prog [.tmp 2] h K) (slots0 (olds args)) h) : CanP Try.prog 24 args h K :=
  can_of2 (n := 22) mixed Try.func24 rfl (by kernel_rfl) (by rw [hl]; kernel_rfl) rfl (by kernel_rfl) s
/-! ### (*naskh.props.Props).Control: function 55 -/
def r55_0 : List PS := [.mk (some 4) (.assign (.const (.bool false))) none]
def r55_1 : List PS := [.mk (some 5) (.move (.tmp 1)) none]
def r55_2 : List PS := [.mk (some 7) (.binOp .eql 3 (.tmp 5) (.const (.int .i64 8206)) 3) none,
  .mk (some 6) (.assign (.tmp 7)) none]
def r55_3 : List PS := [.mk (some 8) (.binOp .eql 3 (.tmp 5) (.const (.int .i64 8207)) 3) none,
  .mk (some 6) (.assign (.tmp 8)) none]
def r55_4 : List PS := [.mk (some 9) (.binOp .eql 3 (.tmp 5) (.const (.int .i64 1564)) 3) none,
  .mk (some 6) (.assign (.tmp 9)) none]
def r55_5 : List PS := [.mk (some 10) (.move (.tmp 0)) none,
  .mk (some 11) (.call ⟨(.value (.func 51)), #[(.tmp 10)], #[24]⟩) none,
  .mk (some 4) (.assign (.tmp 11)) none]
def r55_6 : List PS := [.mk (some 12) (.move (.tmp 0)) none,
  .mk (some 13) (.move (.tmp 1)) none,
  .mk (some 14) (.buildSlice 22 10 #[(0, (.const (.int .i64 9))), (1, (.const (.int .i64 14))), (2, (.const (.int .i64 15))), (3, (.const (.int .i64 16))), (4, (.const (.int .i64 17))), (5, (.const (.int .i64 18))), (6, (.const (.int .i64 19))), (7, (.const (.int .i64 20))), (8, (.const (.int .i64 21))), (9, (.const (.int .i64 22)))]) none,
  .mk (some 15) (.call ⟨(.value (.func 44)), #[(.tmp 12), (.tmp 13), (.tmp 14)], #[24, 3, 22]⟩) none,
  .mk (some 4) (.assign (.tmp 15)) none]
def c55 : PC := (.seq (.reg false r55_0) (.seq (.seq (.reg false r55_1) (.block 0 (.seq (.seq (.reg false r55_2) (.cond (.tmp 6) .skip (.seq (.reg false r55_3) (.cond (.tmp 6) .skip (.reg false r55_4))))) (.cond (.tmp 6) (.seq (.reg false r55_5) .ret) .skip)))) (.seq (.reg false r55_6) .ret)))
theorem e55 {args : List PV} {h : Heap} {K : PV → Heap → Prop} (hl : args.length = 2) (s : pwp Try.prog [] c55 (fin Try.prog [.tmp 4] h K) (slots0 (olds args)) h) : CanP Try.prog 55 args h K :=
  can_of2 (n := 16) mixed Try.func55 rfl (by kernel_rfl) (by rw [hl]; kernel_rfl) rfl (by kernel_rfl) s
/-! ### naskh.strip.Keep: function 49 -/
def r49_0 : List PS := [.mk (some 4) (.assign (.const (.slice none 0 0))) none]
def r49_1 : List PS := [.mk (some 8) (.move (.tmp 1)) none,
  .mk (some 9) (.call ⟨(.builtin .len), #[(.tmp 8)], #[22]⟩) none,
  .mk (some 10) (.makeSlice 89 (.const (.int .i64 0)) (.tmp 9)) none,
  .mk (some 5) (.assign (.tmp 10)) none]
def r49_2 : List PS := [.mk (some 11) (.move (.tmp 1)) none,
  .mk (some 12) (.call ⟨(.builtin .len), #[(.tmp 11)], #[22]⟩) none,
  .mk (some 13) (.move (.const (.int .i64 0))) none]
def r49_3 : List PS := [.mk (some 14) (.binOp .lss 3 (.tmp 13) (.tmp 12) 3) none]
def r49_4 : List PS := [.mk (some 15) (.indexAddr 22 (.tmp 11) (.tmp 13)) none,
  .mk (some 16) (.load 3 (.tmp 15)) none,
  .mk (some 7) (.assign (.tmp 16)) none]
def r49_5 : List PS := [.mk (some 17) (.move (.tmp 5)) none,
  .mk (some 18) (.move (.tmp 0)) none,
  .mk (some 19) (.move (.tmp 7)) none,
  .mk (some 20) (.call ⟨(.value (.func 55)), #[(.tmp 18), (.tmp 19)], #[24, 3]⟩) none,
  .mk (some 21) (.unOp .not 4 (.tmp 20)) none,
  .mk (some 22) (.buildSlice 89 1 #[(0, (.tmp 21))]) none,
  .mk (some 23) (.call ⟨(.builtin .append), #[(.tmp 17), (.tmp 22)], #[89, 89]⟩) none,
  .mk (some 5) (.assign (.tmp 23)) none]
def r49_6 : List PS := [.mk (some 24) (.binOp .add 3 (.tmp 13) (.const (.int .i64 1)) 3) none,
  .mk (some 13) (.move (.tmp 24)) none]
def r49_7 : List PS := [.mk (some 25) (.move (.tmp 5)) none,
  .mk (some 4) (.assign (.tmp 25)) none]
def c49 : PC := (.seq (.reg false r49_0) (.seq (.reg false r49_1) (.seq (.seq (.reg false r49_2) (.block 0 (.loop (.seq (.reg false r49_3) (.seq (.cond (.tmp 14) .skip (.exit 0)) (.seq (.block 1 (.seq (.reg false r49_4) (.reg false r49_5))) (.reg false r49_6))))))) (.seq (.reg false r49_7) .ret))))
theorem e49 {args : List PV} {h : Heap} {K : PV → Heap → Prop} (hl : args.length = 2) (s : pwp Try.prog [] c49 (fin Try.prog [.tmp 4] h K) (slots0 (olds args)) h) : CanP Try.prog 49 args h K :=
  can_of2 (n := 26) mixed Try.func49 rfl (by kernel_rfl) (by rw [hl]; kernel_rfl) rfl (by kernel_rfl) s
/-! ### naskh.strip.each: function 40 -/
def r40_0 : List PS := [.mk (some 8) (.move (.tmp 0)) none,
  .mk (some 9) (.move (.tmp 1)) none,
  .mk (some 10) (.call ⟨(.value (.func 49)), #[(.tmp 8), (.tmp 9)], #[24, 22]⟩) none,
  .mk (some 11) (.call ⟨(.builtin .len), #[(.tmp 10)], #[89]⟩) none,
  .mk (some 12) (.move (.const (.int .i64 0))) none]
def r40_1 : List PS := [.mk (some 13) (.binOp .lss 3 (.tmp 12) (.tmp 11) 3) none]
def r40_2 : List PS := [.mk (some 14) (.move (.tmp 12)) none,
  .mk (some 15) (.indexAddr 89 (.tmp 10) (.tmp 12)) none,
  .mk (some 16) (.load 4 (.tmp 15)) none,
  .mk (some 6) (.assign (.tmp 14)) none,
  .mk (some 7) (.assign (.tmp 16)) none]
def r40_3 : List PS := [.mk (some 17) (.move (.tmp 7)) none]
def r40_4 : List PS := [.mk (some 18) (.move (.tmp 2)) none,
  .mk (some 19) (.move (.tmp 6)) none,
  .mk (some 20) (.move (.tmp 1)) none,
  .mk (some 21) (.move (.tmp 6)) none,
  .mk (some 22) (.indexAddr 22 (.tmp 20) (.tmp 21)) none,
  .mk (some 23) (.load 3 (.tmp 22)) none,
  .mk (some 24) (.call ⟨(.value (.tmp 18)), #[(.tmp 19), (.tmp 23)], #[3, 3]⟩) none]
def r40_5 : List PS := [.mk (some 25) (.binOp .add 3 (.tmp 12) (.const (.int .i64 1)) 3) none,
  .mk (some 12) (.move (.tmp 25)) none]
def c40 : PC := (.seq (.reg false r40_0) (.block 0 (.loop (.seq (.reg false r40_1) (.seq (.cond (.tmp 13) .skip (.exit 0)) (.seq (.block 1 (.seq (.reg false r40_2) (.seq (.reg false r40_3) (.cond (.tmp 17) (.reg false r40_4) .skip)))) (.reg false r40_5)))))))
theorem e40 {args : List PV} {h : Heap} {K : PV → Heap → Prop} (hl : args.length = 3) (s : pwp Try.prog [] c40 (fin Try.prog [] h K) (slots0 (olds args)) h) : CanP Try.prog 40 args h K :=
  can_of2 (n := 26) mixed Try.func40 rfl (by kernel_rfl) (by rw [hl]; kernel_rfl) rfl (by kernel_rfl) s
/-! ### naskh.strip.Codes$1: function 41 -/
def r41_0 : List PS := [.mk (some 5) (.load 22 (.tmp 2)) none,
  .mk (some 6) (.move (.tmp 1)) none,
  .mk (some 7) (.buildSlice 22 1 #[(0, (.tmp 6))]) none,
  .mk (some 8) (.call ⟨(.builtin .append), #[(.tmp 5), (.tmp 7)], #[22, 22]⟩) none,
  .mk none (.store 22 (.tmp 2) (.tmp 8)) none]
def c41 : PC := (.reg false r41_0)
theorem e41 {args : List PV} {h : Heap} {K : PV → Heap → Prop} (hl : args.length = 3) (s : pwp Try.prog [] c41 (fin Try.prog [] h K) (slots0 (olds args)) h) : CanP Try.prog 41 args h K :=
  can_of2 (n := 9) mixed Try.func41 rfl (by kernel_rfl) (by rw [hl]; kernel_rfl) rfl (by kernel_rfl) s
/-! ### naskh.strip.Codes: function 26 -/
def r26_0 : List PS := [.mk (some 4) (.assign (.const (.slice none 0 0))) none]
def r26_1 : List PS := [.mk (some 5) (.alloc 22) none]
def r26_2 : List PS := [.mk (some 6) (.move (.tmp 0)) none,
  .mk (some 7) (.move (.tmp 1)) none,
  .mk (some 8) (.makeFunc (.func 41) #[] #[(.tmp 5)]) none,
  .mk (some 9) (.call ⟨(.value (.func 40)), #[(.tmp 6), (.tmp 7), (.tmp 8)], #[24, 22, 77]⟩) none]
def r26_3 : List PS := [.mk (some 10) (.load 22 (.tmp 5)) none,
  .mk (some 4) (.assign (.tmp 10)) none]
def c26 : PC := (.seq (.reg false r26_0) (.seq (.reg false r26_1) (.seq (.reg false r26_2) (.seq (.reg false r26_3) .ret))))
theorem e26 {args : List PV} {h : Heap} {K : PV → Heap → Prop} (hl : args.length = 2) (s : pwp Try.prog [5] c26 (fin Try.prog [.tmp 4] h K) (slots0 (olds args)) h) : CanP Try.prog 26 args h K :=
  can_of2 (n := 11) mixed Try.func26 rfl (by kernel_rfl) (by rw [hl]; kernel_rfl) rfl (by kernel_rfl) s
/-! ### naskh.flip.Reverse$2: function 25 -/
def r25_0 : List PS := [.mk (some 3) (.assign (.const (.slice none 0 0))) none]
def r25_1 : List PS := [.mk (some 4) (.load 24 (.tmp 1)) none,
  .mk (some 5) (.move (.tmp 0)) none,
  .mk (some 6) (.call ⟨(.value (.func 26)), #[(.tmp 4), (.tmp 5)], #[24, 22]⟩) none,
  .mk (some 3) (.assign (.tmp 6)) none]
def c25 : PC := (.seq (.reg false r25_0) (.seq (.reg false r25_1) .ret))
theorem e25 {args : List PV} {h : Heap} {K : PV → Heap → Prop} (hl : args.length = 2) (s : pwp Try.prog [] c25 (fin Try.prog [.tmp 3] h K) (slots0 (olds args)) h) : CanP Try.prog 25 args h K :=
  can_of2 (n := 7) mixed Try.func25 rfl (by kernel_rfl) (by rw [hl]; kernel_rfl) rfl (by kernel_rfl) s
/-! ### (naskh.flip.steps).through: function 27 -/
def r27_0 : List PS := [.mk (some 4) (.assign (.const (.slice none 0 0))) none]
def r27_1 : List PS := [.mk (some 7) (.move (.tmp 0)) none,
  .mk (some 8) (.call ⟨(.builtin .len), #[(.tmp 7)], #[55]⟩) none,
  .mk (some 9) (.move (.const (.int .i64 0))) none]
def r27_2 : List PS := [.mk (some 10) (.binOp .lss 3 (.tmp 9) (.tmp 8) 3) none]
def r27_3 : List PS := [.mk (some 11) (.indexAddr 55 (.tmp 7) (.tmp 9)) none,
  .mk (some 12) (.load 53 (.tmp 11)) none,
  .mk (some 6) (.assign (.tmp 12)) none]
def r27_4 : List PS := [.mk (some 13) (.move (.tmp 6)) none,
  .mk (some 14) (.move (.tmp 1)) none,
  .mk (some 15) (.call ⟨(.value (.tmp 13)), #[(.tmp 14)], #[22]⟩) none,
  .mk (some 1) (.assign (.tmp 15)) none]
def r27_5 : List PS := [.mk (some 16) (.binOp .add 3 (.tmp 9) (.const (.int .i64 1)) 3) none,
  .mk (some 9) (.move (.tmp 16)) none]
def r27_6 : List PS := [.mk (some 17) (.move (.tmp 1)) none,
  .mk (some 4) (.assign (.tmp 17)) none]
def c27 : PC := (.seq (.reg false r27_0) (.seq (.seq (.reg false r27_1) (.block 0 (.loop (.seq (.reg false r27_2) (.seq (.cond (.tmp 10) .skip (.exit 0)) (.seq (.block 1 (.seq (.reg false r27_3) (.reg false r27_4))) (.reg false r27_5))))))) (.seq (.reg false r27_6) .ret)))
theorem e27 {args : List PV} {h : Heap} {K : PV → Heap → Prop} (hl : args.length = 2) (s : pwp Try.prog [] c27 (fin Try.prog [.tmp 4] h K) (slots0 (olds args)) h) : CanP Try.prog 27 args h K :=
  can_of2 (n := 18) mixed Try.func27 rfl (by kernel_rfl) (by rw [hl]; kernel_rfl) rfl (by kernel_rfl) s
/-! ### naskh.flip.Reverse: function 9 -/
def r9_0 : List PS := [.mk (some 5) (.box 24 (.tmp 0)) none,
  .mk (some 7) (.box 4 (.tmp 2)) none,
  .mk (some 10) (.assign (.const (.slice none 0 0))) none]
def r9_1 : List PS := [.mk (some 12) (.makeFunc (.func 22) #[] #[(.tmp 5), (.tmp 7)]) none,
  .mk (some 13) (.buildSlice 55 1 #[(0, (.tmp 12))]) none,
  .mk (some 11) (.assign (.tmp 13)) none]
def r9_2 : List PS := [.mk (some 14) (.move (.tmp 3)) none]
def r9_3 : List PS := [.mk (some 15) (.move (.tmp 11)) none,
  .mk (some 16) (.buildSlice 55 1 #[(0, (.func 24))]) none,
  .mk (some 17) (.call ⟨(.builtin .append), #[(.tmp 15), (.tmp 16)], #[55, 55]⟩) none,
  .mk (some 11) (.assign (.tmp 17)) none]
def r9_4 : List PS := [.mk (some 18) (.move (.tmp 4)) none]
def r9_5 : List PS := [.mk (some 19) (.move (.tmp 11)) none,
  .mk (some 20) (.makeFunc (.func 25) #[] #[(.tmp 5)]) none,
  .mk (some 21) (.buildSlice 55 1 #[(0, (.tmp 20))]) none,
  .mk (some 22) (.call ⟨(.builtin .append), #[(.tmp 19), (.tmp 21)], #[55, 55]⟩) none,
  .mk (some 11) (.assign (.tmp 22)) none]
def r9_6 : List PS := [.mk (some 23) (.move (.tmp 11)) none,
  .mk (some 24) (.move (.tmp 1)) none,
  .mk (some 25) (.call ⟨(.value (.func 27)), #[(.tmp 23), (.tmp 24)], #[55, 22]⟩) none,
  .mk (some 10) (.assign (.tmp 25)) none]
def c9 : PC := (.seq (.reg false r9_0) (.seq (.reg false r9_1) (.seq (.seq (.reg false r9_2) (.cond (.tmp 14) (.reg false r9_3) .skip)) (.seq (.seq (.reg false r9_4) (.cond (.tmp 18) (.reg false r9_5) .skip)) (.seq (.reg false r9_6) .ret)))))
theorem e9 {args : List PV} {h : Heap} {K : PV → Heap → Prop} (hl : args.length = 5) (s : pwp Try.prog [13] c9 (fin Try.prog [.tmp 10] h K) (slots0 (olds args)) h) : CanP Try.prog 9 args h K :=
  can_of2 (n := 26) mixed Try.func9 rfl (by kernel_rfl) (by rw [hl]; kernel_rfl) rfl (by kernel_rfl) s
/-! ### naskh.naskhlaw46.awake: function 6 -/
def r6_0 : List PS := [.mk (some 0) (.assign (.const (.bool false))) none]
def r6_1 : List PS := [.mk (some 1) (.call ⟨(.value (.func 7)), #[], #[]⟩) none,
  .mk (some 2) (.buildSlice 22 3 #[(0, (.const (.int .i64 97))), (1, (.const (.int .i64 768))), (2, (.const (.int .i64 98)))]) none,
  .mk (some 3) (.call ⟨(.value (.func 9)), #[(.tmp 1), (.tmp 2), (.const (.bool true)), (.const (.bool false)), (.const (.bool false))], #[24, 22, 4, 4, 4]⟩) none,
  .mk (some 4) (.buildSlice 22 3 #[(0, (.const (.int .i64 98))), (1, (.const (.int .i64 97))), (2, (.const (.int .i64 768)))]) none,
  .mk (some 5) (.call ⟨(.value (.func 8)), #[(.tmp 3), (.tmp 4)], #[22, 22]⟩) none,
  .mk (some 0) (.assign (.tmp 5)) none]
def c6 : PC := (.seq (.reg false r6_0) (.seq (.reg false r6_1) .ret))
theorem e6 {args : List PV} {h : Heap} {K : PV → Heap → Prop} (hl : args.length = 0) (s : pwp Try.prog [] c6 (fin Try.prog [.tmp 0] h K) (slots0 (olds args)) h) : CanP Try.prog 6 args h K :=
  can_of2 (n := 6) mixed Try.func6 rfl (by kernel_rfl) (by rw [hl]; kernel_rfl) rfl (by kernel_rfl) s
/-! ### naskh.naskhref06.Get: function 33 -/
def r33_0 : List PS := [.mk (some 6) (.assign (.const (.int .i64 0))) none]
def r33_1 : List PS := [.mk (some 7) (.assign (.const (.int .i64 0))) none]
def r33_2 : List PS := [.mk (some 8) (.move (.tmp 7)) none,
  .mk (some 9) (.move (.tmp 0)) none,
  .mk (some 10) (.call ⟨(.builtin .len), #[(.tmp 9)], #[46]⟩) none,
  .mk (some 11) (.binOp .lss 3 (.tmp 8) (.tmp 10) 3) none]
def r33_3 : List PS := [.mk (some 14) (.move (.tmp 2)) none,
  .mk (some 15) (.move (.tmp 0)) none,
  .mk (some 16) (.move (.tmp 7)) none,
  .mk (some 17) (.indexAddr 46 (.tmp 15) (.tmp 16)) none,
  .mk (some 18) (.fieldAddr 72 (.tmp 17) 0) none,
  .mk (some 19) (.load 3 (.tmp 18)) none,
  .mk (some 20) (.binOp .geq 3 (.tmp 14) (.tmp 19) 3) none,
  .mk (some 21) (.move (.tmp 20)) none,
  .mk (some 22) (.move (.tmp 2)) (some (21, true)),
  .mk (some 23) (.move (.tmp 0)) (some (21, true)),
  .mk (some 24) (.move (.tmp 7)) (some (21, true)),
  .mk (some 25) (.indexAddr 46 (.tmp 23) (.tmp 24)) (some (21, true)),
  .mk (some 26) (.fieldAddr 72 (.tmp 25) 1) (some (21, true)),
  .mk (some 27) (.load 3 (.tmp 26)) (some (21, true)),
  .mk (some 28) (.binOp .leq 3 (.tmp 22) (.tmp 27) 3) (some (21, true)),
  .mk (some 29) (.pick (.tmp 21) (.tmp 28) (.const (.bool false))) none]
def r33_4 : List PS := [.mk (some 30) (.move (.tmp 0)) none,
  .mk (some 31) (.move (.tmp 7)) none,
  .mk (some 32) (.indexAddr 46 (.tmp 30) (.tmp 31)) none,
  .mk (some 33) (.fieldAddr 72 (.tmp 32) 2) none,
  .mk (some 34) (.load 3 (.tmp 33)) none,
  .mk (some 6) (.assign (.tmp 34)) none]
def r33_5 : List PS := [.mk (some 12) (.move (.tmp 7)) none,
  .mk (some 13) (.binOp .add 3 (.tmp 12) (.const (.int .i64 1)) 3) none,
  .mk (some 7) (.assign (.tmp 13)) none]
def r33_6 : List PS := [.mk (some 35) (.move (.tmp 1)) none,
  .mk (some 6) (.assign (.tmp 35)) none]
def c33 : PC := (.seq (.reg false r33_0) (.seq (.seq (.reg false r33_1) (.block 0 (.loop (.seq (.seq (.reg false r33_2) (.cond (.tmp 11) .skip (.exit 0))) (.seq (.block 1 (.seq (.reg false r33_3) (.cond (.tmp 29) (.seq (.reg false r33_4) .ret) .skip))) (.reg false r33_5)))))) (.seq (.reg false r33_6) .ret)))
theorem e33 {args : List PV} {h : Heap} {K : PV → Heap → Prop} (hl : args.length = 3) (s : pwp Try.prog [] c33 (fin Try.prog [.tmp 6] h K) (slots0 (olds args)) h) : CanP Try.prog 33 args h K :=
  can_of2 (n := 36) mixed Try.func33 rfl (by kernel_rfl) (by rw [hl]; kernel_rfl) rfl (by kernel_rfl) s
/-! ### naskh.naskhref07.Class: function 18 -/
def r18_0 : List PS := [.mk (some 2) (.assign (.const (.int .i64 0))) none]
def r18_1 : List PS := [.mk (some 3) (.move (.tmp 0)) none,
  .mk (some 4) (.binOp .lss 3 (.tmp 3) (.const (.int .i64 0)) 3) none,
  .mk (some 5) (.move (.tmp 4)) none,
  .mk (some 6) (.move (.tmp 0)) (some (5, false)),
  .mk (some 7) (.binOp .gtr 3 (.tmp 6) (.const (.int .i64 1114111)) 3) (some (5, false)),
  .mk (some 8) (.pick (.tmp 5) (.const (.bool true)) (.tmp 7)) none]
def r18_2 : List PS := [.mk (some 2) (.assign (.const (.int .i64 13))) none]
def r18_3 : List PS := [.mk (some 9) (.call ⟨(.value (.func 20)), #[], #[]⟩) none,
  .mk (some 10) (.move (.tmp 0)) none,
  .mk (some 11) (.call ⟨(.value (.func 33)), #[(.tmp 9), (.const (.int .i64 0)), (.tmp 10)], #[46, 3, 3]⟩) none,
  .mk (some 2) (.assign (.tmp 11)) none]
def c18 : PC := (.seq (.reg false r18_0) (.seq (.seq (.reg false r18_1) (.cond (.tmp 8) (.seq (.reg false r18_2) .ret) .skip)) (.seq (.reg false r18_3) .ret)))
theorem e18 {args : List PV} {h : Heap} {K : PV → Heap → Prop} (hl : args.length = 1) (s : pwp Try.prog [] c18 (fin Try.prog [.tmp 2] h K) (slots0 (olds args)) h) : CanP Try.prog 18 args h K :=
  can_of2 (n := 12) mixed Try.func18 rfl (by kernel_rfl) (by rw [hl]; kernel_rfl) rfl (by kernel_rfl) s
/-! ### naskh.naskhref07.Mark: function 14 -/
def r14_0 : List PS := [.mk (some 2) (.assign (.const (.bool false))) none]
def r14_1 : List PS := [.mk (some 3) (.move (.tmp 0)) none,
  .mk (some 4) (.call ⟨(.value (.func 18)), #[(.tmp 3)], #[3]⟩) none,
  .mk (some 5) (.binOp .eql 3 (.tmp 4) (.const (.int .i64 8)) 3) none,
  .mk (some 2) (.assign (.tmp 5)) none]
def c14 : PC := (.seq (.reg false r14_0) (.seq (.reg false r14_1) .ret))
theorem e14 {args : List PV} {h : Heap} {K : PV → Heap → Prop} (hl : args.length = 1) (s : pwp Try.prog [] c14 (fin Try.prog [.tmp 2] h K) (slots0 (olds args)) h) : CanP Try.prog 14 args h K :=
  can_of2 (n := 6) mixed Try.func14 rfl (by kernel_rfl) (by rw [hl]; kernel_rfl) rfl (by kernel_rfl) s
/-! ### naskh.naskhref46.Chunks: function 13 -/
def r13_0 : List PS := [.mk (some 4) (.assign (.const (.slice none 0 0))) none]
def r13_1 : List PS := [.mk (some 5) (.assign (.const (.slice none 0 0))) none]
def r13_2 : List PS := [.mk (some 6) (.assign (.const (.int .i64 0))) none]
def r13_3 : List PS := [.mk (some 8) (.move (.tmp 6)) none,
  .mk (some 9) (.move (.tmp 0)) none,
  .mk (some 10) (.call ⟨(.builtin .len), #[(.tmp 9)], #[22]⟩) none,
  .mk (some 11) (.binOp .lss 3 (.tmp 8) (.tmp 10) 3) none]
def r13_4 : List PS := [.mk (some 14) (.move (.tmp 5)) none,
  .mk (some 15) (.call ⟨(.builtin .len), #[(.tmp 14)], #[30]⟩) none,
  .mk (some 7) (.assign (.tmp 15)) none]
def r13_5 : List PS := [.mk (some 16) (.move (.tmp 1)) none,
  .mk (some 17) (.move (.tmp 16)) none,
  .mk (some 18) (.move (.tmp 7)) (some (17, true)),
  .mk (some 19) (.binOp .gtr 3 (.tmp 18) (.const (.int .i64 0)) 3) (some (17, true)),
  .mk (some 20) (.pick (.tmp 17) (.tmp 19) (.const (.bool false))) none,
  .mk (some 21) (.move (.tmp 20)) none,
  .mk (some 22) (.move (.tmp 0)) (some (21, true)),
  .mk (some 23) (.move (.tmp 6)) (some (21, true)),
  .mk (some 24) (.indexAddr 22 (.tmp 22) (.tmp 23)) (some (21, true)),
  .mk (some 25) (.load 3 (.tmp 24)) (some (21, true)),
  .mk (some 26) (.call ⟨(.value (.func 14)), #[(.tmp 25)], #[3]⟩) (some (21, true)),
  .mk (some 27) (.pick (.tmp 21) (.tmp 26) (.const (.bool false))) none]
def r13_6 : List PS := [.mk (some 28) (.move (.tmp 5)) none,
  .mk (some 29) (.move (.tmp 7)) none,
  .mk (some 30) (.binOp .sub 3 (.tmp 29) (.const (.int .i64 1)) 3) none,
  .mk (some 31) (.move (.tmp 6)) none,
  .mk (some 32) (.binOp .add 3 (.tmp 31) (.const (.int .i64 1)) 3) none,
  .mk (some 33) (.indexAddr 30 (.tmp 28) (.tmp 30)) none,
  .mk (some 34) (.fieldAddr 32 (.tmp 33) 1) none,
  .mk none (.store 3 (.tmp 34) (.tmp 32)) none]
def r13_7 : List PS := [.mk (some 35) (.move (.tmp 5)) none,
  .mk (some 36) (.move (.tmp 6)) none,
  .mk (some 37) (.move (.tmp 6)) none,
  .mk (some 38) (.binOp .add 3 (.tmp 37) (.const (.int .i64 1)) 3) none,
  .mk (some 39) (.build 32 #[(0, (.tmp 36)), (1, (.tmp 38))]) none,
  .mk (some 40) (.buildSlice 30 1 #[(0, (.tmp 39))]) none,
  .mk (some 41) (.call ⟨(.builtin .append), #[(.tmp 35), (.tmp 40)], #[30, 30]⟩) none,
  .mk (some 5) (.assign (.tmp 41)) none]
def r13_8 : List PS := [.mk (some 12) (.move (.tmp 6)) none,
  .mk (some 13) (.binOp .add 3 (.tmp 12) (.const (.int .i64 1)) 3) none,
  .mk (some 6) (.assign (.tmp 13)) none]
def r13_9 : List PS := [.mk (some 42) (.move (.tmp 5)) none,
  .mk (some 4) (.assign (.tmp 42)) none]
def c13 : PC := (.seq (.reg false r13_0) (.seq (.reg false r13_1) (.seq (.seq (.reg false r13_2) (.block 0 (.loop (.seq (.seq (.reg false r13_3) (.cond (.tmp 11) .skip (.exit 0))) (.seq (.block 1 (.seq (.reg false r13_4) (.seq (.reg false r13_5) (.cond (.tmp 27) (.reg false r13_6) (.reg false r13_7))))) (.reg false r13_8)))))) (.seq (.reg false r13_9) .ret))))
theorem e13 {args : List PV} {h : Heap} {K : PV → Heap → Prop} (hl : args.length = 2) (s : pwp Try.prog [] c13 (fin Try.prog [.tmp 4] h K) (slots0 (olds args)) h) : CanP Try.prog 13 args h K :=
  can_of2 (n := 43) mixed Try.func13 rfl (by kernel_rfl) (by rw [hl]; kernel_rfl) rfl (by kernel_rfl) s
/-! ### naskh.naskhref08.Mirror: function 28 -/
def r28_0 : List PS := [.mk (some 2) (.assign (.const (.int .i64 0))) none]
def r28_1 : List PS := [.mk (some 5) (.call ⟨(.value (.func 42)), #[], #[]⟩) none,
  .mk (some 3) (.assign (.tmp 5)) none]
def r28_2 : List PS := [.mk (some 4) (.assign (.const (.int .i64 0))) none]
def r28_3 : List PS := [.mk (some 6) (.move (.tmp 4)) none,
  .mk (some 7) (.move (.tmp 3)) none,
  .mk (some 8) (.call ⟨(.builtin .len), #[(.tmp 7)], #[78]⟩) none,
  .mk (some 9) (.binOp .lss 3 (.tmp 6) (.tmp 8) 3) none]
def r28_4 : List PS := [.mk (some 12) (.move (.tmp 3)) none,
  .mk (some 13) (.move (.tmp 4)) none,
  .mk (some 14) (.indexAddr 78 (.tmp 12) (.tmp 13)) none,
  .mk (some 15) (.fieldAddr 81 (.tmp 14) 0) none,
  .mk (some 16) (.load 3 (.tmp 15)) none,
  .mk (some 17) (.move (.tmp 0)) none,
  .mk (some 18) (.binOp .eql 3 (.tmp 16) (.tmp 17) 3) none]
def r28_5 : List PS := [.mk (some 19) (.move (.tmp 3)) none,
  .mk (some 20) (.move (.tmp 4)) none,
  .mk (some 21) (.indexAddr 78 (.tmp 19) (.tmp 20)) none,
  .mk (some 22) (.fieldAddr 81 (.tmp 21) 1) none,
  .mk (some 23) (.load 3 (.tmp 22)) none,
  .mk (some 2) (.assign (.tmp 23)) none]
def r28_6 : List PS := [.mk (some 24) (.move (.tmp 3)) none,
  .mk (some 25) (.move (.tmp 4)) none,
  .mk (some 26) (.indexAddr 78 (.tmp 24) (.tmp 25)) none,
  .mk (some 27) (.fieldAddr 81 (.tmp 26) 1) none,
  .mk (some 28) (.load 3 (.tmp 27)) none,
  .mk (some 29) (.move (.tmp 0)) none,
  .mk (some 30) (.binOp .eql 3 (.tmp 28) (.tmp 29) 3) none]
def r28_7 : List PS := [.mk (some 31) (.move (.tmp 3)) none,
  .mk (some 32) (.move (.tmp 4)) none,
  .mk (some 33) (.indexAddr 78 (.tmp 31) (.tmp 32)) none,
  .mk (some 34) (.fieldAddr 81 (.tmp 33) 0) none,
  .mk (some 35) (.load 3 (.tmp 34)) none,
  .mk (some 2) (.assign (.tmp 35)) none]
def r28_8 : List PS := [.mk (some 10) (.move (.tmp 4)) none,
  .mk (some 11) (.binOp .add 3 (.tmp 10) (.const (.int .i64 1)) 3) none,
  .mk (some 4) (.assign (.tmp 11)) none]
def r28_9 : List PS := [.mk (some 36) (.move (.tmp 0)) none,
  .mk (some 2) (.assign (.tmp 36)) none]
def c28 : PC := (.seq (.reg false r28_0) (.seq (.reg false r28_1) (.seq (.seq (.reg false r28_2) (.block 0 (.loop (.seq (.seq (.reg false r28_3) (.cond (.tmp 9) .skip (.exit 0))) (.seq (.block 1 (.seq (.seq (.reg false r28_4) (.cond (.tmp 18) (.seq (.reg false r28_5) .ret) .skip)) (.seq (.reg false r28_6) (.cond (.tmp 30) (.seq (.reg false r28_7) .ret) .skip)))) (.reg false r28_8)))))) (.seq (.reg false r28_9) .ret))))
theorem e28 {args : List PV} {h : Heap} {K : PV → Heap → Prop} (hl : args.length = 1) (s : pwp Try.prog [] c28 (fin Try.prog [.tmp 2] h K) (slots0 (olds args)) h) : CanP Try.prog 28 args h K :=
  can_of2 (n := 37) mixed Try.func28 rfl (by kernel_rfl) (by rw [hl]; kernel_rfl) rfl (by kernel_rfl) s
/-! ### naskh.naskhref07.Control: function 50 -/
def r50_0 : List PS := [.mk (some 2) (.assign (.const (.bool false))) none]
def r50_1 : List PS := [.mk (some 4) (.move (.tmp 0)) none,
  .mk (some 5) (.call ⟨(.value (.func 18)), #[(.tmp 4)], #[3]⟩) none,
  .mk (some 3) (.assign (.tmp 5)) none]
def r50_2 : List PS := [.mk (some 6) (.move (.tmp 0)) none,
  .mk (some 7) (.binOp .eql 3 (.tmp 6) (.const (.int .i64 8206)) 3) none,
  .mk (some 8) (.move (.tmp 7)) none,
  .mk (some 9) (.move (.tmp 0)) (some (8, false)),
  .mk (some 10) (.binOp .eql 3 (.tmp 9) (.const (.int .i64 8207)) 3) (some (8, false)),
  .mk (some 11) (.pick (.tmp 8) (.const (.bool true)) (.tmp 10)) none,
  .mk (some 12) (.move (.tmp 11)) none,
  .mk (some 13) (.move (.tmp 0)) (some (12, false)),
  .mk (some 14) (.binOp .eql 3 (.tmp 13) (.const (.int .i64 1564)) 3) (some (12, false)),
  .mk (some 15) (.pick (.tmp 12) (.const (.bool true)) (.tmp 14)) none,
  .mk (some 16) (.move (.tmp 15)) none,
  .mk (some 17) (.move (.tmp 3)) (some (16, false)),
  .mk (some 18) (.binOp .eql 3 (.tmp 17) (.const (.int .i64 9)) 3) (some (16, false)),
  .mk (some 19) (.pick (.tmp 16) (.const (.bool true)) (.tmp 18)) none,
  .mk (some 20) (.move (.tmp 19)) none,
  .mk (some 21) (.move (.tmp 3)) (some (20, false)),
  .mk (some 22) (.binOp .geq 3 (.tmp 21) (.const (.int .i64 14)) 3) (some (20, false)),
  .mk (some 23) (.move (.tmp 22)) (some (20, false)),
  .mk (some 24) (.move (.tmp 3)) (some (23, true)),
  .mk (some 25) (.binOp .leq 3 (.tmp 24) (.const (.int .i64 22)) 3) (some (23, true)),
  .mk (some 26) (.pick (.tmp 23) (.tmp 25) (.const (.bool false))) (some (20, false)),
  .mk (some 27) (.pick (.tmp 20) (.const (.bool true)) (.tmp 26)) none,
  .mk (some 2) (.assign (.tmp 27)) none]
def c50 : PC := (.seq (.reg false r50_0) (.seq (.reg false r50_1) (.seq (.reg false r50_2) .ret)))
theorem e50 {args : List PV} {h : Heap} {K : PV → Heap → Prop} (hl : args.length = 1) (s : pwp Try.prog [] c50 (fin Try.prog [.tmp 2] h K) (slots0 (olds args)) h) : CanP Try.prog 50 args h K :=
  can_of2 (n := 28) mixed Try.func50 rfl (by kernel_rfl) (by rw [hl]; kernel_rfl) rfl (by kernel_rfl) s
/-! ### naskh.naskhref33.Places: function 43 -/
def r43_0 : List PS := [.mk (some 2) (.assign (.const (.slice none 0 0))) none]
def r43_1 : List PS := [.mk (some 3) (.assign (.const (.slice none 0 0))) none]
def r43_2 : List PS := [.mk (some 4) (.assign (.const (.int .i64 0))) none]
def r43_3 : List PS := [.mk (some 5) (.move (.tmp 4)) none,
  .mk (some 6) (.move (.tmp 0)) none,
  .mk (some 7) (.call ⟨(.builtin .len), #[(.tmp 6)], #[22]⟩) none,
  .mk (some 8) (.binOp .lss 3 (.tmp 5) (.tmp 7) 3) none]
def r43_4 : List PS := [.mk (some 11) (.move (.tmp 0)) none,
  .mk (some 12) (.move (.tmp 4)) none,
  .mk (some 13) (.indexAddr 22 (.tmp 11) (.tmp 12)) none,
  .mk (some 14) (.load 3 (.tmp 13)) none,
  .mk (some 15) (.call ⟨(.value (.func 50)), #[(.tmp 14)], #[3]⟩) none,
  .mk (some 16) (.unOp .not 4 (.tmp 15)) none]
def r43_5 : List PS := [.mk (some 17) (.move (.tmp 3)) none,
  .mk (some 18) (.move (.tmp 4)) none,
  .mk (some 19) (.buildSlice 22 1 #[(0, (.tmp 18))]) none,
  .mk (some 20) (.call ⟨(.builtin .append), #[(.tmp 17), (.tmp 19)], #[22, 22]⟩) none,
  .mk (some 3) (.assign (.tmp 20)) none]
def r43_6 : List PS := [.mk (some 9) (.move (.tmp 4)) none,
  .mk (some 10) (.binOp .add 3 (.tmp 9) (.const (.int .i64 1)) 3) none,
  .mk (some 4) (.assign (.tmp 10)) none]
def r43_7 : List PS := [.mk (some 21) (.move (.tmp 3)) none,
  .mk (some 2) (.assign (.tmp 21)) none]
def c43 : PC := (.seq (.reg false r43_0) (.seq (.reg false r43_1) (.seq (.seq (.reg false r43_2) (.block 0 (.loop (.seq (.seq (.reg false r43_3) (.cond (.tmp 8) .skip (.exit 0))) (.seq (.block 1 (.seq (.reg false r43_4) (.cond (.tmp 16) (.reg false r43_5) .skip))) (.reg false r43_6)))))) (.seq (.reg false r43_7) .ret))))
theorem e43 {args : List PV} {h : Heap} {K : PV → Heap → Prop} (hl : args.length = 1) (s : pwp Try.prog [] c43 (fin Try.prog [.tmp 2] h K) (slots0 (olds args)) h) : CanP Try.prog 43 args h K :=
  can_of2 (n := 22) mixed Try.func43 rfl (by kernel_rfl) (by rw [hl]; kernel_rfl) rfl (by kernel_rfl) s
/-! ### naskh.naskhref33.Codes: function 29 -/
def r29_0 : List PS := [.mk (some 2) (.assign (.const (.slice none 0 0))) none]
def r29_1 : List PS := [.mk (some 3) (.assign (.const (.slice none 0 0))) none]
def r29_2 : List PS := [.mk (some 6) (.move (.tmp 0)) none,
  .mk (some 7) (.call ⟨(.value (.func 43)), #[(.tmp 6)], #[22]⟩) none,
  .mk (some 4) (.assign (.tmp 7)) none]
def r29_3 : List PS := [.mk (some 5) (.assign (.const (.int .i64 0))) none]
def r29_4 : List PS := [.mk (some 8) (.move (.tmp 5)) none,
  .mk (some 9) (.move (.tmp 4)) none,
  .mk (some 10) (.call ⟨(.builtin .len), #[(.tmp 9)], #[22]⟩) none,
  .mk (some 11) (.binOp .lss 3 (.tmp 8) (.tmp 10) 3) none]
def r29_5 : List PS := [.mk (some 14) (.move (.tmp 3)) none,
  .mk (some 15) (.move (.tmp 0)) none,
  .mk (some 16) (.move (.tmp 4)) none,
  .mk (some 17) (.move (.tmp 5)) none,
  .mk (some 18) (.indexAddr 22 (.tmp 16) (.tmp 17)) none,
  .mk (some 19) (.load 3 (.tmp 18)) none,
  .mk (some 20) (.indexAddr 22 (.tmp 15) (.tmp 19)) none,
  .mk (some 21) (.load 3 (.tmp 20)) none,
  .mk (some 22) (.buildSlice 22 1 #[(0, (.tmp 21))]) none,
  .mk (some 23) (.call ⟨(.builtin .append), #[(.tmp 14), (.tmp 22)], #[22, 22]⟩) none,
  .mk (some 3) (.assign (.tmp 23)) none]
def r29_6 : List PS := [.mk (some 12) (.move (.tmp 5)) none,
  .mk (some 13) (.binOp .add 3 (.tmp 12) (.const (.int .i64 1)) 3) none,
  .mk (some 5) (.assign (.tmp 13)) none]
def r29_7 : List PS := [.mk (some 24) (.move (.tmp 3)) none,
  .mk (some 2) (.assign (.tmp 24)) none]
def c29 : PC := (.seq (.reg false r29_0) (.seq (.reg false r29_1) (.seq (.reg false r29_2) (.seq (.seq (.reg false r29_3) (.block 0 (.loop (.seq (.seq (.reg false r29_4) (.cond (.tmp 11) .skip (.exit 0))) (.seq (.block 1 (.reg false r29_5)) (.reg false r29_6)))))) (.seq (.reg false r29_7) .ret)))))
theorem e29 {args : List PV} {h : Heap} {K : PV → Heap → Prop} (hl : args.length = 1) (s : pwp Try.prog [] c29 (fin Try.prog [.tmp 2] h K) (slots0 (olds args)) h) : CanP Try.prog 29 args h K :=
  can_of2 (n := 25) mixed Try.func29 rfl (by kernel_rfl) (by rw [hl]; kernel_rfl) rfl (by kernel_rfl) s
/-! ### naskh.naskhref46.Reverse: function 10 -/
def r10_0 : List PS := [.mk (some 8) (.assign (.const (.slice none 0 0))) none]
def r10_1 : List PS := [.mk (some 9) (.assign (.const (.slice none 0 0))) none]
def r10_2 : List PS := [.mk (some 14) (.move (.tmp 0)) none,
  .mk (some 15) (.move (.tmp 1)) none,
  .mk (some 16) (.call ⟨(.value (.func 13)), #[(.tmp 14), (.tmp 15)], #[22, 4]⟩) none,
  .mk (some 10) (.assign (.tmp 16)) none]
def r10_3 : List PS := [.mk (some 17) (.move (.tmp 10)) none,
  .mk (some 18) (.call ⟨(.builtin .len), #[(.tmp 17)], #[30]⟩) none,
  .mk (some 19) (.binOp .sub 3 (.tmp 18) (.const (.int .i64 1)) 3) none,
  .mk (some 11) (.assign (.tmp 19)) none]
def r10_4 : List PS := [.mk (some 20) (.move (.tmp 11)) none,
  .mk (some 21) (.binOp .geq 3 (.tmp 20) (.const (.int .i64 0)) 3) none]
def r10_5 : List PS := [.mk (some 24) (.move (.tmp 10)) none,
  .mk (some 25) (.move (.tmp 11)) none,
  .mk (some 26) (.indexAddr 30 (.tmp 24) (.tmp 25)) none,
  .mk (some 27) (.fieldAddr 32 (.tmp 26) 0) none,
  .mk (some 28) (.load 3 (.tmp 27)) none,
  .mk (some 12) (.assign (.tmp 28)) none]
def r10_6 : List PS := [.mk (some 29) (.move (.tmp 12)) none,
  .mk (some 30) (.move (.tmp 10)) none,
  .mk (some 31) (.move (.tmp 11)) none,
  .mk (some 32) (.indexAddr 30 (.tmp 30) (.tmp 31)) none,
  .mk (some 33) (.fieldAddr 32 (.tmp 32) 1) none,
  .mk (some 34) (.load 3 (.tmp 33)) none,
  .mk (some 35) (.binOp .lss 3 (.tmp 29) (.tmp 34) 3) none]
def r10_7 : List PS := [.mk (some 38) (.move (.tmp 0)) none,
  .mk (some 39) (.move (.tmp 12)) none,
  .mk (some 40) (.indexAddr 22 (.tmp 38) (.tmp 39)) none,
  .mk (some 41) (.load 3 (.tmp 40)) none,
  .mk (some 13) (.assign (.tmp 41)) none]
def r10_8 : List PS := [.mk (some 42) (.move (.tmp 2)) none]
def r10_9 : List PS := [.mk (some 43) (.move (.tmp 13)) none,
  .mk (some 44) (.call ⟨(.value (.func 28)), #[(.tmp 43)], #[3]⟩) none,
  .mk (some 13) (.assign (.tmp 44)) none]
def r10_10 : List PS := [.mk (some 45) (.move (.tmp 9)) none,
  .mk (some 46) (.move (.tmp 13)) none,
  .mk (some 47) (.buildSlice 22 1 #[(0, (.tmp 46))]) none,
  .mk (some 48) (.call ⟨(.builtin .append), #[(.tmp 45), (.tmp 47)], #[22, 22]⟩) none,
  .mk (some 9) (.assign (.tmp 48)) none]
def r10_11 : List PS := [.mk (some 36) (.move (.tmp 12)) none,
  .mk (some 37) (.binOp .add 3 (.tmp 36) (.const (.int .i64 1)) 3) none,
  .mk (some 12) (.assign (.tmp 37)) none]
def r10_12 : List PS := [.mk (some 22) (.move (.tmp 11)) none,
  .mk (some 23) (.binOp .sub 3 (.tmp 22) (.const (.int .i64 1)) 3) none,
  .mk (some 11) (.assign (.tmp 23)) none]
def r10_13 : List PS := [.mk (some 49) (.move (.tmp 3)) none]
def r10_14 : List PS := [.frz 9,
  .mk (some 50) (.move (.tmp 9)) none,
  .mk (some 51) (.call ⟨(.value (.func 29)), #[(.tmp 50)], #[22]⟩) none,
  .mk (some 8) (.assign (.tmp 51)) none]
def r10_15 : List PS := [.mk (some 52) (.move (.tmp 9)) none,
  .mk (some 8) (.assign (.tmp 52)) none]
def c10 : PC := (.seq (.reg false r10_0) (.seq (.reg false r10_1) (.seq (.reg false r10_2) (.seq (.seq (.reg false r10_3) (.block 0 (.loop (.seq (.seq (.reg false r10_4) (.cond (.tmp 21) .skip (.exit 0))) (.seq (.block 1 (.seq (.reg false r10_5) (.block 2 (.loop (.seq (.seq (.reg false r10_6) (.cond (.tmp 35) .skip (.exit 2))) (.seq (.block 3 (.seq (.reg false r10_7) (.seq (.seq (.reg false r10_8) (.cond (.tmp 42) (.reg false r10_9) .skip)) (.reg false r10_10)))) (.reg false r10_11))))))) (.reg false r10_12)))))) (.seq (.seq (.reg false r10_13) (.cond (.tmp 49) (.seq (.reg false r10_14) .ret) .skip)) (.seq (.reg false r10_15) .ret))))))
theorem e10 {args : List PV} {h : Heap} {K : PV → Heap → Prop} (hl : args.length = 4) (s : pwp Try.prog [] c10 (fin Try.prog [.tmp 8] h K) (slots0 (olds args)) h) : CanP Try.prog 10 args h K :=
  can_of2 (n := 53) mixed Try.func10 rfl (by kernel_rfl) (by rw [hl]; kernel_rfl) rfl (by kernel_rfl) s
/-! ### slices.Equal[[]naskh.api.Span,naskh.api.Span]: function 11 -/
def r11_0 : List PS := [.mk (some 4) (.assign (.const (.bool false))) none]
def r11_1 : List PS := [.mk (some 6) (.move (.tmp 0)) none,
  .mk (some 7) (.call ⟨(.builtin .len), #[(.tmp 6)], #[30]⟩) none,
  .mk (some 8) (.move (.tmp 1)) none,
  .mk (some 9) (.call ⟨(.builtin .len), #[(.tmp 8)], #[30]⟩) none,
  .mk (some 10) (.binOp .neq 3 (.tmp 7) (.tmp 9) 3) none]
def r11_2 : List PS := [.mk (some 4) (.assign (.const (.bool false))) none]
def r11_3 : List PS := [.mk (some 11) (.move (.tmp 0)) none,
  .mk (some 12) (.call ⟨(.builtin .len), #[(.tmp 11)], #[30]⟩) none,
  .mk (some 13) (.move (.const (.int .i64 0))) none]
def r11_4 : List PS := [.mk (some 14) (.binOp .lss 3 (.tmp 13) (.tmp 12) 3) none]
def r11_5 : List PS := [.mk (some 15) (.move (.tmp 13)) none,
  .mk (some 5) (.assign (.tmp 15)) none]
def r11_6 : List PS := [.mk (some 16) (.move (.tmp 0)) none,
  .mk (some 17) (.move (.tmp 5)) none,
  .mk (some 18) (.indexAddr 30 (.tmp 16) (.tmp 17)) none,
  .mk (some 19) (.load 32 (.tmp 18)) none,
  .mk (some 20) (.move (.tmp 1)) none,
  .mk (some 21) (.move (.tmp 5)) none,
  .mk (some 22) (.indexAddr 30 (.tmp 20) (.tmp 21)) none,
  .mk (some 23) (.load 32 (.tmp 22)) none,
  .mk (some 24) (.binOp .neq 32 (.tmp 19) (.tmp 23) 32) none]
def r11_7 : List PS := [.mk (some 4) (.assign (.const (.bool false))) none]
def r11_8 : List PS := [.mk (some 25) (.binOp .add 3 (.tmp 13) (.const (.int .i64 1)) 3) none,
  .mk (some 13) (.move (.tmp 25)) none]
def r11_9 : List PS := [.mk (some 4) (.assign (.const (.bool true))) none]
def c11 : PC := (.seq (.reg false r11_0) (.seq (.seq (.reg false r11_1) (.cond (.tmp 10) (.seq (.reg false r11_2) .ret) .skip)) (.seq (.seq (.reg false r11_3) (.block 0 (.loop (.seq (.reg false r11_4) (.seq (.cond (.tmp 14) .skip (.exit 0)) (.seq (.block 1 (.seq (.reg false r11_5) (.seq (.reg true r11_6) (.cond (.tmp 24) (.seq (.reg false r11_7) .ret) .skip)))) (.reg false r11_8))))))) (.seq (.reg false r11_9) .ret))))
theorem e11 {args : List PV} {h : Heap} {K : PV → Heap → Prop} (hl : args.length = 2) (s : pwp Try.prog [] c11 (fin Try.prog [.tmp 4] h K) (slots0 (olds args)) h) : CanP Try.prog 11 args h K :=
  can_of2 (n := 26) mixed Try.func11 rfl (by kernel_rfl) (by rw [hl]; kernel_rfl) rfl (by kernel_rfl) s
/-! ### naskh.naskhlaw46.FlipTells: function 3 -/
def r3_0 : List PS := [.mk (some 8) (.assign (.const (.bool false))) none]
def r3_1 : List PS := [.mk (some 10) (.move (.tmp 0)) none,
  .mk (some 11) (.call ⟨(.builtin .len), #[(.tmp 10)], #[22]⟩) none,
  .mk (some 12) (.binOp .gtr 3 (.tmp 11) (.const (.int .i64 200)) 3) none]
def r3_2 : List PS := [.mk (some 13) (.call ⟨(.value (.func 6)), #[], #[]⟩) none,
  .mk (some 8) (.assign (.tmp 13)) none]
def r3_3 : List PS := [.mk (some 14) (.call ⟨(.value (.func 7)), #[], #[]⟩) none,
  .mk (some 9) (.assign (.tmp 14)) none]
def r3_4 : List PS := [.mk (some 15) (.move (.tmp 9)) none,
  .mk (some 16) (.move (.tmp 0)) none,
  .mk (some 17) (.move (.tmp 1)) none,
  .mk (some 18) (.move (.tmp 2)) none,
  .mk (some 19) (.move (.tmp 3)) none,
  .mk (some 20) (.call ⟨(.value (.func 9)), #[(.tmp 15), (.tmp 16), (.tmp 17), (.tmp 18), (.tmp 19)], #[24, 22, 4, 4, 4]⟩) none,
  .mk (some 21) (.move (.tmp 0)) none,
  .mk (some 22) (.move (.tmp 1)) none,
  .mk (some 23) (.move (.tmp 2)) none,
  .mk (some 24) (.move (.tmp 3)) none,
  .mk (some 25) (.call ⟨(.value (.func 10)), #[(.tmp 21), (.tmp 22), (.tmp 23), (.tmp 24)], #[22, 4, 4, 4]⟩) none,
  .mk (some 26) (.call ⟨(.value (.func 8)), #[(.tmp 20), (.tmp 25)], #[22, 22]⟩) none,
  .mk (some 27) (.move (.tmp 26)) none,
  .mk (some 28) (.move (.tmp 9)) (some (27, true)),
  .mk (some 29) (.move (.tmp 0)) (some (27, true)),
  .mk (some 30) (.move (.tmp 1)) (some (27, true)),
  .mk (some 31) (.call ⟨(.value (.func 12)), #[(.tmp 28), (.tmp 29), (.tmp 30)], #[24, 22, 4]⟩) (some (27, true)),
  .mk (some 32) (.move (.tmp 0)) (some (27, true)),
  .mk (some 33) (.move (.tmp 1)) (some (27, true)),
  .mk (some 34) (.call ⟨(.value (.func 13)), #[(.tmp 32), (.tmp 33)], #[22, 4]⟩) (some (27, true)),
  .mk (some 35) (.call ⟨(.value (.func 11)), #[(.tmp 31), (.tmp 34)], #[30, 30]⟩) (some (27, true)),
  .mk (some 36) (.pick (.tmp 27) (.tmp 35) (.const (.bool false))) none,
  .mk (some 37) (.move (.tmp 36)) none,
  .mk (some 38) (.call ⟨(.value (.func 6)), #[], #[]⟩) (some (37, true)),
  .mk (some 39) (.pick (.tmp 37) (.tmp 38) (.const (.bool false))) none,
  .mk (some 8) (.assign (.tmp 39)) none]
def c3 : PC := (.seq (.reg false r3_0) (.seq (.seq (.reg false r3_1) (.cond (.tmp 12) (.seq (.reg false r3_2) .ret) .skip)) (.seq (.reg false r3_3) (.seq (.reg false r3_4) .ret))))
theorem e3 {args : List PV} {h : Heap} {K : PV → Heap → Prop} (hl : args.length = 4) (s : pwp Try.prog [] c3 (fin Try.prog [.tmp 8] h K) (slots0 (olds args)) h) : CanP Try.prog 3 args h K :=
  can_of2 (n := 40) mixed Try.func3 rfl (by kernel_rfl) (by rw [hl]; kernel_rfl) rfl (by kernel_rfl) s
/-! ### naskh.naskhlaw46.FlipBack: function 4 -/
def r4_0 : List PS := [.mk (some 6) (.assign (.const (.bool false))) none]
def r4_1 : List PS := [.mk (some 9) (.move (.tmp 0)) none,
  .mk (some 10) (.call ⟨(.builtin .len), #[(.tmp 9)], #[22]⟩) none,
  .mk (some 11) (.binOp .gtr 3 (.tmp 10) (.const (.int .i64 200)) 3) none,
  .mk (some 12) (.move (.tmp 11)) none,
  .mk (some 13) (.move (.tmp 1)) (some (12, false)),
  .mk (some 14) (.move (.tmp 13)) (some (12, false)),
  .mk (some 15) (.move (.tmp 0)) (some (14, true)),
  .mk (some 16) (.call ⟨(.builtin .len), #[(.tmp 15)], #[22]⟩) (some (14, true)),
  .mk (some 17) (.binOp .gtr 3 (.tmp 16) (.const (.int .i64 0)) 3) (some (14, true)),
  .mk (some 18) (.pick (.tmp 14) (.tmp 17) (.const (.bool false))) (some (12, false)),
  .mk (some 19) (.move (.tmp 18)) (some (12, false)),
  .mk (some 20) (.move (.tmp 0)) (some (19, true)),
  .mk (some 21) (.indexAddr 22 (.tmp 20) (.const (.int .i64 0))) (some (19, true)),
  .mk (some 22) (.load 3 (.tmp 21)) (some (19, true)),
  .mk (some 23) (.call ⟨(.value (.func 14)), #[(.tmp 22)], #[3]⟩) (some (19, true)),
  .mk (some 24) (.pick (.tmp 19) (.tmp 23) (.const (.bool false))) (some (12, false)),
  .mk (some 25) (.pick (.tmp 12) (.const (.bool true)) (.tmp 24)) none]
def r4_2 : List PS := [.mk (some 26) (.call ⟨(.value (.func 6)), #[], #[]⟩) none,
  .mk (some 6) (.assign (.tmp 26)) none]
def r4_3 : List PS := [.mk (some 27) (.call ⟨(.value (.func 7)), #[], #[]⟩) none,
  .mk (some 7) (.assign (.tmp 27)) none]
def r4_4 : List PS := [.mk (some 28) (.move (.tmp 7)) none,
  .mk (some 29) (.move (.tmp 0)) none,
  .mk (some 30) (.move (.tmp 1)) none,
  .mk (some 31) (.move (.tmp 2)) none,
  .mk (some 32) (.call ⟨(.value (.func 9)), #[(.tmp 28), (.tmp 29), (.tmp 30), (.tmp 31), (.const (.bool false))], #[24, 22, 4, 4, 4]⟩) none,
  .mk (some 8) (.assign (.tmp 32)) none]
def r4_5 : List PS := [.mk (some 33) (.move (.tmp 7)) none,
  .mk (some 34) (.move (.tmp 8)) none,
  .mk (some 35) (.move (.tmp 1)) none,
  .mk (some 36) (.move (.tmp 2)) none,
  .mk (some 37) (.call ⟨(.value (.func 9)), #[(.tmp 33), (.tmp 34), (.tmp 35), (.tmp 36), (.const (.bool false))], #[24, 22, 4, 4, 4]⟩) none,
  .mk (some 38) (.move (.tmp 0)) none,
  .mk (some 39) (.call ⟨(.value (.func 8)), #[(.tmp 37), (.tmp 38)], #[22, 22]⟩) none,
  .mk (some 40) (.move (.tmp 39)) none,
  .mk (some 41) (.call ⟨(.value (.func 6)), #[], #[]⟩) (some (40, true)),
  .mk (some 42) (.pick (.tmp 40) (.tmp 41) (.const (.bool false))) none,
  .mk (some 6) (.assign (.tmp 42)) none]
def c4 : PC := (.seq (.reg false r4_0) (.seq (.seq (.reg false r4_1) (.cond (.tmp 25) (.seq (.reg false r4_2) .ret) .skip)) (.seq (.reg false r4_3) (.seq (.reg false r4_4) (.seq (.reg false r4_5) .ret)))))
theorem e4 {args : List PV} {h : Heap} {K : PV → Heap → Prop} (hl : args.length = 3) (s : pwp Try.prog [] c4 (fin Try.prog [.tmp 6] h K) (slots0 (olds args)) h) : CanP Try.prog 4 args h K :=
  can_of2 (n := 43) mixed Try.func4 rfl (by kernel_rfl) (by rw [hl]; kernel_rfl) rfl (by kernel_rfl) s
/-! ### naskh.span.Right: function 31 -/
def r31_0 : List PS := [.mk (some 1) (.box 32 (.tmp 0)) none,
  .mk (some 2) (.assign (.const (.bool false))) none]
def r31_1 : List PS := [.mk (some 3) (.fieldAddr 32 (.tmp 1) 0) none,
  .mk (some 4) (.load 3 (.tmp 3)) none,
  .mk (some 5) (.binOp .leq 3 (.const (.int .i64 0)) (.tmp 4) 3) none,
  .mk (some 6) (.move (.tmp 5)) none,
  .mk (some 7) (.fieldAddr 32 (.tmp 1) 0) (some (6, true)),
  .mk (some 8) (.load 3 (.tmp 7)) (some (6, true)),
  .mk (some 9) (.fieldAddr 32 (.tmp 1) 1) (some (6, true)),
  .mk (some 10) (.load 3 (.tmp 9)) (some (6, true)),
  .mk (some 11) (.binOp .lss 3 (.tmp 8) (.tmp 10) 3) (some (6, true)),
  .mk (some 12) (.pick (.tmp 6) (.tmp 11) (.const (.bool false))) none,
  .mk (some 2) (.assign (.tmp 12)) none]
def c31 : PC := (.seq (.reg false r31_0) (.seq (.reg false r31_1) .ret))
theorem e31 {args : List PV} {h : Heap} {K : PV → Heap → Prop} (hl : args.length = 1) (s : pwp Try.prog [] c31 (fin Try.prog [.tmp 2] h K) (slots0 (olds args)) h) : CanP Try.prog 31 args h K :=
  can_of2 (n := 13) mixed Try.func31 rfl (by kernel_rfl) (by rw [hl]; kernel_rfl) rfl (by kernel_rfl) s
/-! ### naskh.span.Parts: function 15 -/
def r15_0 : List PS := [.mk (some 4) (.assign (.const (.bool false))) none]
def r15_1 : List PS := [.mk (some 5) (.assign (.const (.int .i64 0))) none]
def r15_2 : List PS := [.mk (some 8) (.move (.tmp 0)) none,
  .mk (some 9) (.call ⟨(.builtin .len), #[(.tmp 8)], #[30]⟩) none,
  .mk (some 10) (.move (.const (.int .i64 0))) none]
def r15_3 : List PS := [.mk (some 11) (.binOp .lss 3 (.tmp 10) (.tmp 9) 3) none]
def r15_4 : List PS := [.mk (some 12) (.indexAddr 30 (.tmp 8) (.tmp 10)) none,
  .mk (some 13) (.load 32 (.tmp 12)) none,
  .mk (some 7) (.alloc 32) none,
  .mk none (.store 32 (.tmp 7) (.tmp 13)) none,
  .frz 7]
def r15_5 : List PS := [.mk (some 14) (.fieldAddr 32 (.tmp 7) 0) none,
  .mk (some 15) (.load 3 (.tmp 14)) none,
  .mk (some 16) (.move (.tmp 5)) none,
  .mk (some 17) (.binOp .neq 3 (.tmp 15) (.tmp 16) 3) none,
  .mk (some 18) (.move (.tmp 17)) none,
  .mk (some 19) (.load 32 (.tmp 7)) (some (18, false)),
  .mk (some 20) (.call ⟨(.value (.func 31)), #[(.tmp 19)], #[32]⟩) (some (18, false)),
  .mk (some 21) (.unOp .not 4 (.tmp 20)) (some (18, false)),
  .mk (some 22) (.pick (.tmp 18) (.const (.bool true)) (.tmp 21)) none]
def r15_6 : List PS := [.mk (some 4) (.assign (.const (.bool false))) none]
def r15_7 : List PS := [.mk (some 23) (.fieldAddr 32 (.tmp 7) 1) none,
  .mk (some 24) (.load 3 (.tmp 23)) none,
  .mk (some 5) (.assign (.tmp 24)) none]
def r15_8 : List PS := [.mk (some 25) (.binOp .add 3 (.tmp 10) (.const (.int .i64 1)) 3) none,
  .mk (some 10) (.move (.tmp 25)) none]
def r15_9 : List PS := [.mk (some 26) (.move (.tmp 5)) none,
  .mk (some 27) (.move (.tmp 1)) none,
  .mk (some 28) (.binOp .eql 3 (.tmp 26) (.tmp 27) 3) none,
  .mk (some 4) (.assign (.tmp 28)) none]
def c15 : PC := (.seq (.reg false r15_0) (.seq (.reg false r15_1) (.seq (.seq (.reg false r15_2) (.block 0 (.loop (.seq (.reg false r15_3) (.seq (.cond (.tmp 11) .skip (.exit 0)) (.seq (.block 1 (.seq (.reg false r15_4) (.seq (.seq (.reg false r15_5) (.cond (.tmp 22) (.seq (.reg false r15_6) .ret) .skip)) (.reg false r15_7)))) (.reg false r15_8))))))) (.seq (.reg false r15_9) .ret))))
theorem e15 {args : List PV} {h : Heap} {K : PV → Heap → Prop} (hl : args.length = 2) (s : pwp Try.prog [7] c15 (fin Try.prog [.tmp 4] h K) (slots0 (olds args)) h) : CanP Try.prog 15 args h K :=
  can_of2 (n := 29) mixed Try.func15 rfl (by kernel_rfl) (by rw [hl]; kernel_rfl) rfl (by kernel_rfl) s
/-! ### slices.IndexFunc[[]int,int]: function 32 -/
def r32_0 : List PS := [.mk (some 4) (.assign (.const (.int .i64 0))) none]
def r32_1 : List PS := [.mk (some 6) (.move (.tmp 0)) none,
  .mk (some 7) (.call ⟨(.builtin .len), #[(.tmp 6)], #[22]⟩) none,
  .mk (some 8) (.move (.const (.int .i64 0))) none]
def r32_2 : List PS := [.mk (some 9) (.binOp .lss 3 (.tmp 8) (.tmp 7) 3) none]
def r32_3 : List PS := [.mk (some 10) (.move (.tmp 8)) none,
  .mk (some 5) (.assign (.tmp 10)) none]
def r32_4 : List PS := [.mk (some 11) (.move (.tmp 1)) none,
  .mk (some 12) (.move (.tmp 0)) none,
  .mk (some 13) (.move (.tmp 5)) none,
  .mk (some 14) (.indexAddr 22 (.tmp 12) (.tmp 13)) none,
  .mk (some 15) (.load 3 (.tmp 14)) none,
  .mk (some 16) (.call ⟨(.value (.tmp 11)), #[(.tmp 15)], #[3]⟩) none]
def r32_5 : List PS := [.mk (some 17) (.move (.tmp 5)) none,
  .mk (some 4) (.assign (.tmp 17)) none]
def r32_6 : List PS := [.mk (some 18) (.binOp .add 3 (.tmp 8) (.const (.int .i64 1)) 3) none,
  .mk (some 8) (.move (.tmp 18)) none]
def r32_7 : List PS := [.mk (some 4) (.assign (.const (.int .i64 (-1)))) none]
def c32 : PC := (.seq (.reg false r32_0) (.seq (.seq (.reg false r32_1) (.block 0 (.loop (.seq (.reg false r32_2) (.seq (.cond (.tmp 9) .skip (.exit 0)) (.seq (.block 1 (.seq (.reg false r32_3) (.seq (.reg false r32_4) (.cond (.tmp 16) (.seq (.reg false r32_5) .ret) .skip)))) (.reg false r32_6))))))) (.seq (.reg false r32_7) .ret)))
theorem e32 {args : List PV} {h : Heap} {K : PV → Heap → Prop} (hl : args.length = 2) (s : pwp Try.prog [] c32 (fin Try.prog [.tmp 4] h K) (slots0 (olds args)) h) : CanP Try.prog 32 args h K :=
  can_of2 (n := 19) mixed Try.func32 rfl (by kernel_rfl) (by rw [hl]; kernel_rfl) rfl (by kernel_rfl) s
/-! ### slices.ContainsFunc[[]int,int]: function 16 -/
def r16_0 : List PS := [.mk (some 4) (.assign (.const (.bool false))) none]
def r16_1 : List PS := [.mk (some 5) (.move (.tmp 0)) none,
  .mk (some 6) (.move (.tmp 1)) none,
  .mk (some 7) (.call ⟨(.value (.func 32)), #[(.tmp 5), (.tmp 6)], #[22, 36]⟩) none,
  .mk (some 8) (.binOp .geq 3 (.tmp 7) (.const (.int .i64 0)) 3) none,
  .mk (some 4) (.assign (.tmp 8)) none]
def c16 : PC := (.seq (.reg false r16_0) (.seq (.reg false r16_1) .ret))
theorem e16 {args : List PV} {h : Heap} {K : PV → Heap → Prop} (hl : args.length = 2) (s : pwp Try.prog [] c16 (fin Try.prog [.tmp 4] h K) (slots0 (olds args)) h) : CanP Try.prog 16 args h K :=
  can_of2 (n := 9) mixed Try.func16 rfl (by kernel_rfl) (by rw [hl]; kernel_rfl) rfl (by kernel_rfl) s
/-! ### naskh.naskhlaw46.FlipChunks$1: function 17 -/
def r17_0 : List PS := [.mk (some 2) (.assign (.const (.bool false))) none]
def r17_1 : List PS := [.mk (some 3) (.move (.tmp 0)) none,
  .mk (some 4) (.call ⟨(.value (.func 18)), #[(.tmp 3)], #[3]⟩) none,
  .mk (some 5) (.binOp .neq 3 (.tmp 4) (.const (.int .i64 8)) 3) none,
  .mk (some 2) (.assign (.tmp 5)) none]
def c17 : PC := (.seq (.reg false r17_0) (.seq (.reg false r17_1) .ret))
theorem e17 {args : List PV} {h : Heap} {K : PV → Heap → Prop} (hl : args.length = 1) (s : pwp Try.prog [] c17 (fin Try.prog [.tmp 2] h K) (slots0 (olds args)) h) : CanP Try.prog 17 args h K :=
  can_of2 (n := 6) mixed Try.func17 rfl (by kernel_rfl) (by rw [hl]; kernel_rfl) rfl (by kernel_rfl) s
/-! ### naskh.naskhlaw46.FlipChunks: function 5 -/
def r5_0 : List PS := [.mk (some 4) (.assign (.const (.bool false))) none]
def r5_1 : List PS := [.mk (some 9) (.move (.tmp 0)) none,
  .mk (some 10) (.call ⟨(.builtin .len), #[(.tmp 9)], #[22]⟩) none,
  .mk (some 11) (.binOp .gtr 3 (.tmp 10) (.const (.int .i64 200)) 3) none]
def r5_2 : List PS := [.mk (some 12) (.call ⟨(.value (.func 6)), #[], #[]⟩) none,
  .mk (some 4) (.assign (.tmp 12)) none]
def r5_3 : List PS := [.mk (some 13) (.call ⟨(.value (.func 7)), #[], #[]⟩) none,
  .mk (some 14) (.move (.tmp 0)) none,
  .mk (some 15) (.move (.tmp 1)) none,
  .mk (some 16) (.call ⟨(.value (.func 12)), #[(.tmp 13), (.tmp 14), (.tmp 15)], #[24, 22, 4]⟩) none,
  .mk (some 5) (.assign (.tmp 16)) none]
def r5_4 : List PS := [.mk (some 17) (.move (.tmp 5)) none,
  .mk (some 18) (.move (.tmp 0)) none,
  .mk (some 19) (.call ⟨(.builtin .len), #[(.tmp 18)], #[22]⟩) none,
  .mk (some 20) (.call ⟨(.value (.func 15)), #[(.tmp 17), (.tmp 19)], #[30, 3]⟩) none,
  .mk (some 21) (.unOp .not 4 (.tmp 20)) none,
  .mk (some 22) (.move (.tmp 21)) none,
  .mk (some 23) (.move (.tmp 1)) (some (22, false)),
  .mk (some 24) (.unOp .not 4 (.tmp 23)) (some (22, false)),
  .mk (some 25) (.move (.tmp 24)) (some (22, false)),
  .mk (some 26) (.move (.tmp 5)) (some (25, true)),
  .mk (some 27) (.call ⟨(.builtin .len), #[(.tmp 26)], #[30]⟩) (some (25, true)),
  .mk (some 28) (.move (.tmp 0)) (some (25, true)),
  .mk (some 29) (.call ⟨(.builtin .len), #[(.tmp 28)], #[22]⟩) (some (25, true)),
  .mk (some 30) (.binOp .neq 3 (.tmp 27) (.tmp 29) 3) (some (25, true)),
  .mk (some 31) (.pick (.tmp 25) (.tmp 30) (.const (.bool false))) (some (22, false)),
  .mk (some 32) (.pick (.tmp 22) (.const (.bool true)) (.tmp 31)) none]
def r5_5 : List PS := [.mk (some 4) (.assign (.const (.bool false))) none]
def r5_6 : List PS := [.mk (some 33) (.move (.tmp 5)) none,
  .mk (some 34) (.call ⟨(.builtin .len), #[(.tmp 33)], #[30]⟩) none,
  .mk (some 35) (.move (.const (.int .i64 0))) none]
def r5_7 : List PS := [.mk (some 36) (.binOp .lss 3 (.tmp 35) (.tmp 34) 3) none]
def r5_8 : List PS := [.mk (some 37) (.indexAddr 30 (.tmp 33) (.tmp 35)) none,
  .mk (some 38) (.load 32 (.tmp 37)) none,
  .mk (some 7) (.alloc 32) none,
  .mk none (.store 32 (.tmp 7) (.tmp 38)) none,
  .frz 7]
def r5_9 : List PS := [.mk (some 39) (.move (.tmp 0)) none,
  .mk (some 40) (.fieldAddr 32 (.tmp 7) 0) none,
  .mk (some 41) (.load 3 (.tmp 40)) none,
  .mk (some 42) (.binOp .add 3 (.tmp 41) (.const (.int .i64 1)) 3) none,
  .mk (some 43) (.fieldAddr 32 (.tmp 7) 1) none,
  .mk (some 44) (.load 3 (.tmp 43)) none,
  .mk (some 45) (.slice 22 (.tmp 39) (some (.tmp 42)) (some (.tmp 44)) none) none,
  .mk (some 8) (.assign (.tmp 45)) none]
def r5_10 : List PS := [.mk (some 46) (.move (.tmp 8)) none,
  .mk (some 47) (.call ⟨(.value (.func 16)), #[(.tmp 46), (.func 17)], #[22, 36]⟩) none]
def r5_11 : List PS := [.mk (some 4) (.assign (.const (.bool false))) none]
def r5_12 : List PS := [.mk (some 48) (.binOp .add 3 (.tmp 35) (.const (.int .i64 1)) 3) none,
  .mk (some 35) (.move (.tmp 48)) none]
def r5_13 : List PS := [.mk (some 49) (.call ⟨(.value (.func 6)), #[], #[]⟩) none,
  .mk (some 4) (.assign (.tmp 49)) none]
def c5 : PC := (.seq (.reg false r5_0) (.seq (.seq (.reg false r5_1) (.cond (.tmp 11) (.seq (.reg false r5_2) .ret) .skip)) (.seq (.reg false r5_3) (.seq (.seq (.reg false r5_4) (.cond (.tmp 32) (.seq (.reg false r5_5) .ret) .skip)) (.seq (.seq (.reg false r5_6) (.block 0 (.loop (.seq (.reg false r5_7) (.seq (.cond (.tmp 36) .skip (.exit 0)) (.seq (.block 1 (.seq (.reg false r5_8) (.seq (.reg false r5_9) (.seq (.reg false r5_10) (.cond (.tmp 47) (.seq (.reg false r5_11) .ret) .skip))))) (.reg false r5_12))))))) (.seq (.reg false r5_13) .ret))))))
theorem e5 {args : List PV} {h : Heap} {K : PV → Heap → Prop} (hl : args.length = 2) (s : pwp Try.prog [7] c5 (fin Try.prog [.tmp 4] h K) (slots0 (olds args)) h) : CanP Try.prog 5 args h K :=
  can_of2 (n := 50) mixed Try.func5 rfl (by kernel_rfl) (by rw [hl]; kernel_rfl) rfl (by kernel_rfl) s
end Go.Proofs.Ytjabiegaeflhjaa
