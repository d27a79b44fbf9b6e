/-
  The functions that the statements of this seat reach, told in short, and facts on their types. Printed by this project's own program.
  Conditions: none.
-/
import Derived.Test.YtcgaphmndnmfdaaPmO
import Derived.Test.YtcgaphmndnmfdaaProg
import Derived.KernelRfl
namespace Go.Proofs.Ytcgaphmndnmfdaa
open Go.Pm
set_option maxRecDepth 100000
set_option linter.unusedVariables false
theorem mixed : Try.prog.follows .mixedOrders = true := by kernel_rfl
theorem tag3 : tag Try.prog 3 = some false := by kernel_rfl
theorem tsz3 : tsz Try.prog 3 = some 1 := by kernel_rfl
theorem und3 : und Try.prog 3 = true := by kernel_rfl
theorem ik3 : ik Try.prog 3 = some .i64 := by kernel_rfl
theorem kd3 : kd Try.prog 3 = none := by kernel_rfl
theorem esz3 : esz Try.prog 3 = none := by kernel_rfl
theorem zc3 : zc Try.prog 3 = some [.int .i64 0] := by kernel_rfl
theorem ars3 : ars Try.prog 3 = none := by kernel_rfl
theorem tag4 : tag Try.prog 4 = some false := by kernel_rfl
theorem tsz4 : tsz Try.prog 4 = some 1 := by kernel_rfl
theorem und4 : und Try.prog 4 = true := by kernel_rfl
theorem ik4 : ik Try.prog 4 = none := by kernel_rfl
theorem kd4 : kd Try.prog 4 = some 3 := by kernel_rfl
theorem esz4 : esz Try.prog 4 = none := by kernel_rfl
theorem zc4 : zc Try.prog 4 = some [.bool false] := by kernel_rfl
theorem ars4 : ars Try.prog 4 = none := by kernel_rfl
theorem tag9 : tag Try.prog 9 = some false := by kernel_rfl
theorem tsz9 : tsz Try.prog 9 = some 1 := by kernel_rfl
theorem und9 : und Try.prog 9 = true := by kernel_rfl
theorem ik9 : ik Try.prog 9 = none := by kernel_rfl
theorem kd9 : kd Try.prog 9 = some 0 := by kernel_rfl
theorem esz9 : esz Try.prog 9 = none := by kernel_rfl
theorem zc9 : zc Try.prog 9 = some [.str ⟨#[]⟩] := by kernel_rfl
theorem ars9 : ars Try.prog 9 = none := by kernel_rfl
theorem tag22 : tag Try.prog 22 = some false := by kernel_rfl
theorem tsz22 : tsz Try.prog 22 = some 1 := by kernel_rfl
theorem und22 : und Try.prog 22 = true := by kernel_rfl
theorem ik22 : ik Try.prog 22 = none := by kernel_rfl
theorem kd22 : kd Try.prog 22 = some 1 := by kernel_rfl
theorem esz22 : esz Try.prog 22 = some 2 := by kernel_rfl
theorem elt22 : elt Try.prog 22 = some 27 := by kernel_rfl
theorem zc22 : zc Try.prog 22 = some [.nils] := by kernel_rfl
theorem ars22 : ars Try.prog 22 = none := by kernel_rfl
theorem eli22 : eli Try.prog 22 = some (2, 16, [.int .i64 0, .int .i64 0]) := by kernel_rfl
theorem tag23 : tag Try.prog 23 = some false := by kernel_rfl
theorem tsz23 : tsz Try.prog 23 = some 1 := by kernel_rfl
theorem und23 : und Try.prog 23 = true := by kernel_rfl
theorem ik23 : ik Try.prog 23 = none := by kernel_rfl
theorem kd23 : kd Try.prog 23 = some 1 := by kernel_rfl
theorem esz23 : esz Try.prog 23 = some 1 := by kernel_rfl
theorem elt23 : elt Try.prog 23 = some 3 := by kernel_rfl
theorem zc23 : zc Try.prog 23 = some [.nils] := by kernel_rfl
theorem ars23 : ars Try.prog 23 = none := by kernel_rfl
theorem eli23 : eli Try.prog 23 = some (1, 8, [.int .i64 0]) := by kernel_rfl
theorem tag25 : tag Try.prog 25 = some false := by kernel_rfl
theorem tsz25 : tsz Try.prog 25 = some 1 := by kernel_rfl
theorem und25 : und Try.prog 25 = true := by kernel_rfl
theorem ik25 : ik Try.prog 25 = none := by kernel_rfl
theorem kd25 : kd Try.prog 25 = some 1 := by kernel_rfl
theorem esz25 : esz Try.prog 25 = some 2 := by kernel_rfl
theorem elt25 : elt Try.prog 25 = some 28 := by kernel_rfl
theorem zc25 : zc Try.prog 25 = some [.nils] := by kernel_rfl
theorem ars25 : ars Try.prog 25 = none := by kernel_rfl
theorem eli25 : eli Try.prog 25 = some (2, 16, [.int .i64 0, .int .i64 0]) := by kernel_rfl
theorem tag27 : tag Try.prog 27 = some true := by kernel_rfl
theorem tsz27 : tsz Try.prog 27 = some 2 := by kernel_rfl
theorem und27 : und Try.prog 27 = true := by kernel_rfl
theorem ik27 : ik Try.prog 27 = none := by kernel_rfl
theorem kd27 : kd Try.prog 27 = some 14 := by kernel_rfl
theorem esz27 : esz Try.prog 27 = none := by kernel_rfl
theorem zc27 : zc Try.prog 27 = some [.int .i64 0, .int .i64 0] := by kernel_rfl
theorem ars27 : ars Try.prog 27 = none := by kernel_rfl
theorem fld27_0 : fld Try.prog 27 0 = some (0, false, 1) := by kernel_rfl
theorem fld27_1 : fld Try.prog 27 1 = some (1, false, 1) := by kernel_rfl
theorem plc27 : plc Try.prog 27 = some fun i => [(0, 1), (1, 1)][i]? := by kernel_rfl
theorem tag28 : tag Try.prog 28 = some true := by kernel_rfl
theorem tsz28 : tsz Try.prog 28 = some 2 := by kernel_rfl
theorem und28 : und Try.prog 28 = true := by kernel_rfl
theorem ik28 : ik Try.prog 28 = none := by kernel_rfl
theorem kd28 : kd Try.prog 28 = some 14 := by kernel_rfl
theorem esz28 : esz Try.prog 28 = none := by kernel_rfl
theorem zc28 : zc Try.prog 28 = some [.int .i64 0, .int .i64 0] := by kernel_rfl
theorem ars28 : ars Try.prog 28 = none := by kernel_rfl
theorem fld28_0 : fld Try.prog 28 0 = some (0, false, 1) := by kernel_rfl
theorem fld28_1 : fld Try.prog 28 1 = some (1, false, 1) := by kernel_rfl
theorem plc28 : plc Try.prog 28 = some fun i => [(0, 1), (1, 1)][i]? := by kernel_rfl
theorem tag34 : tag Try.prog 34 = some false := by kernel_rfl
theorem tsz34 : tsz Try.prog 34 = some 1 := by kernel_rfl
theorem und34 : und Try.prog 34 = true := by kernel_rfl
theorem ik34 : ik Try.prog 34 = none := by kernel_rfl
theorem kd34 : kd Try.prog 34 = some 2 := by kernel_rfl
theorem esz34 : esz Try.prog 34 = none := by kernel_rfl
theorem zc34 : zc Try.prog 34 = some [.nilp] := by kernel_rfl
theorem ars34 : ars Try.prog 34 = none := by kernel_rfl
theorem tag36 : tag Try.prog 36 = some false := by kernel_rfl
theorem tsz36 : tsz Try.prog 36 = some 1 := by kernel_rfl
theorem und36 : und Try.prog 36 = true := by kernel_rfl
theorem ik36 : ik Try.prog 36 = none := by kernel_rfl
theorem kd36 : kd Try.prog 36 = some 2 := by kernel_rfl
theorem esz36 : esz Try.prog 36 = none := by kernel_rfl
theorem zc36 : zc Try.prog 36 = some [.nilp] := by kernel_rfl
theorem ars36 : ars Try.prog 36 = none := by kernel_rfl
theorem tag40 : tag Try.prog 40 = some false := by kernel_rfl
theorem tsz40 : tsz Try.prog 40 = some 1 := by kernel_rfl
theorem und40 : und Try.prog 40 = true := by kernel_rfl
theorem ik40 : ik Try.prog 40 = none := by kernel_rfl
theorem kd40 : kd Try.prog 40 = some 1 := by kernel_rfl
theorem esz40 : esz Try.prog 40 = some 1 := by kernel_rfl
theorem elt40 : elt Try.prog 40 = some 9 := by kernel_rfl
theorem zc40 : zc Try.prog 40 = some [.nils] := by kernel_rfl
theorem ars40 : ars Try.prog 40 = none := by kernel_rfl
theorem eli40 : eli Try.prog 40 = some (1, 16, [.str ⟨#[]⟩]) := by kernel_rfl
theorem tag41 : tag Try.prog 41 = some false := by kernel_rfl
theorem tsz41 : tsz Try.prog 41 = some 1 := by kernel_rfl
theorem und41 : und Try.prog 41 = true := by kernel_rfl
theorem ik41 : ik Try.prog 41 = none := by kernel_rfl
theorem kd41 : kd Try.prog 41 = some 2 := by kernel_rfl
theorem esz41 : esz Try.prog 41 = none := by kernel_rfl
theorem zc41 : zc Try.prog 41 = some [.nilp] := by kernel_rfl
theorem ars41 : ars Try.prog 41 = none := by kernel_rfl
theorem tag43 : tag Try.prog 43 = some true := by kernel_rfl
theorem tsz43 : tsz Try.prog 43 = some 3 := by kernel_rfl
theorem und43 : und Try.prog 43 = true := by kernel_rfl
theorem ik43 : ik Try.prog 43 = none := by kernel_rfl
theorem kd43 : kd Try.prog 43 = none := by kernel_rfl
theorem esz43 : esz Try.prog 43 = none := by kernel_rfl
theorem zc43 : zc Try.prog 43 = some [.nilp, .nilp, .nils] := by kernel_rfl
theorem ars43 : ars Try.prog 43 = none := by kernel_rfl
theorem fld43_0 : fld Try.prog 43 0 = some (0, false, 1) := by kernel_rfl
theorem fld43_1 : fld Try.prog 43 1 = some (1, false, 1) := by kernel_rfl
theorem fld43_2 : fld Try.prog 43 2 = some (2, false, 1) := by kernel_rfl
theorem plc43 : plc Try.prog 43 = some fun i => [(0, 1), (1, 1), (2, 1)][i]? := by kernel_rfl
theorem tag44 : tag Try.prog 44 = some false := by kernel_rfl
theorem tsz44 : tsz Try.prog 44 = some 1 := by kernel_rfl
theorem und44 : und Try.prog 44 = true := by kernel_rfl
theorem ik44 : ik Try.prog 44 = none := by kernel_rfl
theorem kd44 : kd Try.prog 44 = some 1 := by kernel_rfl
theorem esz44 : esz Try.prog 44 = some 2 := by kernel_rfl
theorem elt44 : elt Try.prog 44 = some 47 := by kernel_rfl
theorem zc44 : zc Try.prog 44 = some [.nils] := by kernel_rfl
theorem ars44 : ars Try.prog 44 = none := by kernel_rfl
theorem eli44 : eli Try.prog 44 = some (2, 16, [.int .i64 0, .int .i64 0]) := by kernel_rfl
theorem tag47 : tag Try.prog 47 = some true := by kernel_rfl
theorem tsz47 : tsz Try.prog 47 = some 2 := by kernel_rfl
theorem und47 : und Try.prog 47 = true := by kernel_rfl
theorem ik47 : ik Try.prog 47 = none := by kernel_rfl
theorem kd47 : kd Try.prog 47 = some 14 := by kernel_rfl
theorem esz47 : esz Try.prog 47 = none := by kernel_rfl
theorem zc47 : zc Try.prog 47 = some [.int .i64 0, .int .i64 0] := by kernel_rfl
theorem ars47 : ars Try.prog 47 = none := by kernel_rfl
theorem fld47_0 : fld Try.prog 47 0 = some (0, false, 1) := by kernel_rfl
theorem fld47_1 : fld Try.prog 47 1 = some (1, false, 1) := by kernel_rfl
theorem plc47 : plc Try.prog 47 = some fun i => [(0, 1), (1, 1)][i]? := by kernel_rfl
theorem tag48 : tag Try.prog 48 = some false := by kernel_rfl
theorem tsz48 : tsz Try.prog 48 = some 1 := by kernel_rfl
theorem und48 : und Try.prog 48 = true := by kernel_rfl
theorem ik48 : ik Try.prog 48 = none := by kernel_rfl
theorem kd48 : kd Try.prog 48 = some 2 := by kernel_rfl
theorem esz48 : esz Try.prog 48 = none := by kernel_rfl
theorem zc48 : zc Try.prog 48 = some [.nilp] := by kernel_rfl
theorem ars48 : ars Try.prog 48 = none := by kernel_rfl
theorem tag51 : tag Try.prog 51 = some false := by kernel_rfl
theorem tsz51 : tsz Try.prog 51 = some 1 := by kernel_rfl
theorem und51 : und Try.prog 51 = true := by kernel_rfl
theorem ik51 : ik Try.prog 51 = none := by kernel_rfl
theorem kd51 : kd Try.prog 51 = some 2 := by kernel_rfl
theorem esz51 : esz Try.prog 51 = none := by kernel_rfl
theorem zc51 : zc Try.prog 51 = some [.nilp] := by kernel_rfl
theorem ars51 : ars Try.prog 51 = none := by kernel_rfl
theorem tag52 : tag Try.prog 52 = some false := by kernel_rfl
theorem tsz52 : tsz Try.prog 52 = some 1 := by kernel_rfl
theorem und52 : und Try.prog 52 = true := by kernel_rfl
theorem ik52 : ik Try.prog 52 = some .i64 := by kernel_rfl
theorem kd52 : kd Try.prog 52 = none := by kernel_rfl
theorem esz52 : esz Try.prog 52 = none := by kernel_rfl
theorem zc52 : zc Try.prog 52 = some [.int .i64 0] := by kernel_rfl
theorem ars52 : ars Try.prog 52 = none := by kernel_rfl
theorem tag55 : tag Try.prog 55 = some false := by kernel_rfl
theorem tsz55 : tsz Try.prog 55 = some 1 := by kernel_rfl
theorem und55 : und Try.prog 55 = true := by kernel_rfl
theorem ik55 : ik Try.prog 55 = none := by kernel_rfl
theorem kd55 : kd Try.prog 55 = some 1 := by kernel_rfl
theorem esz55 : esz Try.prog 55 = some 3 := by kernel_rfl
theorem elt55 : elt Try.prog 55 = some 83 := by kernel_rfl
theorem zc55 : zc Try.prog 55 = some [.nils] := by kernel_rfl
theorem ars55 : ars Try.prog 55 = none := by kernel_rfl
theorem eli55 : eli Try.prog 55 = some (3, 24, [.int .i64 0, .int .i64 0, .int .i64 0]) := by kernel_rfl
theorem tag58 : tag Try.prog 58 = some true := by kernel_rfl
theorem tsz58 : tsz Try.prog 58 = some 2 := by kernel_rfl
theorem und58 : und Try.prog 58 = true := by kernel_rfl
theorem ik58 : ik Try.prog 58 = none := by kernel_rfl
theorem kd58 : kd Try.prog 58 = none := by kernel_rfl
theorem esz58 : esz Try.prog 58 = none := by kernel_rfl
theorem zc58 : zc Try.prog 58 = some [.nilp, .nilp] := by kernel_rfl
theorem ars58 : ars Try.prog 58 = none := by kernel_rfl
theorem fld58_0 : fld Try.prog 58 0 = some (0, false, 1) := by kernel_rfl
theorem fld58_1 : fld Try.prog 58 1 = some (1, false, 1) := by kernel_rfl
theorem plc58 : plc Try.prog 58 = some fun i => [(0, 1), (1, 1)][i]? := by kernel_rfl
theorem tag60 : tag Try.prog 60 = some true := by kernel_rfl
theorem tsz60 : tsz Try.prog 60 = some 2 := by kernel_rfl
theorem und60 : und Try.prog 60 = true := by kernel_rfl
theorem ik60 : ik Try.prog 60 = none := by kernel_rfl
theorem kd60 : kd Try.prog 60 = none := by kernel_rfl
theorem esz60 : esz Try.prog 60 = none := by kernel_rfl
theorem zc60 : zc Try.prog 60 = some [.nilp, .nilp] := by kernel_rfl
theorem ars60 : ars Try.prog 60 = none := by kernel_rfl
theorem fld60_0 : fld Try.prog 60 0 = some (0, true, 2) := by kernel_rfl
theorem plc60 : plc Try.prog 60 = some fun i => [(0, 2)][i]? := by kernel_rfl
theorem tag62 : tag Try.prog 62 = some true := by kernel_rfl
theorem tsz62 : tsz Try.prog 62 = some 1 := by kernel_rfl
theorem und62 : und Try.prog 62 = true := by kernel_rfl
theorem ik62 : ik Try.prog 62 = none := by kernel_rfl
theorem kd62 : kd Try.prog 62 = none := by kernel_rfl
theorem esz62 : esz Try.prog 62 = none := by kernel_rfl
theorem zc62 : zc Try.prog 62 = some [.nilp] := by kernel_rfl
theorem ars62 : ars Try.prog 62 = none := by kernel_rfl
theorem fld62_0 : fld Try.prog 62 0 = some (0, false, 1) := by kernel_rfl
theorem plc62 : plc Try.prog 62 = some fun i => [(0, 1)][i]? := by kernel_rfl
theorem tag64 : tag Try.prog 64 = some true := by kernel_rfl
theorem tsz64 : tsz Try.prog 64 = some 1 := by kernel_rfl
theorem und64 : und Try.prog 64 = true := by kernel_rfl
theorem ik64 : ik Try.prog 64 = none := by kernel_rfl
theorem kd64 : kd Try.prog 64 = none := by kernel_rfl
theorem esz64 : esz Try.prog 64 = none := by kernel_rfl
theorem zc64 : zc Try.prog 64 = some [.nilp] := by kernel_rfl
theorem ars64 : ars Try.prog 64 = none := by kernel_rfl
theorem fld64_0 : fld Try.prog 64 0 = some (0, true, 1) := by kernel_rfl
theorem plc64 : plc Try.prog 64 = some fun i => [(0, 1)][i]? := by kernel_rfl
theorem tag66 : tag Try.prog 66 = some false := by kernel_rfl
theorem tsz66 : tsz Try.prog 66 = some 1 := by kernel_rfl
theorem und66 : und Try.prog 66 = true := by kernel_rfl
theorem ik66 : ik Try.prog 66 = none := by kernel_rfl
theorem kd66 : kd Try.prog 66 = none := by kernel_rfl
theorem esz66 : esz Try.prog 66 = none := by kernel_rfl
theorem zc66 : zc Try.prog 66 = some [.nilf] := by kernel_rfl
theorem ars66 : ars Try.prog 66 = none := by kernel_rfl
theorem tag69 : tag Try.prog 69 = some true := by kernel_rfl
theorem tsz69 : tsz Try.prog 69 = some 5 := by kernel_rfl
theorem und69 : und Try.prog 69 = true := by kernel_rfl
theorem ik69 : ik Try.prog 69 = none := by kernel_rfl
theorem kd69 : kd Try.prog 69 = none := by kernel_rfl
theorem esz69 : esz Try.prog 69 = none := by kernel_rfl
theorem zc69 : zc Try.prog 69 = some [.nilp, .int .i64 0, .int .i64 0, .nils, .nils] := by kernel_rfl
theorem ars69 : ars Try.prog 69 = none := by kernel_rfl
theorem fld69_0 : fld Try.prog 69 0 = some (0, false, 1) := by kernel_rfl
theorem fld69_1 : fld Try.prog 69 1 = some (1, true, 2) := by kernel_rfl
theorem fld69_2 : fld Try.prog 69 2 = some (3, false, 1) := by kernel_rfl
theorem fld69_3 : fld Try.prog 69 3 = some (4, false, 1) := by kernel_rfl
theorem plc69 : plc Try.prog 69 = some fun i => [(0, 1), (1, 2), (3, 1), (4, 1)][i]? := by kernel_rfl
theorem tag70 : tag Try.prog 70 = some false := by kernel_rfl
theorem tsz70 : tsz Try.prog 70 = some 1 := by kernel_rfl
theorem und70 : und Try.prog 70 = true := by kernel_rfl
theorem ik70 : ik Try.prog 70 = none := by kernel_rfl
theorem kd70 : kd Try.prog 70 = none := by kernel_rfl
theorem esz70 : esz Try.prog 70 = none := by kernel_rfl
theorem zc70 : zc Try.prog 70 = some [.nilf] := by kernel_rfl
theorem ars70 : ars Try.prog 70 = none := by kernel_rfl
theorem tag72 : tag Try.prog 72 = some false := by kernel_rfl
theorem tsz72 : tsz Try.prog 72 = some 1 := by kernel_rfl
theorem und72 : und Try.prog 72 = true := by kernel_rfl
theorem ik72 : ik Try.prog 72 = none := by kernel_rfl
theorem kd72 : kd Try.prog 72 = some 1 := by kernel_rfl
theorem esz72 : esz Try.prog 72 = some 128 := by kernel_rfl
theorem elt72 : elt Try.prog 72 = some 78 := by kernel_rfl
theorem zc72 : zc Try.prog 72 = some [.nils] := by kernel_rfl
theorem ars72 : ars Try.prog 72 = none := by kernel_rfl
theorem eli72 : eli Try.prog 72 = some (128, 1024, List.replicate 128 (.int .i64 0)) := by kernel_rfl
theorem tag74 : tag Try.prog 74 = some true := by kernel_rfl
theorem tsz74 : tsz Try.prog 74 = some 2 := by kernel_rfl
theorem und74 : und Try.prog 74 = true := by kernel_rfl
theorem ik74 : ik Try.prog 74 = none := by kernel_rfl
theorem kd74 : kd Try.prog 74 = none := by kernel_rfl
theorem esz74 : esz Try.prog 74 = none := by kernel_rfl
theorem zc74 : zc Try.prog 74 = some [.nils, .nils] := by kernel_rfl
theorem ars74 : ars Try.prog 74 = none := by kernel_rfl
theorem fld74_0 : fld Try.prog 74 0 = some (0, false, 1) := by kernel_rfl
theorem fld74_1 : fld Try.prog 74 1 = some (1, false, 1) := by kernel_rfl
theorem plc74 : plc Try.prog 74 = some fun i => [(0, 1), (1, 1)][i]? := by kernel_rfl
theorem tag76 : tag Try.prog 76 = some true := by kernel_rfl
theorem tsz76 : tsz Try.prog 76 = some 4 := by kernel_rfl
theorem und76 : und Try.prog 76 = true := by kernel_rfl
theorem ik76 : ik Try.prog 76 = none := by kernel_rfl
theorem kd76 : kd Try.prog 76 = none := by kernel_rfl
theorem esz76 : esz Try.prog 76 = none := by kernel_rfl
theorem zc76 : zc Try.prog 76 = some [.nils, .nils, .int .i64 0, .bool false] := by kernel_rfl
theorem ars76 : ars Try.prog 76 = none := by kernel_rfl
theorem fld76_0 : fld Try.prog 76 0 = some (0, true, 2) := by kernel_rfl
theorem fld76_1 : fld Try.prog 76 1 = some (2, false, 1) := by kernel_rfl
theorem fld76_2 : fld Try.prog 76 2 = some (3, false, 1) := by kernel_rfl
theorem plc76 : plc Try.prog 76 = some fun i => [(0, 2), (2, 1), (3, 1)][i]? := by kernel_rfl
theorem tag78 : tag Try.prog 78 = some true := by kernel_rfl
theorem tsz78 : tsz Try.prog 78 = some 128 := by kernel_rfl
theorem und78 : und Try.prog 78 = true := by kernel_rfl
theorem ik78 : ik Try.prog 78 = none := by kernel_rfl
theorem kd78 : kd Try.prog 78 = some 266 := by kernel_rfl
theorem esz78 : esz Try.prog 78 = none := by kernel_rfl
theorem zc78 : zc Try.prog 78 = some (List.replicate 128 (.int .i64 0)) := by kernel_rfl
theorem ars78 : ars Try.prog 78 = some (128, 1, false) := by kernel_rfl
theorem plc78 : plc Try.prog 78 = some fun i => some (i * 1, 1) := by kernel_rfl
theorem tag83 : tag Try.prog 83 = some true := by kernel_rfl
theorem tsz83 : tsz Try.prog 83 = some 3 := by kernel_rfl
theorem und83 : und Try.prog 83 = true := by kernel_rfl
theorem ik83 : ik Try.prog 83 = none := by kernel_rfl
theorem kd83 : kd Try.prog 83 = some 16 := by kernel_rfl
theorem esz83 : esz Try.prog 83 = none := by kernel_rfl
theorem zc83 : zc Try.prog 83 = some [.int .i64 0, .int .i64 0, .int .i64 0] := by kernel_rfl
theorem ars83 : ars Try.prog 83 = none := by kernel_rfl
theorem fld83_0 : fld Try.prog 83 0 = some (0, false, 1) := by kernel_rfl
theorem fld83_1 : fld Try.prog 83 1 = some (1, false, 1) := by kernel_rfl
theorem fld83_2 : fld Try.prog 83 2 = some (2, false, 1) := by kernel_rfl
theorem plc83 : plc Try.prog 83 = some fun i => [(0, 1), (1, 1), (2, 1)][i]? := by kernel_rfl
theorem tag85 : tag Try.prog 85 = some false := by kernel_rfl
theorem tsz85 : tsz Try.prog 85 = some 1 := by kernel_rfl
theorem und85 : und Try.prog 85 = true := by kernel_rfl
theorem ik85 : ik Try.prog 85 = none := by kernel_rfl
theorem kd85 : kd Try.prog 85 = some 2 := by kernel_rfl
theorem esz85 : esz Try.prog 85 = none := by kernel_rfl
theorem zc85 : zc Try.prog 85 = some [.nilp] := by kernel_rfl
theorem ars85 : ars Try.prog 85 = none := by kernel_rfl
theorem tag89 : tag Try.prog 89 = some true := by kernel_rfl
theorem tsz89 : tsz Try.prog 89 = some 4 := by kernel_rfl
theorem und89 : und Try.prog 89 = true := by kernel_rfl
theorem ik89 : ik Try.prog 89 = none := by kernel_rfl
theorem kd89 : kd Try.prog 89 = none := by kernel_rfl
theorem esz89 : esz Try.prog 89 = none := by kernel_rfl
theorem zc89 : zc Try.prog 89 = some [.nils, .nils, .nils, .nils] := by kernel_rfl
theorem ars89 : ars Try.prog 89 = none := by kernel_rfl
theorem fld89_0 : fld Try.prog 89 0 = some (0, false, 1) := by kernel_rfl
theorem fld89_1 : fld Try.prog 89 1 = some (1, false, 1) := by kernel_rfl
theorem fld89_2 : fld Try.prog 89 2 = some (2, false, 1) := by kernel_rfl
theorem fld89_3 : fld Try.prog 89 3 = some (3, false, 1) := by kernel_rfl
theorem plc89 : plc Try.prog 89 = some fun i => [(0, 1), (1, 1), (2, 1), (3, 1)][i]? := by kernel_rfl
theorem tag93 : tag Try.prog 93 = some true := by kernel_rfl
theorem tsz93 : tsz Try.prog 93 = some 4 := by kernel_rfl
theorem und93 : und Try.prog 93 = true := by kernel_rfl
theorem ik93 : ik Try.prog 93 = none := by kernel_rfl
theorem kd93 : kd Try.prog 93 = some 19 := by kernel_rfl
theorem esz93 : esz Try.prog 93 = none := by kernel_rfl
theorem zc93 : zc Try.prog 93 = some [.bool false, .bool false, .bool false, .bool false] := by kernel_rfl
theorem ars93 : ars Try.prog 93 = some (4, 1, false) := by kernel_rfl
theorem plc93 : plc Try.prog 93 = some fun i => some (i * 1, 1) := by kernel_rfl
theorem tag100 : tag Try.prog 100 = some false := by kernel_rfl
theorem tsz100 : tsz Try.prog 100 = some 1 := by kernel_rfl
theorem und100 : und Try.prog 100 = true := by kernel_rfl
theorem ik100 : ik Try.prog 100 = none := by kernel_rfl
theorem kd100 : kd Try.prog 100 = some 2 := by kernel_rfl
theorem esz100 : esz Try.prog 100 = none := by kernel_rfl
theorem zc100 : zc Try.prog 100 = some [.nilp] := by kernel_rfl
theorem ars100 : ars Try.prog 100 = none := by kernel_rfl
theorem tag102 : tag Try.prog 102 = some false := by kernel_rfl
theorem tsz102 : tsz Try.prog 102 = some 1 := by kernel_rfl
theorem und102 : und Try.prog 102 = true := by kernel_rfl
theorem ik102 : ik Try.prog 102 = none := by kernel_rfl
theorem kd102 : kd Try.prog 102 = some 1 := by kernel_rfl
theorem esz102 : esz Try.prog 102 = some 1 := by kernel_rfl
theorem elt102 : elt Try.prog 102 = some 23 := by kernel_rfl
theorem zc102 : zc Try.prog 102 = some [.nils] := by kernel_rfl
theorem ars102 : ars Try.prog 102 = none := by kernel_rfl
theorem eli102 : eli Try.prog 102 = some (1, 24, [.nils]) := by kernel_rfl
theorem tag106 : tag Try.prog 106 = some false := by kernel_rfl
theorem tsz106 : tsz Try.prog 106 = some 1 := by kernel_rfl
theorem und106 : und Try.prog 106 = true := by kernel_rfl
theorem ik106 : ik Try.prog 106 = some .u64 := by kernel_rfl
theorem kd106 : kd Try.prog 106 = none := by kernel_rfl
theorem esz106 : esz Try.prog 106 = none := by kernel_rfl
theorem zc106 : zc Try.prog 106 = some [.int .u64 0] := by kernel_rfl
theorem ars106 : ars Try.prog 106 = none := by kernel_rfl
theorem tag114 : tag Try.prog 114 = some true := by kernel_rfl
theorem tsz114 : tsz Try.prog 114 = some 2 := by kernel_rfl
theorem und114 : und Try.prog 114 = true := by kernel_rfl
theorem ik114 : ik Try.prog 114 = none := by kernel_rfl
theorem kd114 : kd Try.prog 114 = some 14 := by kernel_rfl
theorem esz114 : esz Try.prog 114 = none := by kernel_rfl
theorem zc114 : zc Try.prog 114 = some [.int .i64 0, .int .i64 0] := by kernel_rfl
theorem ars114 : ars Try.prog 114 = none := by kernel_rfl
theorem fld114_0 : fld Try.prog 114 0 = some (0, false, 1) := by kernel_rfl
theorem fld114_1 : fld Try.prog 114 1 = some (1, false, 1) := by kernel_rfl
theorem plc114 : plc Try.prog 114 = some fun i => [(0, 1), (1, 1)][i]? := by kernel_rfl
theorem tag115 : tag Try.prog 115 = some true := by kernel_rfl
theorem tsz115 : tsz Try.prog 115 = some 6 := by kernel_rfl
theorem und115 : und Try.prog 115 = true := by kernel_rfl
theorem ik115 : ik Try.prog 115 = none := by kernel_rfl
theorem kd115 : kd Try.prog 115 = none := by kernel_rfl
theorem esz115 : esz Try.prog 115 = none := by kernel_rfl
theorem zc115 : zc Try.prog 115 = some [.int .i64 0, .int .i64 0, .int .i64 0, .int .i64 0, .int .i64 0, .int .i64 0] := by kernel_rfl
theorem ars115 : ars Try.prog 115 = some (3, 2, true) := by kernel_rfl
theorem plc115 : plc Try.prog 115 = some fun i => some (i * 2, 2) := by kernel_rfl
theorem tag131 : tag Try.prog 131 = some true := by kernel_rfl
theorem tsz131 : tsz Try.prog 131 = some 2 := by kernel_rfl
theorem und131 : und Try.prog 131 = true := by kernel_rfl
theorem ik131 : ik Try.prog 131 = none := by kernel_rfl
theorem kd131 : kd Try.prog 131 = some 14 := by kernel_rfl
theorem esz131 : esz Try.prog 131 = none := by kernel_rfl
theorem zc131 : zc Try.prog 131 = some [.int .i64 0, .int .i64 0] := by kernel_rfl
theorem ars131 : ars Try.prog 131 = none := by kernel_rfl
theorem fld131_0 : fld Try.prog 131 0 = some (0, false, 1) := by kernel_rfl
theorem fld131_1 : fld Try.prog 131 1 = some (1, false, 1) := by kernel_rfl
theorem plc131 : plc Try.prog 131 = some fun i => [(0, 1), (1, 1)][i]? := by kernel_rfl
theorem tag134 : tag Try.prog 134 = some false := by kernel_rfl
theorem tsz134 : tsz Try.prog 134 = some 1 := by kernel_rfl
theorem und134 : und Try.prog 134 = true := by kernel_rfl
theorem ik134 : ik Try.prog 134 = none := by kernel_rfl
theorem kd134 : kd Try.prog 134 = some 1 := by kernel_rfl
theorem esz134 : esz Try.prog 134 = some 3 := by kernel_rfl
theorem elt134 : elt Try.prog 134 = some 137 := by kernel_rfl
theorem zc134 : zc Try.prog 134 = some [.nils] := by kernel_rfl
theorem ars134 : ars Try.prog 134 = none := by kernel_rfl
theorem eli134 : eli Try.prog 134 = some (3, 24, [.int .i64 0, .int .i64 0, .int .i64 0]) := by kernel_rfl
theorem tag137 : tag Try.prog 137 = some true := by kernel_rfl
theorem tsz137 : tsz Try.prog 137 = some 3 := by kernel_rfl
theorem und137 : und Try.prog 137 = true := by kernel_rfl
theorem ik137 : ik Try.prog 137 = none := by kernel_rfl
theorem kd137 : kd Try.prog 137 = some 16 := by kernel_rfl
theorem esz137 : esz Try.prog 137 = none := by kernel_rfl
theorem zc137 : zc Try.prog 137 = some [.int .i64 0, .int .i64 0, .int .i64 0] := by kernel_rfl
theorem ars137 : ars Try.prog 137 = none := by kernel_rfl
theorem fld137_0 : fld Try.prog 137 0 = some (0, false, 1) := by kernel_rfl
theorem fld137_1 : fld Try.prog 137 1 = some (1, false, 1) := by kernel_rfl
theorem fld137_2 : fld Try.prog 137 2 = some (2, false, 1) := by kernel_rfl
theorem plc137 : plc Try.prog 137 = some fun i => [(0, 1), (1, 1), (2, 1)][i]? := by kernel_rfl
theorem tag138 : tag Try.prog 138 = some false := by kernel_rfl
theorem tsz138 : tsz Try.prog 138 = some 1 := by kernel_rfl
theorem und138 : und Try.prog 138 = true := by kernel_rfl
theorem ik138 : ik Try.prog 138 = none := by kernel_rfl
theorem kd138 : kd Try.prog 138 = some 1 := by kernel_rfl
theorem esz138 : esz Try.prog 138 = some 3 := by kernel_rfl
theorem elt138 : elt Try.prog 138 = some 141 := by kernel_rfl
theorem zc138 : zc Try.prog 138 = some [.nils] := by kernel_rfl
theorem ars138 : ars Try.prog 138 = none := by kernel_rfl
theorem eli138 : eli Try.prog 138 = some (3, 24, [.int .i64 0, .int .i64 0, .int .i64 0]) := by kernel_rfl
theorem tag141 : tag Try.prog 141 = some true := by kernel_rfl
theorem tsz141 : tsz Try.prog 141 = some 3 := by kernel_rfl
theorem und141 : und Try.prog 141 = true := by kernel_rfl
theorem ik141 : ik Try.prog 141 = none := by kernel_rfl
theorem kd141 : kd Try.prog 141 = some 16 := by kernel_rfl
theorem esz141 : esz Try.prog 141 = none := by kernel_rfl
theorem zc141 : zc Try.prog 141 = some [.int .i64 0, .int .i64 0, .int .i64 0] := by kernel_rfl
theorem ars141 : ars Try.prog 141 = none := by kernel_rfl
theorem fld141_0 : fld Try.prog 141 0 = some (0, false, 1) := by kernel_rfl
theorem fld141_1 : fld Try.prog 141 1 = some (1, false, 1) := by kernel_rfl
theorem fld141_2 : fld Try.prog 141 2 = some (2, false, 1) := by kernel_rfl
theorem plc141 : plc Try.prog 141 = some fun i => [(0, 1), (1, 1), (2, 1)][i]? := by kernel_rfl
theorem tag142 : tag Try.prog 142 = some false := by kernel_rfl
theorem tsz142 : tsz Try.prog 142 = some 1 := by kernel_rfl
theorem und142 : und Try.prog 142 = true := by kernel_rfl
theorem ik142 : ik Try.prog 142 = none := by kernel_rfl
theorem kd142 : kd Try.prog 142 = some 1 := by kernel_rfl
theorem esz142 : esz Try.prog 142 = some 2 := by kernel_rfl
theorem elt142 : elt Try.prog 142 = some 145 := by kernel_rfl
theorem zc142 : zc Try.prog 142 = some [.nils] := by kernel_rfl
theorem ars142 : ars Try.prog 142 = none := by kernel_rfl
theorem eli142 : eli Try.prog 142 = some (2, 16, [.int .i64 0, .int .i64 0]) := by kernel_rfl
theorem tag145 : tag Try.prog 145 = some true := by kernel_rfl
theorem tsz145 : tsz Try.prog 145 = some 2 := by kernel_rfl
theorem und145 : und Try.prog 145 = true := by kernel_rfl
theorem ik145 : ik Try.prog 145 = none := by kernel_rfl
theorem kd145 : kd Try.prog 145 = some 14 := by kernel_rfl
theorem esz145 : esz Try.prog 145 = none := by kernel_rfl
theorem zc145 : zc Try.prog 145 = some [.int .i64 0, .int .i64 0] := by kernel_rfl
theorem ars145 : ars Try.prog 145 = none := by kernel_rfl
theorem fld145_0 : fld Try.prog 145 0 = some (0, false, 1) := by kernel_rfl
theorem fld145_1 : fld Try.prog 145 1 = some (1, false, 1) := by kernel_rfl
theorem plc145 : plc Try.prog 145 = some fun i => [(0, 1), (1, 1)][i]? := by kernel_rfl
theorem tag152 : tag Try.prog 152 = some false := by kernel_rfl
theorem tsz152 : tsz Try.prog 152 = some 1 := by kernel_rfl
theorem und152 : und Try.prog 152 = true := by kernel_rfl
theorem ik152 : ik Try.prog 152 = none := by kernel_rfl
theorem kd152 : kd Try.prog 152 = some 1 := by kernel_rfl
theorem esz152 : esz Try.prog 152 = some 5 := by kernel_rfl
theorem elt152 : elt Try.prog 152 = some 156 := by kernel_rfl
theorem zc152 : zc Try.prog 152 = some [.nils] := by kernel_rfl
theorem ars152 : ars Try.prog 152 = none := by kernel_rfl
theorem eli152 : eli Try.prog 152 = some (5, 40, [.int .i64 0, .int .i64 0, .int .i64 0, .int .i64 0, .int .i64 0]) := by kernel_rfl
theorem tag154 : tag Try.prog 154 = some true := by kernel_rfl
theorem tsz154 : tsz Try.prog 154 = some 4 := by kernel_rfl
theorem und154 : und Try.prog 154 = true := by kernel_rfl
theorem ik154 : ik Try.prog 154 = none := by kernel_rfl
theorem kd154 : kd Try.prog 154 = some 18 := by kernel_rfl
theorem esz154 : esz Try.prog 154 = none := by kernel_rfl
theorem zc154 : zc Try.prog 154 = some [.int .i64 0, .int .i64 0, .int .i64 0, .int .i64 0] := by kernel_rfl
theorem ars154 : ars Try.prog 154 = some (4, 1, false) := by kernel_rfl
theorem plc154 : plc Try.prog 154 = some fun i => some (i * 1, 1) := by kernel_rfl
theorem tag156 : tag Try.prog 156 = some true := by kernel_rfl
theorem tsz156 : tsz Try.prog 156 = some 5 := by kernel_rfl
theorem und156 : und Try.prog 156 = true := by kernel_rfl
theorem ik156 : ik Try.prog 156 = none := by kernel_rfl
theorem kd156 : kd Try.prog 156 = none := by kernel_rfl
theorem esz156 : esz Try.prog 156 = none := by kernel_rfl
theorem zc156 : zc Try.prog 156 = some [.int .i64 0, .int .i64 0, .int .i64 0, .int .i64 0, .int .i64 0] := by kernel_rfl
theorem ars156 : ars Try.prog 156 = none := by kernel_rfl
theorem fld156_0 : fld Try.prog 156 0 = some (0, false, 1) := by kernel_rfl
theorem fld156_1 : fld Try.prog 156 1 = some (1, true, 4) := by kernel_rfl
theorem plc156 : plc Try.prog 156 = some fun i => [(0, 1), (1, 4)][i]? := by kernel_rfl
theorem ft : (tag Try.prog 3 = some false) ∧
    (tsz Try.prog 3 = some 1) ∧
    (und Try.prog 3 = true) ∧
    (ik Try.prog 3 = some .i64) ∧
    (kd Try.prog 3 = none) ∧
    (esz Try.prog 3 = none) ∧
    (zc Try.prog 3 = some [.int .i64 0]) ∧
    (ars Try.prog 3 = none) ∧
    (tag Try.prog 4 = some false) ∧
    (tsz Try.prog 4 = some 1) ∧
    (und Try.prog 4 = true) ∧
    (ik Try.prog 4 = none) ∧
    (kd Try.prog 4 = some 3) ∧
    (esz Try.prog 4 = none) ∧
    (zc Try.prog 4 = some [.bool false]) ∧
    (ars Try.prog 4 = none) ∧
    (tag Try.prog 9 = some false) ∧
    (tsz Try.prog 9 = some 1) ∧
    (und Try.prog 9 = true) ∧
    (ik Try.prog 9 = none) ∧
    (kd Try.prog 9 = some 0) ∧
    (esz Try.prog 9 = none) ∧
    (zc Try.prog 9 = some [.str ⟨#[]⟩]) ∧
    (ars Try.prog 9 = none) ∧
    (tag Try.prog 22 = some false) ∧
    (tsz Try.prog 22 = some 1) ∧
    (und Try.prog 22 = true) ∧
    (ik Try.prog 22 = none) ∧
    (kd Try.prog 22 = some 1) ∧
    (esz Try.prog 22 = some 2) ∧
    (elt Try.prog 22 = some 27) ∧
    (zc Try.prog 22 = some [.nils]) ∧
    (ars Try.prog 22 = none) ∧
    (eli Try.prog 22 = some (2, 16, [.int .i64 0, .int .i64 0])) ∧
    (tag Try.prog 23 = some false) ∧
    (tsz Try.prog 23 = some 1) ∧
    (und Try.prog 23 = true) ∧
    (ik Try.prog 23 = none) ∧
    (kd Try.prog 23 = some 1) ∧
    (esz Try.prog 23 = some 1) ∧
    (elt Try.prog 23 = some 3) ∧
    (zc Try.prog 23 = some [.nils]) ∧
    (ars Try.prog 23 = none) ∧
    (eli Try.prog 23 = some (1, 8, [.int .i64 0])) ∧
    (tag Try.prog 25 = some false) ∧
    (tsz Try.prog 25 = some 1) ∧
    (und Try.prog 25 = true) ∧
    (ik Try.prog 25 = none) ∧
    (kd Try.prog 25 = some 1) ∧
    (esz Try.prog 25 = some 2) ∧
    (elt Try.prog 25 = some 28) ∧
    (zc Try.prog 25 = some [.nils]) ∧
    (ars Try.prog 25 = none) ∧
    (eli Try.prog 25 = some (2, 16, [.int .i64 0, .int .i64 0])) ∧
    (tag Try.prog 27 = some true) ∧
    (tsz Try.prog 27 = some 2) ∧
    (und Try.prog 27 = true) ∧
    (ik Try.prog 27 = none) ∧
    (kd Try.prog 27 = some 14) ∧
    (esz Try.prog 27 = none) ∧
    (zc Try.prog 27 = some [.int .i64 0, .int .i64 0]) ∧
    (ars Try.prog 27 = none) ∧
    (fld Try.prog 27 0 = some (0, false, 1)) ∧
    (fld Try.prog 27 1 = some (1, false, 1)) ∧
    (plc Try.prog 27 = some fun i => [(0, 1), (1, 1)][i]?) ∧
    (tag Try.prog 28 = some true) ∧
    (tsz Try.prog 28 = some 2) ∧
    (und Try.prog 28 = true) ∧
    (ik Try.prog 28 = none) ∧
    (kd Try.prog 28 = some 14) ∧
    (esz Try.prog 28 = none) ∧
    (zc Try.prog 28 = some [.int .i64 0, .int .i64 0]) ∧
    (ars Try.prog 28 = none) ∧
    (fld Try.prog 28 0 = some (0, false, 1)) ∧
    (fld Try.prog 28 1 = some (1, false, 1)) ∧
    (plc Try.prog 28 = some fun i => [(0, 1), (1, 1)][i]?) ∧
    (tag Try.prog 34 = some false) ∧
    (tsz Try.prog 34 = some 1) ∧
    (und Try.prog 34 = true) ∧
    (ik Try.prog 34 = none) ∧
    (kd Try.prog 34 = some 2) ∧
    (esz Try.prog 34 = none) ∧
    (zc Try.prog 34 = some [.nilp]) ∧
    (ars Try.prog 34 = none) ∧
    (tag Try.prog 36 = some false) ∧
    (tsz Try.prog 36 = some 1) ∧
    (und Try.prog 36 = true) ∧
    (ik Try.prog 36 = none) ∧
    (kd Try.prog 36 = some 2) ∧
    (esz Try.prog 36 = none) ∧
    (zc Try.prog 36 = some [.nilp]) ∧
    (ars Try.prog 36 = none) ∧
    (tag Try.prog 40 = some false) ∧
    (tsz Try.prog 40 = some 1) ∧
    (und Try.prog 40 = true) ∧
    (ik Try.prog 40 = none) ∧
    (kd Try.prog 40 = some 1) ∧
    (esz Try.prog 40 = some 1) ∧
    (elt Try.prog 40 = some 9) ∧
    (zc Try.prog 40 = some [.nils]) ∧
    (ars Try.prog 40 = none) ∧
    (eli Try.prog 40 = some (1, 16, [.str ⟨#[]⟩])) ∧
    (tag Try.prog 41 = some false) ∧
    (tsz Try.prog 41 = some 1) ∧
    (und Try.prog 41 = true) ∧
    (ik Try.prog 41 = none) ∧
    (kd Try.prog 41 = some 2) ∧
    (esz Try.prog 41 = none) ∧
    (zc Try.prog 41 = some [.nilp]) ∧
    (ars Try.prog 41 = none) ∧
    (tag Try.prog 43 = some true) ∧
    (tsz Try.prog 43 = some 3) ∧
    (und Try.prog 43 = true) ∧
    (ik Try.prog 43 = none) ∧
    (kd Try.prog 43 = none) ∧
    (esz Try.prog 43 = none) ∧
    (zc Try.prog 43 = some [.nilp, .nilp, .nils]) ∧
    (ars Try.prog 43 = none) ∧
    (fld Try.prog 43 0 = some (0, false, 1)) ∧
    (fld Try.prog 43 1 = some (1, false, 1)) ∧
    (fld Try.prog 43 2 = some (2, false, 1)) ∧
    (plc Try.prog 43 = some fun i => [(0, 1), (1, 1), (2, 1)][i]?) ∧
    (tag Try.prog 44 = some false) ∧
    (tsz Try.prog 44 = some 1) ∧
    (und Try.prog 44 = true) ∧
    (ik Try.prog 44 = none) ∧
    (kd Try.prog 44 = some 1) ∧
    (esz Try.prog 44 = some 2) ∧
    (elt Try.prog 44 = some 47) ∧
    (zc Try.prog 44 = some [.nils]) ∧
    (ars Try.prog 44 = none) ∧
    (eli Try.prog 44 = some (2, 16, [.int .i64 0, .int .i64 0])) ∧
    (tag Try.prog 47 = some true) ∧
    (tsz Try.prog 47 = some 2) ∧
    (und Try.prog 47 = true) ∧
    (ik Try.prog 47 = none) ∧
    (kd Try.prog 47 = some 14) ∧
    (esz Try.prog 47 = none) ∧
    (zc Try.prog 47 = some [.int .i64 0, .int .i64 0]) ∧
    (ars Try.prog 47 = none) ∧
    (fld Try.prog 47 0 = some (0, false, 1)) ∧
    (fld Try.prog 47 1 = some (1, false, 1)) ∧
    (plc Try.prog 47 = some fun i => [(0, 1), (1, 1)][i]?) ∧
    (tag Try.prog 48 = some false) ∧
    (tsz Try.prog 48 = some 1) ∧
    (und Try.prog 48 = true) ∧
    (ik Try.prog 48 = none) ∧
    (kd Try.prog 48 = some 2) ∧
    (esz Try.prog 48 = none) ∧
    (zc Try.prog 48 = some [.nilp]) ∧
    (ars Try.prog 48 = none) ∧
    (tag Try.prog 51 = some false) ∧
    (tsz Try.prog 51 = some 1) ∧
    (und Try.prog 51 = true) ∧
    (ik Try.prog 51 = none) ∧
    (kd Try.prog 51 = some 2) ∧
    (esz Try.prog 51 = none) ∧
    (zc Try.prog 51 = some [.nilp]) ∧
    (ars Try.prog 51 = none) ∧
    (tag Try.prog 52 = some false) ∧
    (tsz Try.prog 52 = some 1) ∧
    (und Try.prog 52 = true) ∧
    (ik Try.prog 52 = some .i64) ∧
    (kd Try.prog 52 = none) ∧
    (esz Try.prog 52 = none) ∧
    (zc Try.prog 52 = some [.int .i64 0]) ∧
    (ars Try.prog 52 = none) ∧
    (tag Try.prog 55 = some false) ∧
    (tsz Try.prog 55 = some 1) ∧
    (und Try.prog 55 = true) ∧
    (ik Try.prog 55 = none) ∧
    (kd Try.prog 55 = some 1) ∧
    (esz Try.prog 55 = some 3) ∧
    (elt Try.prog 55 = some 83) ∧
    (zc Try.prog 55 = some [.nils]) ∧
    (ars Try.prog 55 = none) ∧
    (eli Try.prog 55 = some (3, 24, [.int .i64 0, .int .i64 0, .int .i64 0])) ∧
    (tag Try.prog 58 = some true) ∧
    (tsz Try.prog 58 = some 2) ∧
    (und Try.prog 58 = true) ∧
    (ik Try.prog 58 = none) ∧
    (kd Try.prog 58 = none) ∧
    (esz Try.prog 58 = none) ∧
    (zc Try.prog 58 = some [.nilp, .nilp]) ∧
    (ars Try.prog 58 = none) ∧
    (fld Try.prog 58 0 = some (0, false, 1)) ∧
    (fld Try.prog 58 1 = some (1, false, 1)) ∧
    (plc Try.prog 58 = some fun i => [(0, 1), (1, 1)][i]?) ∧
    (tag Try.prog 60 = some true) ∧
    (tsz Try.prog 60 = some 2) ∧
    (und Try.prog 60 = true) ∧
    (ik Try.prog 60 = none) ∧
    (kd Try.prog 60 = none) ∧
    (esz Try.prog 60 = none) ∧
    (zc Try.prog 60 = some [.nilp, .nilp]) ∧
    (ars Try.prog 60 = none) ∧
    (fld Try.prog 60 0 = some (0, true, 2)) ∧
    (plc Try.prog 60 = some fun i => [(0, 2)][i]?) ∧
    (tag Try.prog 62 = some true) ∧
    (tsz Try.prog 62 = some 1) ∧
    (und Try.prog 62 = true) ∧
    (ik Try.prog 62 = none) ∧
    (kd Try.prog 62 = none) ∧
    (esz Try.prog 62 = none) ∧
    (zc Try.prog 62 = some [.nilp]) ∧
    (ars Try.prog 62 = none) ∧
    (fld Try.prog 62 0 = some (0, false, 1)) ∧
    (plc Try.prog 62 = some fun i => [(0, 1)][i]?) ∧
    (tag Try.prog 64 = some true) ∧
    (tsz Try.prog 64 = some 1) ∧
    (und Try.prog 64 = true) ∧
    (ik Try.prog 64 = none) ∧
    (kd Try.prog 64 = none) ∧
    (esz Try.prog 64 = none) ∧
    (zc Try.prog 64 = some [.nilp]) ∧
    (ars Try.prog 64 = none) ∧
    (fld Try.prog 64 0 = some (0, true, 1)) ∧
    (plc Try.prog 64 = some fun i => [(0, 1)][i]?) ∧
    (tag Try.prog 66 = some false) ∧
    (tsz Try.prog 66 = some 1) ∧
    (und Try.prog 66 = true) ∧
    (ik Try.prog 66 = none) ∧
    (kd Try.prog 66 = none) ∧
    (esz Try.prog 66 = none) ∧
    (zc Try.prog 66 = some [.nilf]) ∧
    (ars Try.prog 66 = none) ∧
    (tag Try.prog 69 = some true) ∧
    (tsz Try.prog 69 = some 5) ∧
    (und Try.prog 69 = true) ∧
    (ik Try.prog 69 = none) ∧
    (kd Try.prog 69 = none) ∧
    (esz Try.prog 69 = none) ∧
    (zc Try.prog 69 = some [.nilp, .int .i64 0, .int .i64 0, .nils, .nils]) ∧
    (ars Try.prog 69 = none) ∧
    (fld Try.prog 69 0 = some (0, false, 1)) ∧
    (fld Try.prog 69 1 = some (1, true, 2)) ∧
    (fld Try.prog 69 2 = some (3, false, 1)) ∧
    (fld Try.prog 69 3 = some (4, false, 1)) ∧
    (plc Try.prog 69 = some fun i => [(0, 1), (1, 2), (3, 1), (4, 1)][i]?) ∧
    (tag Try.prog 70 = some false) ∧
    (tsz Try.prog 70 = some 1) ∧
    (und Try.prog 70 = true) ∧
    (ik Try.prog 70 = none) ∧
    (kd Try.prog 70 = none) ∧
    (esz Try.prog 70 = none) ∧
    (zc Try.prog 70 = some [.nilf]) ∧
    (ars Try.prog 70 = none) ∧
    (tag Try.prog 72 = some false) ∧
    (tsz Try.prog 72 = some 1) ∧
    (und Try.prog 72 = true) ∧
    (ik Try.prog 72 = none) ∧
    (kd Try.prog 72 = some 1) ∧
    (esz Try.prog 72 = some 128) ∧
    (elt Try.prog 72 = some 78) ∧
    (zc Try.prog 72 = some [.nils]) ∧
    (ars Try.prog 72 = none) ∧
    (eli Try.prog 72 = some (128, 1024, List.replicate 128 (.int .i64 0))) ∧
    (tag Try.prog 74 = some true) ∧
    (tsz Try.prog 74 = some 2) ∧
    (und Try.prog 74 = true) ∧
    (ik Try.prog 74 = none) ∧
    (kd Try.prog 74 = none) ∧
    (esz Try.prog 74 = none) ∧
    (zc Try.prog 74 = some [.nils, .nils]) ∧
    (ars Try.prog 74 = none) ∧
    (fld Try.prog 74 0 = some (0, false, 1)) ∧
    (fld Try.prog 74 1 = some (1, false, 1)) ∧
    (plc Try.prog 74 = some fun i => [(0, 1), (1, 1)][i]?) ∧
    (tag Try.prog 76 = some true) ∧
    (tsz Try.prog 76 = some 4) ∧
    (und Try.prog 76 = true) ∧
    (ik Try.prog 76 = none) ∧
    (kd Try.prog 76 = none) ∧
    (esz Try.prog 76 = none) ∧
    (zc Try.prog 76 = some [.nils, .nils, .int .i64 0, .bool false]) ∧
    (ars Try.prog 76 = none) ∧
    (fld Try.prog 76 0 = some (0, true, 2)) ∧
    (fld Try.prog 76 1 = some (2, false, 1)) ∧
    (fld Try.prog 76 2 = some (3, false, 1)) ∧
    (plc Try.prog 76 = some fun i => [(0, 2), (2, 1), (3, 1)][i]?) ∧
    (tag Try.prog 78 = some true) ∧
    (tsz Try.prog 78 = some 128) ∧
    (und Try.prog 78 = true) ∧
    (ik Try.prog 78 = none) ∧
    (kd Try.prog 78 = some 266) ∧
    (esz Try.prog 78 = none) ∧
    (zc Try.prog 78 = some (List.replicate 128 (.int .i64 0))) ∧
    (ars Try.prog 78 = some (128, 1, false)) ∧
    (plc Try.prog 78 = some fun i => some (i * 1, 1)) ∧
    (tag Try.prog 83 = some true) ∧
    (tsz Try.prog 83 = some 3) ∧
    (und Try.prog 83 = true) ∧
    (ik Try.prog 83 = none) ∧
    (kd Try.prog 83 = some 16) ∧
    (esz Try.prog 83 = none) ∧
    (zc Try.prog 83 = some [.int .i64 0, .int .i64 0, .int .i64 0]) ∧
    (ars Try.prog 83 = none) ∧
    (fld Try.prog 83 0 = some (0, false, 1)) ∧
    (fld Try.prog 83 1 = some (1, false, 1)) ∧
    (fld Try.prog 83 2 = some (2, false, 1)) ∧
    (plc Try.prog 83 = some fun i => [(0, 1), (1, 1), (2, 1)][i]?) ∧
    (tag Try.prog 85 = some false) ∧
    (tsz Try.prog 85 = some 1) ∧
    (und Try.prog 85 = true) ∧
    (ik Try.prog 85 = none) ∧
    (kd Try.prog 85 = some 2) ∧
    (esz Try.prog 85 = none) ∧
    (zc Try.prog 85 = some [.nilp]) ∧
    (ars Try.prog 85 = none) ∧
    (tag Try.prog 89 = some true) ∧
    (tsz Try.prog 89 = some 4) ∧
    (und Try.prog 89 = true) ∧
    (ik Try.prog 89 = none) ∧
    (kd Try.prog 89 = none) ∧
    (esz Try.prog 89 = none) ∧
    (zc Try.prog 89 = some [.nils, .nils, .nils, .nils]) ∧
    (ars Try.prog 89 = none) ∧
    (fld Try.prog 89 0 = some (0, false, 1)) ∧
    (fld Try.prog 89 1 = some (1, false, 1)) ∧
    (fld Try.prog 89 2 = some (2, false, 1)) ∧
    (fld Try.prog 89 3 = some (3, false, 1)) ∧
    (plc Try.prog 89 = some fun i => [(0, 1), (1, 1), (2, 1), (3, 1)][i]?) ∧
    (tag Try.prog 93 = some true) ∧
    (tsz Try.prog 93 = some 4) ∧
    (und Try.prog 93 = true) ∧
    (ik Try.prog 93 = none) ∧
    (kd Try.prog 93 = some 19) ∧
    (esz Try.prog 93 = none) ∧
    (zc Try.prog 93 = some [.bool false, .bool false, .bool false, .bool false]) ∧
    (ars Try.prog 93 = some (4, 1, false)) ∧
    (plc Try.prog 93 = some fun i => some (i * 1, 1)) ∧
    (tag Try.prog 100 = some false) ∧
    (tsz Try.prog 100 = some 1) ∧
    (und Try.prog 100 = true) ∧
    (ik Try.prog 100 = none) ∧
    (kd Try.prog 100 = some 2) ∧
    (esz Try.prog 100 = none) ∧
    (zc Try.prog 100 = some [.nilp]) ∧
    (ars Try.prog 100 = none) ∧
    (tag Try.prog 102 = some false) ∧
    (tsz Try.prog 102 = some 1) ∧
    (und Try.prog 102 = true) ∧
    (ik Try.prog 102 = none) ∧
    (kd Try.prog 102 = some 1) ∧
    (esz Try.prog 102 = some 1) ∧
    (elt Try.prog 102 = some 23) ∧
    (zc Try.prog 102 = some [.nils]) ∧
    (ars Try.prog 102 = none) ∧
    (eli Try.prog 102 = some (1, 24, [.nils])) ∧
    (tag Try.prog 106 = some false) ∧
    (tsz Try.prog 106 = some 1) ∧
    (und Try.prog 106 = true) ∧
    (ik Try.prog 106 = some .u64) ∧
    (kd Try.prog 106 = none) ∧
    (esz Try.prog 106 = none) ∧
    (zc Try.prog 106 = some [.int .u64 0]) ∧
    (ars Try.prog 106 = none) ∧
    (tag Try.prog 114 = some true) ∧
    (tsz Try.prog 114 = some 2) ∧
    (und Try.prog 114 = true) ∧
    (ik Try.prog 114 = none) ∧
    (kd Try.prog 114 = some 14) ∧
    (esz Try.prog 114 = none) ∧
    (zc Try.prog 114 = some [.int .i64 0, .int .i64 0]) ∧
    (ars Try.prog 114 = none) ∧
    (fld Try.prog 114 0 = some (0, false, 1)) ∧
    (fld Try.prog 114 1 = some (1, false, 1)) ∧
    (plc Try.prog 114 = some fun i => [(0, 1), (1, 1)][i]?) ∧
    (tag Try.prog 115 = some true) ∧
    (tsz Try.prog 115 = some 6) ∧
    (und Try.prog 115 = true) ∧
    (ik Try.prog 115 = none) ∧
    (kd Try.prog 115 = none) ∧
    (esz Try.prog 115 = none) ∧
    (zc Try.prog 115 = some [.int .i64 0, .int .i64 0, .int .i64 0, .int .i64 0, .int .i64 0, .int .i64 0]) ∧
    (ars Try.prog 115 = some (3, 2, true)) ∧
    (plc Try.prog 115 = some fun i => some (i * 2, 2)) ∧
    (tag Try.prog 131 = some true) ∧
    (tsz Try.prog 131 = some 2) ∧
    (und Try.prog 131 = true) ∧
    (ik Try.prog 131 = none) ∧
    (kd Try.prog 131 = some 14) ∧
    (esz Try.prog 131 = none) ∧
    (zc Try.prog 131 = some [.int .i64 0, .int .i64 0]) ∧
    (ars Try.prog 131 = none) ∧
    (fld Try.prog 131 0 = some (0, false, 1)) ∧
    (fld Try.prog 131 1 = some (1, false, 1)) ∧
    (plc Try.prog 131 = some fun i => [(0, 1), (1, 1)][i]?) ∧
    (tag Try.prog 134 = some false) ∧
    (tsz Try.prog 134 = some 1) ∧
    (und Try.prog 134 = true) ∧
    (ik Try.prog 134 = none) ∧
    (kd Try.prog 134 = some 1) ∧
    (esz Try.prog 134 = some 3) ∧
    (elt Try.prog 134 = some 137) ∧
    (zc Try.prog 134 = some [.nils]) ∧
    (ars Try.prog 134 = none) ∧
    (eli Try.prog 134 = some (3, 24, [.int .i64 0, .int .i64 0, .int .i64 0])) ∧
    (tag Try.prog 137 = some true) ∧
    (tsz Try.prog 137 = some 3) ∧
    (und Try.prog 137 = true) ∧
    (ik Try.prog 137 = none) ∧
    (kd Try.prog 137 = some 16) ∧
    (esz Try.prog 137 = none) ∧
    (zc Try.prog 137 = some [.int .i64 0, .int .i64 0, .int .i64 0]) ∧
    (ars Try.prog 137 = none) ∧
    (fld Try.prog 137 0 = some (0, false, 1)) ∧
    (fld Try.prog 137 1 = some (1, false, 1)) ∧
    (fld Try.prog 137 2 = some (2, false, 1)) ∧
    (plc Try.prog 137 = some fun i => [(0, 1), (1, 1), (2, 1)][i]?) ∧
    (tag Try.prog 138 = some false) ∧
    (tsz Try.prog 138 = some 1) ∧
    (und Try.prog 138 = true) ∧
    (ik Try.prog 138 = none) ∧
    (kd Try.prog 138 = some 1) ∧
    (esz Try.prog 138 = some 3) ∧
    (elt Try.prog 138 = some 141) ∧
    (zc Try.prog 138 = some [.nils]) ∧
    (ars Try.prog 138 = none) ∧
    (eli Try.prog 138 = some (3, 24, [.int .i64 0, .int .i64 0, .int .i64 0])) ∧
    (tag Try.prog 141 = some true) ∧
    (tsz Try.prog 141 = some 3) ∧
    (und Try.prog 141 = true) ∧
    (ik Try.prog 141 = none) ∧
    (kd Try.prog 141 = some 16) ∧
    (esz Try.prog 141 = none) ∧
    (zc Try.prog 141 = some [.int .i64 0, .int .i64 0, .int .i64 0]) ∧
    (ars Try.prog 141 = none) ∧
    (fld Try.prog 141 0 = some (0, false, 1)) ∧
    (fld Try.prog 141 1 = some (1, false, 1)) ∧
    (fld Try.prog 141 2 = some (2, false, 1)) ∧
    (plc Try.prog 141 = some fun i => [(0, 1), (1, 1), (2, 1)][i]?) ∧
    (tag Try.prog 142 = some false) ∧
    (tsz Try.prog 142 = some 1) ∧
    (und Try.prog 142 = true) ∧
    (ik Try.prog 142 = none) ∧
    (kd Try.prog 142 = some 1) ∧
    (esz Try.prog 142 = some 2) ∧
    (elt Try.prog 142 = some 145) ∧
    (zc Try.prog 142 = some [.nils]) ∧
    (ars Try.prog 142 = none) ∧
    (eli Try.prog 142 = some (2, 16, [.int .i64 0, .int .i64 0])) ∧
    (tag Try.prog 145 = some true) ∧
    (tsz Try.prog 145 = some 2) ∧
    (und Try.prog 145 = true) ∧
    (ik Try.prog 145 = none) ∧
    (kd Try.prog 145 = some 14) ∧
    (esz Try.prog 145 = none) ∧
    (zc Try.prog 145 = some [.int .i64 0, .int .i64 0]) ∧
    (ars Try.prog 145 = none) ∧
    (fld Try.prog 145 0 = some (0, false, 1)) ∧
    (fld Try.prog 145 1 = some (1, false, 1)) ∧
    (plc Try.prog 145 = some fun i => [(0, 1), (1, 1)][i]?) ∧
    (tag Try.prog 152 = some false) ∧
    (tsz Try.prog 152 = some 1) ∧
    (und Try.prog 152 = true) ∧
    (ik Try.prog 152 = none) ∧
    (kd Try.prog 152 = some 1) ∧
    (esz Try.prog 152 = some 5) ∧
    (elt Try.prog 152 = some 156) ∧
    (zc Try.prog 152 = some [.nils]) ∧
    (ars Try.prog 152 = none) ∧
    (eli Try.prog 152 = some (5, 40, [.int .i64 0, .int .i64 0, .int .i64 0, .int .i64 0, .int .i64 0])) ∧
    (tag Try.prog 154 = some true) ∧
    (tsz Try.prog 154 = some 4) ∧
    (und Try.prog 154 = true) ∧
    (ik Try.prog 154 = none) ∧
    (kd Try.prog 154 = some 18) ∧
    (esz Try.prog 154 = none) ∧
    (zc Try.prog 154 = some [.int .i64 0, .int .i64 0, .int .i64 0, .int .i64 0]) ∧
    (ars Try.prog 154 = some (4, 1, false)) ∧
    (plc Try.prog 154 = some fun i => some (i * 1, 1)) ∧
    (tag Try.prog 156 = some true) ∧
    (tsz Try.prog 156 = some 5) ∧
    (und Try.prog 156 = true) ∧
    (ik Try.prog 156 = none) ∧
    (kd Try.prog 156 = none) ∧
    (esz Try.prog 156 = none) ∧
    (zc Try.prog 156 = some [.int .i64 0, .int .i64 0, .int .i64 0, .int .i64 0, .int .i64 0]) ∧
    (ars Try.prog 156 = none) ∧
    (fld Try.prog 156 0 = some (0, false, 1)) ∧
    (fld Try.prog 156 1 = some (1, true, 4)) ∧
    (plc Try.prog 156 = some fun i => [(0, 1), (1, 4)][i]?) :=
  ⟨tag3, tsz3, und3, ik3, kd3, esz3, zc3, ars3, tag4, tsz4, und4, ik4, kd4, esz4, zc4, ars4, tag9, tsz9, und9, ik9, kd9, esz9, zc9, ars9, tag22, tsz22, und22, ik22, kd22, esz22, elt22, zc22, ars22, eli22, tag23, tsz23, und23, ik23, kd23, esz23, elt23, zc23, ars23, eli23, tag25, tsz25, und25, ik25, kd25, esz25, elt25, zc25, ars25, eli25, tag27, tsz27, und27, ik27, kd27, esz27, zc27, ars27, fld27_0, fld27_1, plc27, tag28, tsz28, und28, ik28, kd28, esz28, zc28, ars28, fld28_0, fld28_1, plc28, tag34, tsz34, und34, ik34, kd34, esz34, zc34, ars34, tag36, tsz36, und36, ik36, kd36, esz36, zc36, ars36, tag40, tsz40, und40, ik40, kd40, esz40, elt40, zc40, ars40, eli40, tag41, tsz41, und41, ik41, kd41, esz41, zc41, ars41, tag43, tsz43, und43, ik43, kd43, esz43, zc43, ars43, fld43_0, fld43_1, fld43_2, plc43, tag44, tsz44, und44, ik44, kd44, esz44, elt44, zc44, ars44, eli44, tag47, tsz47, und47, ik47, kd47, esz47, zc47, ars47, fld47_0, fld47_1, plc47, tag48, tsz48, und48, ik48, kd48, esz48, zc48, ars48, tag51, tsz51, und51, ik51, kd51, esz51, zc51, ars51, tag52, tsz52, und52, ik52, kd52, esz52, zc52, ars52, tag55, tsz55, und55, ik55, kd55, esz55, elt55, zc55, ars55, eli55, tag58, tsz58, und58, ik58, kd58, esz58, zc58, ars58, fld58_0, fld58_1, plc58, tag60, tsz60, und60, ik60, kd60, esz60, zc60, ars60, fld60_0, plc60, tag62, tsz62, und62, ik62, kd62, esz62, zc62, ars62, fld62_0, plc62, tag64, tsz64, und64, ik64, kd64, esz64, zc64, ars64, fld64_0, plc64, tag66, tsz66, und66, ik66, kd66, esz66, zc66, ars66, tag69, tsz69, und69, ik69, kd69, esz69, zc69, ars69, fld69_0, fld69_1, fld69_2, fld69_3, plc69, tag70, tsz70, und70, ik70, kd70, esz70, zc70, ars70, tag72, tsz72, und72, ik72, kd72, esz72, elt72, zc72, ars72, eli72, tag74, tsz74, und74, ik74, kd74, esz74, zc74, ars74, fld74_0, fld74_1, plc74, tag76, tsz76, und76, ik76, kd76, esz76, zc76, ars76, fld76_0, fld76_1, fld76_2, plc76, tag78, tsz78, und78, ik78, kd78, esz78, zc78, ars78, plc78, tag83, tsz83, und83, ik83, kd83, esz83, zc83, ars83, fld83_0, fld83_1, fld83_2, plc83, tag85, tsz85, und85, ik85, kd85, esz85, zc85, ars85, tag89, tsz89, und89, ik89, kd89, esz89, zc89, ars89, fld89_0, fld89_1, fld89_2, fld89_3, plc89, tag93, tsz93, und93, ik93, kd93, esz93, zc93, ars93, plc93, tag100, tsz100, und100, ik100, kd100, esz100, zc100, ars100, tag102, tsz102, und102, ik102, kd102, esz102, elt102, zc102, ars102, eli102, tag106, tsz106, und106, ik106, kd106, esz106, zc106, ars106, tag114, tsz114, und114, ik114, kd114, esz114, zc114, ars114, fld114_0, fld114_1, plc114, tag115, tsz115, und115, ik115, kd115, esz115, zc115, ars115, plc115, tag131, tsz131, und131, ik131, kd131, esz131, zc131, ars131, fld131_0, fld131_1, plc131, tag134, tsz134, und134, ik134, kd134, esz134, elt134, zc134, ars134, eli134, tag137, tsz137, und137, ik137, kd137, esz137, zc137, ars137, fld137_0, fld137_1, fld137_2, plc137, tag138, tsz138, und138, ik138, kd138, esz138, elt138, zc138, ars138, eli138, tag141, tsz141, und141, ik141, kd141, esz141, zc141, ars141, fld141_0, fld141_1, fld141_2, plc141, tag142, tsz142, und142, ik142, kd142, esz142, elt142, zc142, ars142, eli142, tag145, tsz145, und145, ik145, kd145, esz145, zc145, ars145, fld145_0, fld145_1, plc145, tag152, tsz152, und152, ik152, kd152, esz152, elt152, zc152, ars152, eli152, tag154, tsz154, und154, ik154, kd154, esz154, zc154, ars154, plc154, tag156, tsz156, und156, ik156, kd156, esz156, zc156, ars156, fld156_0, fld156_1, plc156⟩
/-! ### naskh.lint.Name: function 7 -/
def r7_0 : List PS := [.mk (some 2) (.assign (.const (.string ⟨#[]⟩))) none]
def r7_1 : List PS := [.mk (some 3) (.move (.tmp 0)) none]
def r7_2 : List PS := [.mk (some 5) (.binOp .eql 3 (.tmp 3) (.const (.int .i64 1)) 3) none,
  .mk (some 4) (.assign (.tmp 5)) none]
def r7_3 : List PS := [.mk (some 2) (.assign (.const (.string ⟨#[105, 108, 108]⟩))) none]
def r7_4 : List PS := [.mk (some 7) (.binOp .eql 3 (.tmp 3) (.const (.int .i64 2)) 3) none,
  .mk (some 6) (.assign (.tmp 7)) none]
def r7_5 : List PS := [.mk (some 2) (.assign (.const (.string ⟨#[111, 112, 101, 110]⟩))) none]
def r7_6 : List PS := [.mk (some 9) (.binOp .eql 3 (.tmp 3) (.const (.int .i64 3)) 3) none,
  .mk (some 8) (.assign (.tmp 9)) none]
def r7_7 : List PS := [.mk (some 2) (.assign (.const (.string ⟨#[108, 111, 111, 115, 101]⟩))) none]
def r7_8 : List PS := [.mk (some 11) (.binOp .eql 3 (.tmp 3) (.const (.int .i64 4)) 3) none,
  .mk (some 10) (.assign (.tmp 11)) none]
def r7_9 : List PS := [.mk (some 2) (.assign (.const (.string ⟨#[102, 111, 114, 109, 101, 100]⟩))) none]
def r7_10 : List PS := [.mk (some 13) (.binOp .eql 3 (.tmp 3) (.const (.int .i64 5)) 3) none,
  .mk (some 12) (.assign (.tmp 13)) none]
def r7_11 : List PS := [.mk (some 2) (.assign (.const (.string ⟨#[98, 97, 114, 101]⟩))) none]
def r7_12 : List PS := [.mk (some 15) (.binOp .eql 3 (.tmp 3) (.const (.int .i64 6)) 3) none,
  .mk (some 14) (.assign (.tmp 15)) none]
def r7_13 : List PS := [.mk (some 2) (.assign (.const (.string ⟨#[111, 114, 100, 101, 114]⟩))) none]
def r7_14 : List PS := [.mk (some 17) (.binOp .eql 3 (.tmp 3) (.const (.int .i64 7)) 3) none,
  .mk (some 16) (.assign (.tmp 17)) none]
def r7_15 : List PS := [.mk (some 2) (.assign (.const (.string ⟨#[100, 105, 103, 105, 116, 115]⟩))) none]
def r7_16 : List PS := [.mk (some 19) (.binOp .eql 3 (.tmp 3) (.const (.int .i64 8)) 3) none,
  .mk (some 18) (.assign (.tmp 19)) none]
def r7_17 : List PS := [.mk (some 2) (.assign (.const (.string ⟨#[114, 111, 119]⟩))) none]
def r7_18 : List PS := [.mk (some 2) (.assign (.const (.string ⟨#[]⟩))) none]
def c7 : PC := (.seq (.reg false r7_0) (.seq (.seq (.reg false r7_1) (.block 0 (.seq (.reg false r7_2) (.cond (.tmp 4) (.seq (.reg false r7_3) .ret) (.seq (.reg false r7_4) (.cond (.tmp 6) (.seq (.reg false r7_5) .ret) (.seq (.reg false r7_6) (.cond (.tmp 8) (.seq (.reg false r7_7) .ret) (.seq (.reg false r7_8) (.cond (.tmp 10) (.seq (.reg false r7_9) .ret) (.seq (.reg false r7_10) (.cond (.tmp 12) (.seq (.reg false r7_11) .ret) (.seq (.reg false r7_12) (.cond (.tmp 14) (.seq (.reg false r7_13) .ret) (.seq (.reg false r7_14) (.cond (.tmp 16) (.seq (.reg false r7_15) .ret) (.seq (.reg false r7_16) (.cond (.tmp 18) (.seq (.reg false r7_17) .ret) .skip)))))))))))))))))) (.seq (.reg false r7_18) .ret)))
theorem e7 {args : List PV} {h : Heap} {K : PV → Heap → Prop} (hl : args.length = 1) (s : pwp Try.prog [] c7 (fin Try.prog [.tmp 2] h K) (slots0 (olds args)) h) : CanP Try.prog 7 args h K :=
  can_of2 (n := 20) mixed Try.func7 rfl (by kernel_rfl) (by rw [hl]; kernel_rfl) rfl (by kernel_rfl) s
/-! ### (*naskh.props.Props).made: function 37 -/
def r37_0 : List PS := [.mk (some 2) (.assign (.const (.bool false))) none]
def r37_1 : List PS := [.mk (some 3) (.move (.tmp 0)) none,
  .mk (some 4) (.binOp .neq 34 (.tmp 3) (.const (.pointer none)) 34) none,
  .mk (some 5) (.move (.tmp 4)) none,
  .mk (some 6) (.move (.tmp 0)) (some (5, true)),
  .mk (some 7) (.nilCheck (.tmp 6)) (some (5, true)),
  .mk (some 8) (.fieldAddr 60 (.tmp 7) 0) (some (5, true)),
  .mk (some 9) (.fieldAddr 58 (.tmp 8) 0) (some (5, true)),
  .mk (some 10) (.load 51 (.tmp 9)) (some (5, true)),
  .mk (some 11) (.binOp .neq 51 (.tmp 10) (.const (.pointer none)) 51) (some (5, true)),
  .mk (some 12) (.pick (.tmp 5) (.tmp 11) (.const (.bool false))) none,
  .mk (some 2) (.assign (.tmp 12)) none]
def c37 : PC := (.seq (.reg false r37_0) (.seq (.reg false r37_1) .ret))
theorem e37 {args : List PV} {h : Heap} {K : PV → Heap → Prop} (hl : args.length = 1) (s : pwp Try.prog [] c37 (fin Try.prog [.tmp 2] h K) (slots0 (olds args)) h) : CanP Try.prog 37 args h K :=
  can_of2 (n := 13) mixed Try.func37 rfl (by kernel_rfl) (by rw [hl]; kernel_rfl) rfl (by kernel_rfl) s
/-! ### naskh.props.code: function 38 -/
def r38_0 : List PS := [.mk (some 2) (.assign (.const (.bool false))) none]
def r38_1 : List PS := [.mk (some 3) (.move (.tmp 0)) none,
  .mk (some 4) (.binOp .geq 3 (.tmp 3) (.const (.int .i64 0)) 3) none,
  .mk (some 5) (.move (.tmp 4)) none,
  .mk (some 6) (.move (.tmp 0)) (some (5, true)),
  .mk (some 7) (.binOp .leq 3 (.tmp 6) (.const (.int .i64 1114111)) 3) (some (5, true)),
  .mk (some 8) (.pick (.tmp 5) (.tmp 7) (.const (.bool false))) none,
  .mk (some 2) (.assign (.tmp 8)) none]
def c38 : PC := (.seq (.reg false r38_0) (.seq (.reg false r38_1) .ret))
theorem e38 {args : List PV} {h : Heap} {K : PV → Heap → Prop} (hl : args.length = 1) (s : pwp Try.prog [] c38 (fin Try.prog [.tmp 2] h K) (slots0 (olds args)) h) : CanP Try.prog 38 args h K :=
  can_of2 (n := 9) mixed Try.func38 rfl (by kernel_rfl) (by rw [hl]; kernel_rfl) rfl (by kernel_rfl) s
/-! ### (*naskh.trie.Table).has: function 52 -/
def r52_0 : List PS := [.mk (some 4) (.assign (.const (.bool false))) none]
def r52_1 : List PS := [.mk (some 5) (.move (.tmp 0)) none,
  .mk (some 6) (.binOp .neq 51 (.tmp 5) (.const (.pointer none)) 51) none,
  .mk (some 7) (.move (.tmp 6)) none,
  .mk (some 8) (.move (.tmp 0)) (some (7, true)),
  .mk (some 9) (.nilCheck (.tmp 8)) (some (7, true)),
  .mk (some 10) (.fieldAddr 76 (.tmp 9) 2) (some (7, true)),
  .mk (some 11) (.load 4 (.tmp 10)) (some (7, true)),
  .mk (some 12) (.pick (.tmp 7) (.tmp 11) (.const (.bool false))) none,
  .mk (some 13) (.move (.tmp 12)) none,
  .mk (some 14) (.move (.tmp 1)) (some (13, true)),
  .mk (some 15) (.binOp .geq 3 (.tmp 14) (.const (.int .i64 0)) 3) (some (13, true)),
  .mk (some 16) (.pick (.tmp 13) (.tmp 15) (.const (.bool false))) none,
  .mk (some 17) (.move (.tmp 16)) none,
  .mk (some 18) (.move (.tmp 1)) (some (17, true)),
  .mk (some 19) (.binOp .leq 3 (.tmp 18) (.const (.int .i64 1114111)) 3) (some (17, true)),
  .mk (some 20) (.pick (.tmp 17) (.tmp 19) (.const (.bool false))) none,
  .mk (some 4) (.assign (.tmp 20)) none]
def c52 : PC := (.seq (.reg false r52_0) (.seq (.reg false r52_1) .ret))
theorem e52 {args : List PV} {h : Heap} {K : PV → Heap → Prop} (hl : args.length = 2) (s : pwp Try.prog [] c52 (fin Try.prog [.tmp 4] h K) (slots0 (olds args)) h) : CanP Try.prog 52 args h K :=
  can_of2 (n := 21) mixed Try.func52 rfl (by kernel_rfl) (by rw [hl]; kernel_rfl) rfl (by kernel_rfl) s
/-! ### (*naskh.trie.stages).at: function 53 -/
def r53_0 : List PS := [.mk (some 4) (.assign (.const (.int .i64 0))) none]
def r53_1 : List PS := [.mk (some 5) (.move (.tmp 0)) none,
  .mk (some 6) (.nilCheck (.tmp 5)) none,
  .mk (some 7) (.fieldAddr 74 (.tmp 6) 1) none,
  .mk (some 8) (.load 72 (.tmp 7)) none,
  .mk (some 9) (.move (.tmp 0)) none,
  .mk (some 10) (.nilCheck (.tmp 9)) none,
  .mk (some 11) (.fieldAddr 74 (.tmp 10) 0) none,
  .mk (some 12) (.load 23 (.tmp 11)) none,
  .mk (some 13) (.move (.tmp 1)) none,
  .mk (some 14) (.binOp .shr 3 (.tmp 13) (.const (.int .u64 7)) 106) none,
  .mk (some 15) (.indexAddr 23 (.tmp 12) (.tmp 14)) none,
  .mk (some 16) (.load 3 (.tmp 15)) none,
  .mk (some 17) (.move (.tmp 1)) none,
  .mk (some 18) (.binOp .and 3 (.tmp 17) (.const (.int .i64 127)) 3) none,
  .mk (some 19) (.indexAddr 72 (.tmp 8) (.tmp 16)) none,
  .mk (some 20) (.indexAddr 78 (.tmp 19) (.tmp 18)) none,
  .mk (some 21) (.load 3 (.tmp 20)) none,
  .mk (some 4) (.assign (.tmp 21)) none]
def c53 : PC := (.seq (.reg false r53_0) (.seq (.reg true r53_1) .ret))
theorem e53 {args : List PV} {h : Heap} {K : PV → Heap → Prop} (hl : args.length = 2) (s : pwp Try.prog [] c53 (fin Try.prog [.tmp 4] h K) (slots0 (olds args)) h) : CanP Try.prog 53 args h K :=
  can_of2 (n := 22) mixed Try.func53 rfl (by kernel_rfl) (by rw [hl]; kernel_rfl) rfl (by kernel_rfl) s
/-! ### (*naskh.trie.Table).Get: function 39 -/
def r39_0 : List PS := [.mk (some 4) (.assign (.const (.int .i64 0))) none]
def r39_1 : List PS := [.mk (some 6) (.move (.tmp 0)) none,
  .mk (some 7) (.move (.tmp 1)) none,
  .mk (some 8) (.call ⟨(.value (.func 52)), #[(.tmp 6), (.tmp 7)], #[51, 3]⟩) none,
  .mk (some 5) (.assign (.tmp 8)) none]
def r39_2 : List PS := [.mk (some 9) (.move (.tmp 0)) none,
  .mk (some 10) (.nilCheck (.tmp 9)) none,
  .mk (some 11) (.fieldAddr 76 (.tmp 10) 0) none,
  .mk (some 12) (.move (.tmp 1)) none,
  .mk (some 13) (.call ⟨(.value (.func 53)), #[(.tmp 11), (.tmp 12)], #[74, 3]⟩) none,
  .mk (some 4) (.assign (.tmp 13)) none]
def r39_3 : List PS := [.mk (some 15) (.move (.tmp 0)) none,
  .mk (some 16) (.binOp .eql 51 (.tmp 15) (.const (.pointer none)) 51) none,
  .mk (some 14) (.assign (.tmp 16)) none]
def r39_4 : List PS := [.mk (some 4) (.assign (.const (.int .i64 0))) none]
def r39_5 : List PS := [.mk (some 17) (.move (.tmp 0)) none,
  .mk (some 18) (.nilCheck (.tmp 17)) none,
  .mk (some 19) (.fieldAddr 76 (.tmp 18) 1) none,
  .mk (some 20) (.load 3 (.tmp 19)) none,
  .mk (some 4) (.assign (.tmp 20)) none]
def c39 : PC := (.seq (.reg false r39_0) (.seq (.block 0 (.seq (.reg false r39_1) (.cond (.tmp 5) (.seq (.reg false r39_2) .ret) (.seq (.reg false r39_3) (.cond (.tmp 14) (.seq (.reg false r39_4) .ret) .skip))))) (.seq (.reg false r39_5) .ret)))
theorem e39 {args : List PV} {h : Heap} {K : PV → Heap → Prop} (hl : args.length = 2) (s : pwp Try.prog [] c39 (fin Try.prog [.tmp 4] h K) (slots0 (olds args)) h) : CanP Try.prog 39 args h K :=
  can_of2 (n := 21) mixed Try.func39 rfl (by kernel_rfl) (by rw [hl]; kernel_rfl) rfl (by kernel_rfl) s
/-! ### (*naskh.props.Props).Class: function 23 -/
def r23_0 : List PS := [.mk (some 4) (.assign (.const (.int .i64 0))) none]
def r23_1 : List PS := [.mk (some 5) (.move (.tmp 0)) none,
  .mk (some 6) (.call ⟨(.value (.func 37)), #[(.tmp 5)], #[34]⟩) none,
  .mk (some 7) (.unOp .not 4 (.tmp 6)) none,
  .mk (some 8) (.move (.tmp 7)) none,
  .mk (some 9) (.move (.tmp 1)) (some (8, false)),
  .mk (some 10) (.call ⟨(.value (.func 38)), #[(.tmp 9)], #[3]⟩) (some (8, false)),
  .mk (some 11) (.unOp .not 4 (.tmp 10)) (some (8, false)),
  .mk (some 12) (.pick (.tmp 8) (.const (.bool true)) (.tmp 11)) none]
def r23_2 : List PS := [.mk (some 4) (.assign (.const (.int .i64 13))) none]
def r23_3 : List PS := [.mk (some 13) (.move (.tmp 0)) none,
  .mk (some 14) (.nilCheck (.tmp 13)) none,
  .mk (some 15) (.fieldAddr 60 (.tmp 14) 0) none,
  .mk (some 16) (.fieldAddr 58 (.tmp 15) 0) none,
  .mk (some 17) (.load 51 (.tmp 16)) none,
  .mk (some 18) (.move (.tmp 1)) none,
  .mk (some 19) (.call ⟨(.value (.func 39)), #[(.tmp 17), (.tmp 18)], #[51, 3]⟩) none,
  .mk (some 4) (.assign (.tmp 19)) none]
def c23 : PC := (.seq (.reg false r23_0) (.seq (.seq (.reg false r23_1) (.cond (.tmp 12) (.seq (.reg false r23_2) .ret) .skip)) (.seq (.reg false r23_3) .ret)))
theorem e23 {args : List PV} {h : Heap} {K : PV → Heap → Prop} (hl : args.length = 2) (s : pwp Try.prog [] c23 (fin Try.prog [.tmp 4] h K) (slots0 (olds args)) h) : CanP Try.prog 23 args h K :=
  can_of2 (n := 20) mixed Try.func23 rfl (by kernel_rfl) (by rw [hl]; kernel_rfl) rfl (by kernel_rfl) s
/-! ### naskh.para.Split: function 15 -/
def r15_0 : List PS := [.mk (some 4) (.assign (.const (.slice none 0 0))) none]
def r15_1 : List PS := [.mk (some 5) (.assign (.const (.slice none 0 0))) none]
def r15_2 : List PS := [.mk (some 10) (.build 47 #[]) none,
  .mk (some 6) (.alloc 47) none,
  .mk none (.store 47 (.tmp 6) (.tmp 10)) none]
def r15_3 : List PS := [.mk (some 11) (.move (.tmp 1)) none,
  .mk (some 12) (.call ⟨(.builtin .len), #[(.tmp 11)], #[23]⟩) none,
  .mk (some 13) (.move (.const (.int .i64 0))) none]
def r15_4 : List PS := [.mk (some 14) (.binOp .lss 3 (.tmp 13) (.tmp 12) 3) none]
def r15_5 : List PS := [.mk (some 15) (.move (.tmp 13)) none,
  .mk (some 16) (.indexAddr 23 (.tmp 11) (.tmp 13)) none,
  .mk (some 17) (.load 3 (.tmp 16)) none,
  .mk (some 7) (.assign (.tmp 15)) none,
  .mk (some 8) (.assign (.tmp 17)) none]
def r15_6 : List PS := [.mk (some 18) (.move (.tmp 7)) none,
  .mk (some 19) (.binOp .add 3 (.tmp 18) (.const (.int .i64 1)) 3) none,
  .mk (some 20) (.fieldAddr 47 (.tmp 6) 1) none,
  .mk none (.store 3 (.tmp 20) (.tmp 19)) none]
def r15_7 : List PS := [.mk (some 21) (.move (.tmp 8)) none,
  .mk (some 22) (.binOp .eql 3 (.tmp 21) (.const (.int .i64 13)) 3) none,
  .mk (some 23) (.move (.tmp 22)) none,
  .mk (some 24) (.move (.tmp 7)) (some (23, true)),
  .mk (some 25) (.binOp .add 3 (.tmp 24) (.const (.int .i64 1)) 3) (some (23, true)),
  .mk (some 26) (.move (.tmp 1)) (some (23, true)),
  .mk (some 27) (.call ⟨(.builtin .len), #[(.tmp 26)], #[23]⟩) (some (23, true)),
  .mk (some 28) (.binOp .lss 3 (.tmp 25) (.tmp 27) 3) (some (23, true)),
  .mk (some 29) (.pick (.tmp 23) (.tmp 28) (.const (.bool false))) none,
  .mk (some 30) (.move (.tmp 29)) none,
  .mk (some 31) (.move (.tmp 1)) (some (30, true)),
  .mk (some 32) (.move (.tmp 7)) (some (30, true)),
  .mk (some 33) (.binOp .add 3 (.tmp 32) (.const (.int .i64 1)) 3) (some (30, true)),
  .mk (some 34) (.indexAddr 23 (.tmp 31) (.tmp 33)) (some (30, true)),
  .mk (some 35) (.load 3 (.tmp 34)) (some (30, true)),
  .mk (some 36) (.binOp .eql 3 (.tmp 35) (.const (.int .i64 10)) 3) (some (30, true)),
  .mk (some 37) (.pick (.tmp 30) (.tmp 36) (.const (.bool false))) none,
  .mk (some 9) (.assign (.tmp 37)) none]
def r15_8 : List PS := [.mk (some 38) (.move (.tmp 0)) none,
  .mk (some 39) (.move (.tmp 8)) none,
  .mk (some 40) (.call ⟨(.value (.func 23)), #[(.tmp 38), (.tmp 39)], #[34, 3]⟩) none,
  .mk (some 41) (.binOp .neq 3 (.tmp 40) (.const (.int .i64 10)) 3) none,
  .mk (some 42) (.move (.tmp 41)) none,
  .mk (some 43) (.move (.tmp 9)) (some (42, false)),
  .mk (some 44) (.pick (.tmp 42) (.const (.bool true)) (.tmp 43)) none]
def r15_9 : List PS := [.mk (some 45) (.move (.tmp 5)) none,
  .mk (some 46) (.load 47 (.tmp 6)) none,
  .mk (some 47) (.buildSlice 44 1 #[(0, (.tmp 46))]) none,
  .mk (some 48) (.call ⟨(.builtin .append), #[(.tmp 45), (.tmp 47)], #[44, 44]⟩) none,
  .mk (some 5) (.assign (.tmp 48)) none]
def r15_10 : List PS := [.mk (some 49) (.move (.tmp 7)) none,
  .mk (some 50) (.binOp .add 3 (.tmp 49) (.const (.int .i64 1)) 3) none,
  .mk (some 51) (.build 47 #[(0, (.tmp 50))]) none,
  .mk none (.store 47 (.tmp 6) (.tmp 51)) none]
def r15_11 : List PS := [.mk (some 52) (.binOp .add 3 (.tmp 13) (.const (.int .i64 1)) 3) none,
  .mk (some 13) (.move (.tmp 52)) none]
def r15_12 : List PS := [.mk (some 53) (.fieldAddr 47 (.tmp 6) 1) none,
  .mk (some 54) (.load 3 (.tmp 53)) none,
  .mk (some 55) (.fieldAddr 47 (.tmp 6) 0) none,
  .mk (some 56) (.load 3 (.tmp 55)) none,
  .mk (some 57) (.binOp .gtr 3 (.tmp 54) (.tmp 56) 3) none]
def r15_13 : List PS := [.mk (some 58) (.move (.tmp 5)) none,
  .mk (some 59) (.load 47 (.tmp 6)) none,
  .mk (some 60) (.buildSlice 44 1 #[(0, (.tmp 59))]) none,
  .mk (some 61) (.call ⟨(.builtin .append), #[(.tmp 58), (.tmp 60)], #[44, 44]⟩) none,
  .mk (some 5) (.assign (.tmp 61)) none]
def r15_14 : List PS := [.mk (some 62) (.move (.tmp 5)) none,
  .mk (some 4) (.assign (.tmp 62)) none]
def c15 : PC := (.seq (.reg false r15_0) (.seq (.reg false r15_1) (.seq (.reg false r15_2) (.seq (.seq (.reg false r15_3) (.block 0 (.loop (.seq (.reg false r15_4) (.seq (.cond (.tmp 14) .skip (.exit 0)) (.seq (.block 1 (.seq (.reg false r15_5) (.seq (.reg false r15_6) (.seq (.reg false r15_7) (.seq (.seq (.reg false r15_8) (.cond (.tmp 44) (.exit 1) .skip)) (.seq (.reg false r15_9) (.reg false r15_10))))))) (.reg false r15_11))))))) (.seq (.seq (.reg false r15_12) (.cond (.tmp 57) (.reg false r15_13) .skip)) (.seq (.reg false r15_14) .ret))))))
theorem e15 {args : List PV} {h : Heap} {K : PV → Heap → Prop} (hl : args.length = 2) (s : pwp Try.prog [6] c15 (fin Try.prog [.tmp 4] h K) (slots0 (olds args)) h) : CanP Try.prog 15 args h K :=
  can_of2 (n := 63) mixed Try.func15 rfl (by kernel_rfl) (by rw [hl]; kernel_rfl) rfl (by kernel_rfl) s
/-! ### naskh.props.each: function 40 -/
def r40_0 : List PS := [.mk (some 4) (.assign (.const (.slice none 0 0))) none]
def r40_1 : List PS := [.mk (some 8) (.move (.tmp 0)) none,
  .mk (some 9) (.call ⟨(.builtin .len), #[(.tmp 8)], #[23]⟩) none,
  .mk (some 10) (.makeSlice 23 (.tmp 9) (.tmp 9)) none,
  .mk (some 5) (.assign (.tmp 10)) none]
def r40_2 : List PS := [.mk (some 11) (.move (.tmp 0)) none,
  .mk (some 12) (.call ⟨(.builtin .len), #[(.tmp 11)], #[23]⟩) none,
  .mk (some 13) (.move (.const (.int .i64 0))) none]
def r40_3 : List PS := [.mk (some 14) (.binOp .lss 3 (.tmp 13) (.tmp 12) 3) none]
def r40_4 : List PS := [.mk (some 15) (.move (.tmp 13)) none,
  .mk (some 16) (.indexAddr 23 (.tmp 11) (.tmp 13)) none,
  .mk (some 17) (.load 3 (.tmp 16)) none,
  .mk (some 6) (.assign (.tmp 15)) none,
  .mk (some 7) (.assign (.tmp 17)) none]
def r40_5 : List PS := [.mk (some 18) (.move (.tmp 5)) none,
  .mk (some 19) (.move (.tmp 6)) none,
  .mk (some 20) (.move (.tmp 1)) none,
  .mk (some 21) (.move (.tmp 7)) none,
  .mk (some 22) (.call ⟨(.value (.tmp 20)), #[(.tmp 21)], #[3]⟩) none,
  .mk (some 23) (.indexAddr 23 (.tmp 18) (.tmp 19)) none,
  .mk none (.store 3 (.tmp 23) (.tmp 22)) none]
def r40_6 : List PS := [.mk (some 24) (.binOp .add 3 (.tmp 13) (.const (.int .i64 1)) 3) none,
  .mk (some 13) (.move (.tmp 24)) none]
def r40_7 : List PS := [.mk (some 25) (.move (.tmp 5)) none,
  .mk (some 4) (.assign (.tmp 25)) none]
def c40 : PC := (.seq (.reg false r40_0) (.seq (.reg false r40_1) (.seq (.seq (.reg false r40_2) (.block 0 (.loop (.seq (.reg false r40_3) (.seq (.cond (.tmp 14) .skip (.exit 0)) (.seq (.block 1 (.seq (.reg false r40_4) (.reg false r40_5))) (.reg false r40_6))))))) (.seq (.reg false r40_7) .ret))))
theorem e40 {args : List PV} {h : Heap} {K : PV → Heap → Prop} (hl : args.length = 2) (s : pwp Try.prog [] c40 (fin Try.prog [.tmp 4] h K) (slots0 (olds args)) h) : CanP Try.prog 40 args h K :=
  can_of2 (n := 26) mixed Try.func40 rfl (by kernel_rfl) (by rw [hl]; kernel_rfl) rfl (by kernel_rfl) s
/-! ### (*naskh.props.Props).Classes: function 24 -/
def r24_0 : List PS := [.mk (some 4) (.assign (.const (.slice none 0 0))) none]
def r24_1 : List PS := [.mk (some 5) (.move (.tmp 1)) none,
  .mk (some 6) (.move (.tmp 0)) none,
  .mk (some 7) (.makeFunc (.func 23) #[(.tmp 6)] #[]) none,
  .mk (some 8) (.call ⟨(.value (.func 40)), #[(.tmp 5), (.tmp 7)], #[23, 66]⟩) none,
  .mk (some 4) (.assign (.tmp 8)) none]
def c24 : PC := (.seq (.reg false r24_0) (.seq (.reg false r24_1) .ret))
theorem e24 {args : List PV} {h : Heap} {K : PV → Heap → Prop} (hl : args.length = 2) (s : pwp Try.prog [] c24 (fin Try.prog [.tmp 4] h K) (slots0 (olds args)) h) : CanP Try.prog 24 args h K :=
  can_of2 (n := 9) mixed Try.func24 rfl (by kernel_rfl) (by rw [hl]; kernel_rfl) rfl (by kernel_rfl) s
/-! ### slices.Index[[]int,int]: function 22 -/
def r22_0 : List PS := [.mk (some 4) (.assign (.const (.int .i64 0))) none]
def r22_1 : List PS := [.mk (some 6) (.move (.tmp 0)) none,
  .mk (some 7) (.call ⟨(.builtin .len), #[(.tmp 6)], #[23]⟩) none,
  .mk (some 8) (.move (.const (.int .i64 0))) none]
def r22_2 : List PS := [.mk (some 9) (.binOp .lss 3 (.tmp 8) (.tmp 7) 3) none]
def r22_3 : List PS := [.mk (some 10) (.move (.tmp 8)) none,
  .mk (some 5) (.assign (.tmp 10)) none]
def r22_4 : List PS := [.mk (some 11) (.move (.tmp 1)) none,
  .mk (some 12) (.move (.tmp 0)) none,
  .mk (some 13) (.move (.tmp 5)) none,
  .mk (some 14) (.indexAddr 23 (.tmp 12) (.tmp 13)) none,
  .mk (some 15) (.load 3 (.tmp 14)) none,
  .mk (some 16) (.binOp .eql 3 (.tmp 11) (.tmp 15) 3) none]
def r22_5 : List PS := [.mk (some 17) (.move (.tmp 5)) none,
  .mk (some 4) (.assign (.tmp 17)) none]
def r22_6 : List PS := [.mk (some 18) (.binOp .add 3 (.tmp 8) (.const (.int .i64 1)) 3) none,
  .mk (some 8) (.move (.tmp 18)) none]
def r22_7 : List PS := [.mk (some 4) (.assign (.const (.int .i64 (-1)))) none]
def c22 : PC := (.seq (.reg false r22_0) (.seq (.seq (.reg false r22_1) (.block 0 (.loop (.seq (.reg false r22_2) (.seq (.cond (.tmp 9) .skip (.exit 0)) (.seq (.block 1 (.seq (.reg false r22_3) (.seq (.reg false r22_4) (.cond (.tmp 16) (.seq (.reg false r22_5) .ret) .skip)))) (.reg false r22_6))))))) (.seq (.reg false r22_7) .ret)))
theorem e22 {args : List PV} {h : Heap} {K : PV → Heap → Prop} (hl : args.length = 2) (s : pwp Try.prog [] c22 (fin Try.prog [.tmp 4] h K) (slots0 (olds args)) h) : CanP Try.prog 22 args h K :=
  can_of2 (n := 19) mixed Try.func22 rfl (by kernel_rfl) (by rw [hl]; kernel_rfl) rfl (by kernel_rfl) s
/-! ### slices.Contains[[]int,int]: function 13 -/
def r13_0 : List PS := [.mk (some 4) (.assign (.const (.bool false))) none]
def r13_1 : List PS := [.mk (some 5) (.move (.tmp 0)) none,
  .mk (some 6) (.move (.tmp 1)) none,
  .mk (some 7) (.call ⟨(.value (.func 22)), #[(.tmp 5), (.tmp 6)], #[23, 3]⟩) none,
  .mk (some 8) (.binOp .geq 3 (.tmp 7) (.const (.int .i64 0)) 3) none,
  .mk (some 4) (.assign (.tmp 8)) none]
def c13 : PC := (.seq (.reg false r13_0) (.seq (.reg false r13_1) .ret))
theorem e13 {args : List PV} {h : Heap} {K : PV → Heap → Prop} (hl : args.length = 2) (s : pwp Try.prog [] c13 (fin Try.prog [.tmp 4] h K) (slots0 (olds args)) h) : CanP Try.prog 13 args h K :=
  can_of2 (n := 9) mixed Try.func13 rfl (by kernel_rfl) (by rw [hl]; kernel_rfl) rfl (by kernel_rfl) s
/-! ### naskh.balance.embeds: function 54 -/
def r54_0 : List PS := [.mk (some 2) (.assign (.const (.bool false))) none]
def r54_1 : List PS := [.mk (some 3) (.buildSlice 23 4 #[(0, (.const (.int .i64 14))), (1, (.const (.int .i64 15))), (2, (.const (.int .i64 16))), (3, (.const (.int .i64 17)))]) none,
  .mk (some 4) (.move (.tmp 0)) none,
  .mk (some 5) (.call ⟨(.value (.func 13)), #[(.tmp 3), (.tmp 4)], #[23, 3]⟩) none,
  .mk (some 2) (.assign (.tmp 5)) none]
def c54 : PC := (.seq (.reg false r54_0) (.seq (.reg false r54_1) .ret))
theorem e54 {args : List PV} {h : Heap} {K : PV → Heap → Prop} (hl : args.length = 1) (s : pwp Try.prog [] c54 (fin Try.prog [.tmp 2] h K) (slots0 (olds args)) h) : CanP Try.prog 54 args h K :=
  can_of2 (n := 6) mixed Try.func54 rfl (by kernel_rfl) (by rw [hl]; kernel_rfl) rfl (by kernel_rfl) s
/-! ### naskh.balance.isolates: function 55 -/
def r55_0 : List PS := [.mk (some 2) (.assign (.const (.bool false))) none]
def r55_1 : List PS := [.mk (some 3) (.buildSlice 23 3 #[(0, (.const (.int .i64 19))), (1, (.const (.int .i64 20))), (2, (.const (.int .i64 21)))]) none,
  .mk (some 4) (.move (.tmp 0)) none,
  .mk (some 5) (.call ⟨(.value (.func 13)), #[(.tmp 3), (.tmp 4)], #[23, 3]⟩) none,
  .mk (some 2) (.assign (.tmp 5)) none]
def c55 : PC := (.seq (.reg false r55_0) (.seq (.reg false r55_1) .ret))
theorem e55 {args : List PV} {h : Heap} {K : PV → Heap → Prop} (hl : args.length = 1) (s : pwp Try.prog [] c55 (fin Try.prog [.tmp 2] h K) (slots0 (olds args)) h) : CanP Try.prog 55 args h K :=
  can_of2 (n := 6) mixed Try.func55 rfl (by kernel_rfl) (by rw [hl]; kernel_rfl) rfl (by kernel_rfl) s
/-! ### (*naskh.balance.walk).last: function 71 -/
def r71_0 : List PS := [.mk (some 2) (.assign (.const (.int .i64 0))) none,
  .mk (some 3) (.assign (.const (.bool false))) none]
def r71_1 : List PS := [.mk (some 4) (.move (.tmp 0)) none,
  .mk (some 5) (.nilCheck (.tmp 4)) none,
  .mk (some 6) (.fieldAddr 89 (.tmp 5) 1) none,
  .mk (some 7) (.load 23 (.tmp 6)) none,
  .mk (some 8) (.call ⟨(.builtin .len), #[(.tmp 7)], #[23]⟩) none,
  .mk (some 9) (.binOp .eql 3 (.tmp 8) (.const (.int .i64 0)) 3) none]
def r71_2 : List PS := [.mk (some 2) (.assign (.const (.int .i64 0))) none,
  .mk (some 3) (.assign (.const (.bool false))) none]
def r71_3 : List PS := [.mk (some 10) (.move (.tmp 0)) none,
  .mk (some 11) (.nilCheck (.tmp 10)) none,
  .mk (some 12) (.fieldAddr 89 (.tmp 11) 1) none,
  .mk (some 13) (.load 23 (.tmp 12)) none,
  .mk (some 14) (.move (.tmp 0)) none,
  .mk (some 15) (.nilCheck (.tmp 14)) none,
  .mk (some 16) (.fieldAddr 89 (.tmp 15) 1) none,
  .mk (some 17) (.load 23 (.tmp 16)) none,
  .mk (some 18) (.call ⟨(.builtin .len), #[(.tmp 17)], #[23]⟩) none,
  .mk (some 19) (.binOp .sub 3 (.tmp 18) (.const (.int .i64 1)) 3) none,
  .mk (some 20) (.indexAddr 23 (.tmp 13) (.tmp 19)) none,
  .mk (some 21) (.load 3 (.tmp 20)) none,
  .mk (some 2) (.assign (.tmp 21)) none,
  .mk (some 3) (.assign (.const (.bool true))) none]
def c71 : PC := (.seq (.reg false r71_0) (.seq (.seq (.reg false r71_1) (.cond (.tmp 9) (.seq (.reg false r71_2) .ret) .skip)) (.seq (.reg true r71_3) .ret)))
theorem e71 {args : List PV} {h : Heap} {K : PV → Heap → Prop} (hl : args.length = 1) (s : pwp Try.prog [] c71 (fin Try.prog [.tmp 2, .tmp 3] h K) (slots0 (olds args)) h) : CanP Try.prog 71 args h K :=
  can_of2 (n := 22) mixed Try.func71 rfl (by kernel_rfl) (by rw [hl]; kernel_rfl) rfl (by kernel_rfl) s
/-! ### (*naskh.balance.walk).pop: function 72 -/
def r72_0 : List PS := [.mk (some 2) (.move (.tmp 0)) none,
  .mk (some 3) (.move (.tmp 0)) none,
  .mk (some 4) (.nilCheck (.tmp 3)) none,
  .mk (some 5) (.fieldAddr 89 (.tmp 4) 1) none,
  .mk (some 6) (.load 23 (.tmp 5)) none,
  .mk (some 7) (.move (.tmp 0)) none,
  .mk (some 8) (.nilCheck (.tmp 7)) none,
  .mk (some 9) (.fieldAddr 89 (.tmp 8) 1) none,
  .mk (some 10) (.load 23 (.tmp 9)) none,
  .mk (some 11) (.call ⟨(.builtin .len), #[(.tmp 10)], #[23]⟩) none,
  .mk (some 12) (.binOp .sub 3 (.tmp 11) (.const (.int .i64 1)) 3) none,
  .mk (some 13) (.slice 23 (.tmp 6) none (some (.tmp 12)) none) none,
  .mk (some 14) (.nilCheck (.tmp 2)) none,
  .mk (some 15) (.fieldAddr 89 (.tmp 14) 1) none,
  .mk none (.store 23 (.tmp 15) (.tmp 13)) none]
def c72 : PC := (.reg true r72_0)
theorem e72 {args : List PV} {h : Heap} {K : PV → Heap → Prop} (hl : args.length = 1) (s : pwp Try.prog [] c72 (fin Try.prog [] h K) (slots0 (olds args)) h) : CanP Try.prog 72 args h K :=
  can_of2 (n := 16) mixed Try.func72 rfl (by kernel_rfl) (by rw [hl]; kernel_rfl) rfl (by kernel_rfl) s
/-! ### (*naskh.balance.walk).endEmbed: function 56 -/
def r56_0 : List PS := [.mk (some 7) (.move (.tmp 0)) none,
  .mk (some 8) (.call ⟨(.value (.func 71)), #[(.tmp 7)], #[85]⟩) none,
  .mk (some 6) (.move (.tmp 8)) none,
  .mk (some 9) (.extract (.tmp 6) 0) none,
  .mk (some 10) (.extract (.tmp 6) 1) none,
  .mk (some 4) (.assign (.tmp 9)) none,
  .mk (some 5) (.assign (.tmp 10)) none]
def r56_1 : List PS := [.mk (some 11) (.move (.tmp 5)) none,
  .mk (some 12) (.move (.tmp 11)) none,
  .mk (some 13) (.move (.tmp 0)) (some (12, true)),
  .mk (some 14) (.nilCheck (.tmp 13)) (some (12, true)),
  .mk (some 15) (.fieldAddr 89 (.tmp 14) 0) (some (12, true)),
  .mk (some 16) (.load 23 (.tmp 15)) (some (12, true)),
  .mk (some 17) (.move (.tmp 4)) (some (12, true)),
  .mk (some 18) (.indexAddr 23 (.tmp 16) (.tmp 17)) (some (12, true)),
  .mk (some 19) (.load 3 (.tmp 18)) (some (12, true)),
  .mk (some 20) (.call ⟨(.value (.func 54)), #[(.tmp 19)], #[3]⟩) (some (12, true)),
  .mk (some 21) (.pick (.tmp 12) (.tmp 20) (.const (.bool false))) none]
def r56_2 : List PS := [.mk (some 22) (.move (.tmp 0)) none,
  .mk (some 23) (.call ⟨(.value (.func 72)), #[(.tmp 22)], #[85]⟩) none]
def r56_3 : List PS := [.mk (some 24) (.move (.tmp 0)) none,
  .mk (some 25) (.move (.tmp 0)) none,
  .mk (some 26) (.nilCheck (.tmp 25)) none,
  .mk (some 27) (.fieldAddr 89 (.tmp 26) 3) none,
  .mk (some 28) (.load 23 (.tmp 27)) none,
  .mk (some 29) (.move (.tmp 1)) none,
  .mk (some 30) (.buildSlice 23 1 #[(0, (.tmp 29))]) none,
  .mk (some 31) (.call ⟨(.builtin .append), #[(.tmp 28), (.tmp 30)], #[23, 23]⟩) none,
  .mk (some 32) (.nilCheck (.tmp 24)) none,
  .mk (some 33) (.fieldAddr 89 (.tmp 32) 3) none,
  .mk none (.store 23 (.tmp 33) (.tmp 31)) none]
def c56 : PC := (.seq (.seq (.reg false r56_0) (.seq (.reg false r56_1) (.cond (.tmp 21) (.seq (.reg false r56_2) .ret) .skip))) (.reg false r56_3))
theorem e56 {args : List PV} {h : Heap} {K : PV → Heap → Prop} (hl : args.length = 2) (s : pwp Try.prog [] c56 (fin Try.prog [] h K) (slots0 (olds args)) h) : CanP Try.prog 56 args h K :=
  can_of2 (n := 34) mixed Try.func56 rfl (by kernel_rfl) (by rw [hl]; kernel_rfl) rfl (by kernel_rfl) s
/-! ### slices.IndexFunc[[]int,int]: function 70 -/
def r70_0 : List PS := [.mk (some 4) (.assign (.const (.int .i64 0))) none]
def r70_1 : List PS := [.mk (some 6) (.move (.tmp 0)) none,
  .mk (some 7) (.call ⟨(.builtin .len), #[(.tmp 6)], #[23]⟩) none,
  .mk (some 8) (.move (.const (.int .i64 0))) none]
def r70_2 : List PS := [.mk (some 9) (.binOp .lss 3 (.tmp 8) (.tmp 7) 3) none]
def r70_3 : List PS := [.mk (some 10) (.move (.tmp 8)) none,
  .mk (some 5) (.assign (.tmp 10)) none]
def r70_4 : List PS := [.mk (some 11) (.move (.tmp 1)) none,
  .mk (some 12) (.move (.tmp 0)) none,
  .mk (some 13) (.move (.tmp 5)) none,
  .mk (some 14) (.indexAddr 23 (.tmp 12) (.tmp 13)) none,
  .mk (some 15) (.load 3 (.tmp 14)) none,
  .mk (some 16) (.call ⟨(.value (.tmp 11)), #[(.tmp 15)], #[3]⟩) none]
def r70_5 : List PS := [.mk (some 17) (.move (.tmp 5)) none,
  .mk (some 4) (.assign (.tmp 17)) none]
def r70_6 : List PS := [.mk (some 18) (.binOp .add 3 (.tmp 8) (.const (.int .i64 1)) 3) none,
  .mk (some 8) (.move (.tmp 18)) none]
def r70_7 : List PS := [.mk (some 4) (.assign (.const (.int .i64 (-1)))) none]
def c70 : PC := (.seq (.reg false r70_0) (.seq (.seq (.reg false r70_1) (.block 0 (.loop (.seq (.reg false r70_2) (.seq (.cond (.tmp 9) .skip (.exit 0)) (.seq (.block 1 (.seq (.reg false r70_3) (.seq (.reg false r70_4) (.cond (.tmp 16) (.seq (.reg false r70_5) .ret) .skip)))) (.reg false r70_6))))))) (.seq (.reg false r70_7) .ret)))
theorem e70 {args : List PV} {h : Heap} {K : PV → Heap → Prop} (hl : args.length = 2) (s : pwp Try.prog [] c70 (fin Try.prog [.tmp 4] h K) (slots0 (olds args)) h) : CanP Try.prog 70 args h K :=
  can_of2 (n := 19) mixed Try.func70 rfl (by kernel_rfl) (by rw [hl]; kernel_rfl) rfl (by kernel_rfl) s
/-! ### slices.ContainsFunc[[]int,int]: function 50 -/
def r50_0 : List PS := [.mk (some 4) (.assign (.const (.bool false))) none]
def r50_1 : List PS := [.mk (some 5) (.move (.tmp 0)) none,
  .mk (some 6) (.move (.tmp 1)) none,
  .mk (some 7) (.call ⟨(.value (.func 70)), #[(.tmp 5), (.tmp 6)], #[23, 70]⟩) none,
  .mk (some 8) (.binOp .geq 3 (.tmp 7) (.const (.int .i64 0)) 3) none,
  .mk (some 4) (.assign (.tmp 8)) none]
def c50 : PC := (.seq (.reg false r50_0) (.seq (.reg false r50_1) .ret))
theorem e50 {args : List PV} {h : Heap} {K : PV → Heap → Prop} (hl : args.length = 2) (s : pwp Try.prog [] c50 (fin Try.prog [.tmp 4] h K) (slots0 (olds args)) h) : CanP Try.prog 50 args h K :=
  can_of2 (n := 9) mixed Try.func50 rfl (by kernel_rfl) (by rw [hl]; kernel_rfl) rfl (by kernel_rfl) s
/-! ### (*naskh.balance.walk).endIsolate$1: function 73 -/
def r73_0 : List PS := [.mk (some 3) (.assign (.const (.bool false))) none]
def r73_1 : List PS := [.mk (some 4) (.load 85 (.tmp 1)) none,
  .mk (some 5) (.nilCheck (.tmp 4)) none,
  .mk (some 6) (.fieldAddr 89 (.tmp 5) 0) none,
  .mk (some 7) (.load 23 (.tmp 6)) none,
  .mk (some 8) (.move (.tmp 0)) none,
  .mk (some 9) (.indexAddr 23 (.tmp 7) (.tmp 8)) none,
  .mk (some 10) (.load 3 (.tmp 9)) none,
  .mk (some 11) (.call ⟨(.value (.func 55)), #[(.tmp 10)], #[3]⟩) none,
  .mk (some 3) (.assign (.tmp 11)) none]
def c73 : PC := (.seq (.reg false r73_0) (.seq (.reg false r73_1) .ret))
theorem e73 {args : List PV} {h : Heap} {K : PV → Heap → Prop} (hl : args.length = 2) (s : pwp Try.prog [] c73 (fin Try.prog [.tmp 3] h K) (slots0 (olds args)) h) : CanP Try.prog 73 args h K :=
  can_of2 (n := 12) mixed Try.func73 rfl (by kernel_rfl) (by rw [hl]; kernel_rfl) rfl (by kernel_rfl) s
/-! ### (*naskh.balance.walk).endIsolate: function 57 -/
def r57_0 : List PS := [.mk (some 2) (.box 85 (.tmp 0)) none]
def r57_1 : List PS := [.mk (some 7) (.load 85 (.tmp 2)) none,
  .mk (some 8) (.nilCheck (.tmp 7)) none,
  .mk (some 9) (.fieldAddr 89 (.tmp 8) 1) none,
  .mk (some 10) (.load 23 (.tmp 9)) none,
  .mk (some 11) (.makeFunc (.func 73) #[] #[(.tmp 2)]) none,
  .mk (some 12) (.call ⟨(.value (.func 50)), #[(.tmp 10), (.tmp 11)], #[23, 70]⟩) none,
  .mk (some 4) (.assign (.tmp 12)) none]
def r57_2 : List PS := [.mk (some 13) (.move (.tmp 4)) none,
  .mk (some 14) (.unOp .not 4 (.tmp 13)) none]
def r57_3 : List PS := [.mk (some 15) (.load 85 (.tmp 2)) none,
  .mk (some 16) (.load 85 (.tmp 2)) none,
  .mk (some 17) (.nilCheck (.tmp 16)) none,
  .mk (some 18) (.fieldAddr 89 (.tmp 17) 3) none,
  .mk (some 19) (.load 23 (.tmp 18)) none,
  .mk (some 20) (.move (.tmp 1)) none,
  .mk (some 21) (.buildSlice 23 1 #[(0, (.tmp 20))]) none,
  .mk (some 22) (.call ⟨(.builtin .append), #[(.tmp 19), (.tmp 21)], #[23, 23]⟩) none,
  .mk (some 23) (.nilCheck (.tmp 15)) none,
  .mk (some 24) (.fieldAddr 89 (.tmp 23) 3) none,
  .mk none (.store 23 (.tmp 24) (.tmp 22)) none]
def r57_4 : List PS := [.mk (some 26) (.load 85 (.tmp 2)) none,
  .mk (some 27) (.call ⟨(.value (.func 71)), #[(.tmp 26)], #[85]⟩) none,
  .mk (some 25) (.move (.tmp 27)) none,
  .mk (some 28) (.extract (.tmp 25) 0) none,
  .mk (some 29) (.extract (.tmp 25) 1) none,
  .mk (some 5) (.assign (.tmp 28)) none,
  .mk (some 6) (.assign (.tmp 29)) none]
def r57_5 : List PS := [.mk (some 30) (.load 85 (.tmp 2)) none,
  .mk (some 31) (.call ⟨(.value (.func 72)), #[(.tmp 30)], #[85]⟩) none]
def r57_6 : List PS := [.mk (some 32) (.load 85 (.tmp 2)) none,
  .mk (some 33) (.nilCheck (.tmp 32)) none,
  .mk (some 34) (.fieldAddr 89 (.tmp 33) 0) none,
  .mk (some 35) (.load 23 (.tmp 34)) none,
  .mk (some 36) (.move (.tmp 5)) none,
  .mk (some 37) (.indexAddr 23 (.tmp 35) (.tmp 36)) none,
  .mk (some 38) (.load 3 (.tmp 37)) none,
  .mk (some 39) (.call ⟨(.value (.func 55)), #[(.tmp 38)], #[3]⟩) none]
def r57_7 : List PS := [.mk (some 40) (.load 85 (.tmp 2)) none,
  .mk (some 41) (.load 85 (.tmp 2)) none,
  .mk (some 42) (.nilCheck (.tmp 41)) none,
  .mk (some 43) (.fieldAddr 89 (.tmp 42) 2) none,
  .mk (some 44) (.load 23 (.tmp 43)) none,
  .mk (some 45) (.move (.tmp 5)) none,
  .mk (some 46) (.buildSlice 23 1 #[(0, (.tmp 45))]) none,
  .mk (some 47) (.call ⟨(.builtin .append), #[(.tmp 44), (.tmp 46)], #[23, 23]⟩) none,
  .mk (some 48) (.nilCheck (.tmp 40)) none,
  .mk (some 49) (.fieldAddr 89 (.tmp 48) 2) none,
  .mk none (.store 23 (.tmp 49) (.tmp 47)) none]
def c57 : PC := (.seq (.reg false r57_0) (.seq (.reg false r57_1) (.seq (.seq (.reg false r57_2) (.cond (.tmp 14) (.seq (.reg true r57_3) .ret) .skip)) (.block 0 (.loop (.block 1 (.seq (.reg false r57_4) (.seq (.reg false r57_5) (.seq (.seq (.reg false r57_6) (.cond (.tmp 39) .ret .skip)) (.reg true r57_7))))))))))
theorem e57 {args : List PV} {h : Heap} {K : PV → Heap → Prop} (hl : args.length = 2) (s : pwp Try.prog [15, 40] c57 (fin Try.prog [] h K) (slots0 (olds args)) h) : CanP Try.prog 57 args h K :=
  can_of2 (n := 50) mixed Try.func57 rfl (by kernel_rfl) (by rw [hl]; kernel_rfl) rfl (by kernel_rfl) s
/-! ### naskh.balance.walked: function 41 -/
def r41_0 : List PS := [.mk (some 2) (.assign (.const (.pointer none))) none]
def r41_1 : List PS := [.mk (some 6) (.move (.tmp 0)) none,
  .mk (some 7) (.build 89 #[(0, (.tmp 6))]) none,
  .mk (some 8) (.box 89 (.tmp 7)) none,
  .mk (some 3) (.assign (.tmp 8)) none]
def r41_2 : List PS := [.mk (some 9) (.move (.tmp 0)) none,
  .mk (some 10) (.call ⟨(.builtin .len), #[(.tmp 9)], #[23]⟩) none,
  .mk (some 11) (.move (.const (.int .i64 0))) none]
def r41_3 : List PS := [.mk (some 12) (.binOp .lss 3 (.tmp 11) (.tmp 10) 3) none]
def r41_4 : List PS := [.mk (some 13) (.move (.tmp 11)) none,
  .mk (some 14) (.indexAddr 23 (.tmp 9) (.tmp 11)) none,
  .mk (some 15) (.load 3 (.tmp 14)) none,
  .mk (some 4) (.assign (.tmp 13)) none,
  .mk (some 5) (.assign (.tmp 15)) none]
def r41_5 : List PS := [.mk (some 17) (.move (.tmp 5)) none,
  .mk (some 18) (.call ⟨(.value (.func 54)), #[(.tmp 17)], #[3]⟩) none,
  .mk (some 16) (.assign (.tmp 18)) none]
def r41_6 : List PS := [.mk (some 19) (.move (.tmp 5)) none,
  .mk (some 20) (.call ⟨(.value (.func 55)), #[(.tmp 19)], #[3]⟩) none,
  .mk (some 16) (.assign (.tmp 20)) none]
def r41_7 : List PS := [.mk (some 21) (.move (.tmp 3)) none,
  .mk (some 22) (.move (.tmp 3)) none,
  .mk (some 23) (.nilCheck (.tmp 22)) none,
  .mk (some 24) (.fieldAddr 89 (.tmp 23) 1) none,
  .mk (some 25) (.load 23 (.tmp 24)) none,
  .mk (some 26) (.move (.tmp 4)) none,
  .mk (some 27) (.buildSlice 23 1 #[(0, (.tmp 26))]) none,
  .mk (some 28) (.call ⟨(.builtin .append), #[(.tmp 25), (.tmp 27)], #[23, 23]⟩) none,
  .mk (some 29) (.nilCheck (.tmp 21)) none,
  .mk (some 30) (.fieldAddr 89 (.tmp 29) 1) none,
  .mk none (.store 23 (.tmp 30) (.tmp 28)) none]
def r41_8 : List PS := [.mk (some 32) (.move (.tmp 5)) none,
  .mk (some 33) (.binOp .eql 3 (.tmp 32) (.const (.int .i64 18)) 3) none,
  .mk (some 31) (.assign (.tmp 33)) none]
def r41_9 : List PS := [.mk (some 34) (.move (.tmp 3)) none,
  .mk (some 35) (.move (.tmp 4)) none,
  .mk (some 36) (.call ⟨(.value (.func 56)), #[(.tmp 34), (.tmp 35)], #[85, 3]⟩) none]
def r41_10 : List PS := [.mk (some 38) (.move (.tmp 5)) none,
  .mk (some 39) (.binOp .eql 3 (.tmp 38) (.const (.int .i64 22)) 3) none,
  .mk (some 37) (.assign (.tmp 39)) none]
def r41_11 : List PS := [.mk (some 40) (.move (.tmp 3)) none,
  .mk (some 41) (.move (.tmp 4)) none,
  .mk (some 42) (.call ⟨(.value (.func 57)), #[(.tmp 40), (.tmp 41)], #[85, 3]⟩) none]
def r41_12 : List PS := [.mk (some 43) (.binOp .add 3 (.tmp 11) (.const (.int .i64 1)) 3) none,
  .mk (some 11) (.move (.tmp 43)) none]
def r41_13 : List PS := [.mk (some 44) (.move (.tmp 3)) none,
  .mk (some 2) (.assign (.tmp 44)) none]
def c41 : PC := (.seq (.reg false r41_0) (.seq (.reg false r41_1) (.seq (.seq (.reg false r41_2) (.block 0 (.loop (.seq (.reg false r41_3) (.seq (.cond (.tmp 12) .skip (.exit 0)) (.seq (.block 1 (.seq (.reg false r41_4) (.block 2 (.seq (.seq (.reg false r41_5) (.cond (.tmp 16) .skip (.reg false r41_6))) (.cond (.tmp 16) (.reg false r41_7) (.seq (.reg false r41_8) (.cond (.tmp 31) (.reg false r41_9) (.seq (.reg false r41_10) (.cond (.tmp 37) (.reg false r41_11) .skip))))))))) (.reg false r41_12))))))) (.seq (.reg false r41_13) .ret))))
theorem e41 {args : List PV} {h : Heap} {K : PV → Heap → Prop} (hl : args.length = 1) (s : pwp Try.prog [8] c41 (fin Try.prog [.tmp 2] h K) (slots0 (olds args)) h) : CanP Try.prog 41 args h K :=
  can_of2 (n := 45) mixed Try.func41 rfl (by kernel_rfl) (by rw [hl]; kernel_rfl) rfl (by kernel_rfl) s
/-! ### slices.Grow[[]int,int]: function 58 -/
def r58_0 : List PS := [.mk (some 4) (.assign (.const (.slice none 0 0))) none]
def r58_1 : List PS := [.mk (some 5) (.move (.tmp 1)) none,
  .mk (some 6) (.binOp .lss 3 (.tmp 5) (.const (.int .i64 0)) 3) none]
def r58_2 : List PS := [.mk (some 7) (.makeInterface 9 (.const (.string ⟨#[99, 97, 110, 110, 111, 116, 32, 98, 101, 32, 110, 101, 103, 97, 116, 105, 118, 101]⟩))) none,
  .mk none (.panic (.tmp 7)) none]
def r58_3 : List PS := [.mk (some 8) (.move (.tmp 1)) none,
  .mk (some 9) (.move (.tmp 0)) none,
  .mk (some 10) (.call ⟨(.builtin .cap), #[(.tmp 9)], #[23]⟩) none,
  .mk (some 11) (.move (.tmp 0)) none,
  .mk (some 12) (.call ⟨(.builtin .len), #[(.tmp 11)], #[23]⟩) none,
  .mk (some 13) (.binOp .sub 3 (.tmp 10) (.tmp 12) 3) none,
  .mk (some 14) (.binOp .sub 3 (.tmp 8) (.tmp 13) 3) none,
  .mk (some 1) (.assign (.tmp 14)) none]
def r58_4 : List PS := [.mk (some 15) (.move (.tmp 1)) none,
  .mk (some 16) (.binOp .gtr 3 (.tmp 15) (.const (.int .i64 0)) 3) none]
def r58_5 : List PS := [.mk (some 17) (.move (.tmp 0)) none,
  .mk (some 18) (.move (.tmp 0)) none,
  .mk (some 19) (.call ⟨(.builtin .cap), #[(.tmp 18)], #[23]⟩) none,
  .mk (some 20) (.slice 23 (.tmp 17) none (some (.tmp 19)) none) none,
  .mk (some 21) (.move (.tmp 1)) none,
  .mk (some 22) (.call ⟨(.builtin .append), #[(.tmp 20), (.tmp 21)], #[23, 3]⟩) none,
  .mk (some 23) (.move (.tmp 0)) none,
  .mk (some 24) (.call ⟨(.builtin .len), #[(.tmp 23)], #[23]⟩) none,
  .mk (some 25) (.slice 23 (.tmp 22) none (some (.tmp 24)) none) none,
  .mk (some 0) (.assign (.tmp 25)) none]
def r58_6 : List PS := [.mk (some 26) (.move (.tmp 0)) none,
  .mk (some 4) (.assign (.tmp 26)) none]
def c58 : PC := (.seq (.reg false r58_0) (.seq (.seq (.reg false r58_1) (.cond (.tmp 6) (.reg false r58_2) .skip)) (.seq (.seq (.reg false r58_3) (.seq (.reg false r58_4) (.cond (.tmp 16) (.reg false r58_5) .skip))) (.seq (.reg false r58_6) .ret))))
theorem e58 {args : List PV} {h : Heap} {K : PV → Heap → Prop} (hl : args.length = 2) (s : pwp Try.prog [] c58 (fin Try.prog [.tmp 4] h K) (slots0 (olds args)) h) : CanP Try.prog 58 args h K :=
  can_of2 (n := 27) mixed Try.func58 rfl (by kernel_rfl) (by rw [hl]; kernel_rfl) rfl (by kernel_rfl) s
/-! ### slices.Concat[[]int,int]: function 42 -/
def r42_0 : List PS := [.mk (some 2) (.assign (.const (.slice none 0 0))) none]
def r42_1 : List PS := [.mk (some 3) (.assign (.const (.int .i64 0))) none]
def r42_2 : List PS := [.mk (some 9) (.move (.tmp 0)) none,
  .mk (some 10) (.call ⟨(.builtin .len), #[(.tmp 9)], #[102]⟩) none,
  .mk (some 11) (.move (.const (.int .i64 0))) none]
def r42_3 : List PS := [.mk (some 12) (.binOp .lss 3 (.tmp 11) (.tmp 10) 3) none]
def r42_4 : List PS := [.mk (some 13) (.indexAddr 102 (.tmp 9) (.tmp 11)) none,
  .mk (some 14) (.load 23 (.tmp 13)) none,
  .mk (some 5) (.assign (.tmp 14)) none]
def r42_5 : List PS := [.mk (some 15) (.move (.tmp 3)) none,
  .mk (some 16) (.move (.tmp 5)) none,
  .mk (some 17) (.call ⟨(.builtin .len), #[(.tmp 16)], #[23]⟩) none,
  .mk (some 18) (.binOp .add 3 (.tmp 15) (.tmp 17) 3) none,
  .mk (some 3) (.assign (.tmp 18)) none]
def r42_6 : List PS := [.mk (some 19) (.move (.tmp 3)) none,
  .mk (some 20) (.binOp .lss 3 (.tmp 19) (.const (.int .i64 0)) 3) none]
def r42_7 : List PS := [.mk (some 21) (.makeInterface 9 (.const (.string ⟨#[108, 101, 110, 32, 111, 117, 116, 32, 111, 102, 32, 114, 97, 110, 103, 101]⟩))) none,
  .mk none (.panic (.tmp 21)) none]
def r42_8 : List PS := [.mk (some 22) (.binOp .add 3 (.tmp 11) (.const (.int .i64 1)) 3) none,
  .mk (some 11) (.move (.tmp 22)) none]
def r42_9 : List PS := [.mk (some 23) (.move (.tmp 3)) none,
  .mk (some 24) (.call ⟨(.value (.func 58)), #[(.const (.slice none 0 0)), (.tmp 23)], #[23, 3]⟩) none,
  .mk (some 6) (.assign (.tmp 24)) none]
def r42_10 : List PS := [.mk (some 25) (.move (.tmp 0)) none,
  .mk (some 26) (.call ⟨(.builtin .len), #[(.tmp 25)], #[102]⟩) none,
  .mk (some 27) (.move (.const (.int .i64 0))) none]
def r42_11 : List PS := [.mk (some 28) (.binOp .lss 3 (.tmp 27) (.tmp 26) 3) none]
def r42_12 : List PS := [.mk (some 29) (.indexAddr 102 (.tmp 25) (.tmp 27)) none,
  .mk (some 30) (.load 23 (.tmp 29)) none,
  .mk (some 8) (.assign (.tmp 30)) none]
def r42_13 : List PS := [.mk (some 31) (.move (.tmp 6)) none,
  .mk (some 32) (.move (.tmp 8)) none,
  .mk (some 33) (.call ⟨(.builtin .append), #[(.tmp 31), (.tmp 32)], #[23, 23]⟩) none,
  .mk (some 6) (.assign (.tmp 33)) none]
def r42_14 : List PS := [.mk (some 34) (.binOp .add 3 (.tmp 27) (.const (.int .i64 1)) 3) none,
  .mk (some 27) (.move (.tmp 34)) none]
def r42_15 : List PS := [.mk (some 35) (.move (.tmp 6)) none,
  .mk (some 2) (.assign (.tmp 35)) none]
def c42 : PC := (.seq (.reg false r42_0) (.seq (.reg false r42_1) (.seq (.seq (.reg false r42_2) (.block 0 (.loop (.seq (.reg false r42_3) (.seq (.cond (.tmp 12) .skip (.exit 0)) (.seq (.block 1 (.seq (.reg false r42_4) (.seq (.reg false r42_5) (.seq (.reg false r42_6) (.cond (.tmp 20) (.reg false r42_7) .skip))))) (.reg false r42_8))))))) (.seq (.reg false r42_9) (.seq (.seq (.reg false r42_10) (.block 2 (.loop (.seq (.reg false r42_11) (.seq (.cond (.tmp 28) .skip (.exit 2)) (.seq (.block 3 (.seq (.reg false r42_12) (.reg false r42_13))) (.reg false r42_14))))))) (.seq (.reg false r42_15) .ret))))))
theorem e42 {args : List PV} {h : Heap} {K : PV → Heap → Prop} (hl : args.length = 1) (s : pwp Try.prog [] c42 (fin Try.prog [.tmp 2] h K) (slots0 (olds args)) h) : CanP Try.prog 42 args h K :=
  can_of2 (n := 36) mixed Try.func42 rfl (by kernel_rfl) (by rw [hl]; kernel_rfl) rfl (by kernel_rfl) s
/-! ### cmp.isNaN[int]: function 84 -/
def r84_0 : List PS := [.mk (some 2) (.assign (.const (.bool false))) none]
def r84_1 : List PS := [.mk (some 3) (.move (.tmp 0)) none,
  .mk (some 4) (.move (.tmp 0)) none,
  .mk (some 5) (.binOp .neq 3 (.tmp 3) (.tmp 4) 3) none,
  .mk (some 2) (.assign (.tmp 5)) none]
def c84 : PC := (.seq (.reg false r84_0) (.seq (.reg false r84_1) .ret))
theorem e84 {args : List PV} {h : Heap} {K : PV → Heap → Prop} (hl : args.length = 1) (s : pwp Try.prog [] c84 (fin Try.prog [.tmp 2] h K) (slots0 (olds args)) h) : CanP Try.prog 84 args h K :=
  can_of2 (n := 6) mixed Try.func84 rfl (by kernel_rfl) (by rw [hl]; kernel_rfl) rfl (by kernel_rfl) s
/-! ### cmp.Less[int]: function 61 -/
def r61_0 : List PS := [.mk (some 4) (.assign (.const (.bool false))) none]
def r61_1 : List PS := [.mk (some 5) (.move (.tmp 0)) none,
  .mk (some 6) (.call ⟨(.value (.func 84)), #[(.tmp 5)], #[3]⟩) none,
  .mk (some 7) (.move (.tmp 6)) none,
  .mk (some 8) (.move (.tmp 1)) (some (7, true)),
  .mk (some 9) (.call ⟨(.value (.func 84)), #[(.tmp 8)], #[3]⟩) (some (7, true)),
  .mk (some 10) (.unOp .not 4 (.tmp 9)) (some (7, true)),
  .mk (some 11) (.pick (.tmp 7) (.tmp 10) (.const (.bool false))) none,
  .mk (some 12) (.move (.tmp 11)) none,
  .mk (some 13) (.move (.tmp 0)) (some (12, false)),
  .mk (some 14) (.move (.tmp 1)) (some (12, false)),
  .mk (some 15) (.binOp .lss 3 (.tmp 13) (.tmp 14) 3) (some (12, false)),
  .mk (some 16) (.pick (.tmp 12) (.const (.bool true)) (.tmp 15)) none,
  .mk (some 4) (.assign (.tmp 16)) none]
def c61 : PC := (.seq (.reg false r61_0) (.seq (.reg false r61_1) .ret))
theorem e61 {args : List PV} {h : Heap} {K : PV → Heap → Prop} (hl : args.length = 2) (s : pwp Try.prog [] c61 (fin Try.prog [.tmp 4] h K) (slots0 (olds args)) h) : CanP Try.prog 61 args h K :=
  can_of2 (n := 17) mixed Try.func61 rfl (by kernel_rfl) (by rw [hl]; kernel_rfl) rfl (by kernel_rfl) s
/-! ### slices.Sort[[]int,int]: function 43 -/
def r43_0 : List PS := [.mk (some 3) (.move (.tmp 0)) none,
  .mk (some 4) (.call ⟨(.builtin .len), #[(.tmp 3)], #[23]⟩) none,
  .mk (some 2) (.assign (.tmp 4)) none]
def r43_1 : List PS := [.mk (some 5) (.move (.tmp 0)) none,
  .mk (some 6) (.move (.tmp 2)) none,
  .mk (some 7) (.move (.tmp 2)) none,
  .mk (some 8) (.convert 3 106 (.tmp 7)) none,
  .mk (some 9) (.call ⟨(.value (.func 60)), #[(.tmp 8)], #[106]⟩) none,
  .mk (some 10) (.call ⟨(.value (.func 59)), #[(.tmp 5), (.const (.int .i64 0)), (.tmp 6), (.tmp 9)], #[23, 3, 3, 3]⟩) none]
def c43 : PC := (.seq (.reg false r43_0) (.reg false r43_1))
theorem e43 {args : List PV} {h : Heap} {K : PV → Heap → Prop} (hl : args.length = 1) (s : pwp Try.prog [] c43 (fin Try.prog [] h K) (slots0 (olds args)) h) : CanP Try.prog 43 args h K :=
  can_of2 (n := 11) mixed Try.func43 rfl (by kernel_rfl) (by rw [hl]; kernel_rfl) rfl (by kernel_rfl) s
/-! ### naskh.balance.Open: function 25 -/
def r25_0 : List PS := [.mk (some 2) (.assign (.const (.slice none 0 0))) none]
def r25_1 : List PS := [.mk (some 5) (.move (.tmp 0)) none,
  .mk (some 6) (.call ⟨(.value (.func 41)), #[(.tmp 5)], #[23]⟩) none,
  .mk (some 3) (.assign (.tmp 6)) none]
def r25_2 : List PS := [.mk (some 7) (.move (.tmp 3)) none,
  .mk (some 8) (.nilCheck (.tmp 7)) none,
  .mk (some 9) (.fieldAddr 89 (.tmp 8) 1) none,
  .mk (some 10) (.load 23 (.tmp 9)) none,
  .mk (some 11) (.move (.tmp 3)) none,
  .mk (some 12) (.nilCheck (.tmp 11)) none,
  .mk (some 13) (.fieldAddr 89 (.tmp 12) 2) none,
  .mk (some 14) (.load 23 (.tmp 13)) none,
  .mk (some 15) (.buildSlice 102 2 #[(0, (.tmp 10)), (1, (.tmp 14))]) none,
  .mk (some 16) (.call ⟨(.value (.func 42)), #[(.tmp 15)], #[102]⟩) none,
  .mk (some 4) (.assign (.tmp 16)) none]
def r25_3 : List PS := [.mk (some 17) (.move (.tmp 4)) none,
  .mk (some 18) (.call ⟨(.value (.func 43)), #[(.tmp 17)], #[23]⟩) none]
def r25_4 : List PS := [.mk (some 19) (.move (.tmp 4)) none,
  .mk (some 2) (.assign (.tmp 19)) none]
def c25 : PC := (.seq (.reg false r25_0) (.seq (.reg false r25_1) (.seq (.reg true r25_2) (.seq (.reg false r25_3) (.seq (.reg false r25_4) .ret)))))
theorem e25 {args : List PV} {h : Heap} {K : PV → Heap → Prop} (hl : args.length = 1) (s : pwp Try.prog [16] c25 (fin Try.prog [.tmp 2] h K) (slots0 (olds args)) h) : CanP Try.prog 25 args h K :=
  can_of2 (n := 20) mixed Try.func25 rfl (by kernel_rfl) (by rw [hl]; kernel_rfl) rfl (by kernel_rfl) s
/-! ### naskh.balance.Loose: function 26 -/
def r26_0 : List PS := [.mk (some 2) (.assign (.const (.slice none 0 0))) none]
def r26_1 : List PS := [.mk (some 3) (.move (.tmp 0)) none,
  .mk (some 4) (.call ⟨(.value (.func 41)), #[(.tmp 3)], #[23]⟩) none,
  .mk (some 5) (.nilCheck (.tmp 4)) none,
  .mk (some 6) (.fieldAddr 89 (.tmp 5) 3) none,
  .mk (some 7) (.load 23 (.tmp 6)) none,
  .mk (some 2) (.assign (.tmp 7)) none]
def c26 : PC := (.seq (.reg false r26_0) (.seq (.reg false r26_1) .ret))
theorem e26 {args : List PV} {h : Heap} {K : PV → Heap → Prop} (hl : args.length = 1) (s : pwp Try.prog [] c26 (fin Try.prog [.tmp 2] h K) (slots0 (olds args)) h) : CanP Try.prog 26 args h K :=
  can_of2 (n := 8) mixed Try.func26 rfl (by kernel_rfl) (by rw [hl]; kernel_rfl) rfl (by kernel_rfl) s
/-! ### (*naskh.lint.text).part: function 16 -/
def r16_0 : List PS := [.mk (some 3) (.box 47 (.tmp 1)) none,
  .mk (some 4) (.assign (.const (.pointer none))) none]
def r16_1 : List PS := [.mk (some 6) (.move (.tmp 0)) none,
  .mk (some 7) (.nilCheck (.tmp 6)) none,
  .mk (some 8) (.fieldAddr 43 (.tmp 7) 0) none,
  .mk (some 9) (.load 34 (.tmp 8)) none,
  .mk (some 10) (.move (.tmp 0)) none,
  .mk (some 11) (.nilCheck (.tmp 10)) none,
  .mk (some 12) (.fieldAddr 43 (.tmp 11) 2) none,
  .mk (some 13) (.load 23 (.tmp 12)) none,
  .mk (some 14) (.fieldAddr 47 (.tmp 3) 0) none,
  .mk (some 15) (.load 3 (.tmp 14)) none,
  .mk (some 16) (.fieldAddr 47 (.tmp 3) 1) none,
  .mk (some 17) (.load 3 (.tmp 16)) none,
  .mk (some 18) (.slice 23 (.tmp 13) (some (.tmp 15)) (some (.tmp 17)) none) none,
  .mk (some 19) (.call ⟨(.value (.func 24)), #[(.tmp 9), (.tmp 18)], #[34, 23]⟩) none,
  .mk (some 5) (.assign (.tmp 19)) none]
def r16_2 : List PS := [.mk (some 20) (.move (.tmp 0)) none,
  .mk (some 21) (.load 47 (.tmp 3)) none,
  .mk (some 22) (.move (.tmp 5)) none,
  .mk (some 23) (.call ⟨(.value (.func 25)), #[(.tmp 22)], #[23]⟩) none,
  .mk (some 24) (.move (.tmp 5)) none,
  .mk (some 25) (.call ⟨(.value (.func 26)), #[(.tmp 24)], #[23]⟩) none,
  .mk (some 26) (.build 69 #[(0, (.tmp 20)), (1, (.tmp 21)), (2, (.tmp 23)), (3, (.tmp 25))]) none,
  .mk (some 27) (.box 69 (.tmp 26)) none,
  .mk (some 4) (.assign (.tmp 27)) none]
def c16 : PC := (.seq (.reg false r16_0) (.seq (.reg true r16_1) (.seq (.reg true r16_2) .ret)))
theorem e16 {args : List PV} {h : Heap} {K : PV → Heap → Prop} (hl : args.length = 2) (s : pwp Try.prog [] c16 (fin Try.prog [.tmp 4] h K) (slots0 (olds args)) h) : CanP Try.prog 16 args h K :=
  can_of2 (n := 28) mixed Try.func16 rfl (by kernel_rfl) (by rw [hl]; kernel_rfl) rfl (by kernel_rfl) s
/-! ### (*naskh.lint.text).ill: function 27 -/
def r27_0 : List PS := [.mk (some 4) (.assign (.const (.bool false))) none]
def r27_1 : List PS := [.mk (some 5) (.move (.tmp 0)) none,
  .mk (some 6) (.nilCheck (.tmp 5)) none,
  .mk (some 7) (.fieldAddr 43 (.tmp 6) 2) none,
  .mk (some 8) (.load 23 (.tmp 7)) none,
  .mk (some 9) (.move (.tmp 1)) none,
  .mk (some 10) (.indexAddr 23 (.tmp 8) (.tmp 9)) none,
  .mk (some 11) (.load 3 (.tmp 10)) none,
  .mk (some 12) (.binOp .lss 3 (.tmp 11) (.const (.int .i64 0)) 3) none,
  .mk (some 13) (.move (.tmp 12)) none,
  .mk (some 14) (.move (.tmp 0)) (some (13, false)),
  .mk (some 15) (.nilCheck (.tmp 14)) (some (13, false)),
  .mk (some 16) (.fieldAddr 43 (.tmp 15) 2) (some (13, false)),
  .mk (some 17) (.load 23 (.tmp 16)) (some (13, false)),
  .mk (some 18) (.move (.tmp 1)) (some (13, false)),
  .mk (some 19) (.indexAddr 23 (.tmp 17) (.tmp 18)) (some (13, false)),
  .mk (some 20) (.load 3 (.tmp 19)) (some (13, false)),
  .mk (some 21) (.binOp .gtr 3 (.tmp 20) (.const (.int .i64 1114111)) 3) (some (13, false)),
  .mk (some 22) (.pick (.tmp 13) (.const (.bool true)) (.tmp 21)) none,
  .mk (some 4) (.assign (.tmp 22)) none]
def c27 : PC := (.seq (.reg false r27_0) (.seq (.reg false r27_1) .ret))
theorem e27 {args : List PV} {h : Heap} {K : PV → Heap → Prop} (hl : args.length = 2) (s : pwp Try.prog [] c27 (fin Try.prog [.tmp 4] h K) (slots0 (olds args)) h) : CanP Try.prog 27 args h K :=
  can_of2 (n := 23) mixed Try.func27 rfl (by kernel_rfl) (by rw [hl]; kernel_rfl) rfl (by kernel_rfl) s
/-! ### slices.isNaN[int]: function 62 -/
def r62_0 : List PS := [.mk (some 2) (.assign (.const (.bool false))) none]
def r62_1 : List PS := [.mk (some 3) (.move (.tmp 0)) none,
  .mk (some 4) (.move (.tmp 0)) none,
  .mk (some 5) (.binOp .neq 3 (.tmp 3) (.tmp 4) 3) none,
  .mk (some 2) (.assign (.tmp 5)) none]
def c62 : PC := (.seq (.reg false r62_0) (.seq (.reg false r62_1) .ret))
theorem e62 {args : List PV} {h : Heap} {K : PV → Heap → Prop} (hl : args.length = 1) (s : pwp Try.prog [] c62 (fin Try.prog [.tmp 2] h K) (slots0 (olds args)) h) : CanP Try.prog 62 args h K :=
  can_of2 (n := 6) mixed Try.func62 rfl (by kernel_rfl) (by rw [hl]; kernel_rfl) rfl (by kernel_rfl) s
/-! ### slices.BinarySearch[[]int,int]: function 44 -/
def r44_0 : List PS := [.mk (some 4) (.assign (.const (.int .i64 0))) none,
  .mk (some 5) (.assign (.const (.bool false))) none]
def r44_1 : List PS := [.mk (some 10) (.move (.tmp 0)) none,
  .mk (some 11) (.call ⟨(.builtin .len), #[(.tmp 10)], #[23]⟩) none,
  .mk (some 6) (.assign (.tmp 11)) none]
def r44_2 : List PS := [.mk (some 12) (.move (.tmp 6)) none,
  .mk (some 7) (.assign (.const (.int .i64 0))) none,
  .mk (some 8) (.assign (.tmp 12)) none]
def r44_3 : List PS := [.mk (some 13) (.move (.tmp 7)) none,
  .mk (some 14) (.move (.tmp 8)) none,
  .mk (some 15) (.binOp .lss 3 (.tmp 13) (.tmp 14) 3) none]
def r44_4 : List PS := [.mk (some 16) (.move (.tmp 7)) none,
  .mk (some 17) (.move (.tmp 8)) none,
  .mk (some 18) (.binOp .add 3 (.tmp 16) (.tmp 17) 3) none,
  .mk (some 19) (.convert 3 106 (.tmp 18)) none,
  .mk (some 20) (.binOp .shr 106 (.tmp 19) (.const (.int .u64 1)) 106) none,
  .mk (some 21) (.convert 106 3 (.tmp 20)) none,
  .mk (some 9) (.assign (.tmp 21)) none]
def r44_5 : List PS := [.mk (some 22) (.move (.tmp 0)) none,
  .mk (some 23) (.move (.tmp 9)) none,
  .mk (some 24) (.indexAddr 23 (.tmp 22) (.tmp 23)) none,
  .mk (some 25) (.load 3 (.tmp 24)) none,
  .mk (some 26) (.move (.tmp 1)) none,
  .mk (some 27) (.call ⟨(.value (.func 61)), #[(.tmp 25), (.tmp 26)], #[3, 3]⟩) none]
def r44_6 : List PS := [.mk (some 28) (.move (.tmp 9)) none,
  .mk (some 29) (.binOp .add 3 (.tmp 28) (.const (.int .i64 1)) 3) none,
  .mk (some 7) (.assign (.tmp 29)) none]
def r44_7 : List PS := [.mk (some 30) (.move (.tmp 9)) none,
  .mk (some 8) (.assign (.tmp 30)) none]
def r44_8 : List PS := [.mk (some 31) (.move (.tmp 7)) none,
  .mk (some 32) (.move (.tmp 7)) none,
  .mk (some 33) (.move (.tmp 6)) none,
  .mk (some 34) (.binOp .lss 3 (.tmp 32) (.tmp 33) 3) none,
  .mk (some 35) (.move (.tmp 34)) none,
  .mk (some 36) (.move (.tmp 0)) (some (35, true)),
  .mk (some 37) (.move (.tmp 7)) (some (35, true)),
  .mk (some 38) (.indexAddr 23 (.tmp 36) (.tmp 37)) (some (35, true)),
  .mk (some 39) (.load 3 (.tmp 38)) (some (35, true)),
  .mk (some 40) (.move (.tmp 1)) (some (35, true)),
  .mk (some 41) (.binOp .eql 3 (.tmp 39) (.tmp 40) 3) (some (35, true)),
  .mk (some 42) (.move (.tmp 41)) (some (35, true)),
  .mk (some 43) (.move (.tmp 0)) (some (42, false)),
  .mk (some 44) (.move (.tmp 7)) (some (42, false)),
  .mk (some 45) (.indexAddr 23 (.tmp 43) (.tmp 44)) (some (42, false)),
  .mk (some 46) (.load 3 (.tmp 45)) (some (42, false)),
  .mk (some 47) (.call ⟨(.value (.func 62)), #[(.tmp 46)], #[3]⟩) (some (42, false)),
  .mk (some 48) (.move (.tmp 47)) (some (42, false)),
  .mk (some 49) (.move (.tmp 1)) (some (48, true)),
  .mk (some 50) (.call ⟨(.value (.func 62)), #[(.tmp 49)], #[3]⟩) (some (48, true)),
  .mk (some 51) (.pick (.tmp 48) (.tmp 50) (.const (.bool false))) (some (42, false)),
  .mk (some 52) (.pick (.tmp 42) (.const (.bool true)) (.tmp 51)) (some (35, true)),
  .mk (some 53) (.pick (.tmp 35) (.tmp 52) (.const (.bool false))) none,
  .mk (some 4) (.assign (.tmp 31)) none,
  .mk (some 5) (.assign (.tmp 53)) none]
def c44 : PC := (.seq (.reg false r44_0) (.seq (.reg false r44_1) (.seq (.reg false r44_2) (.seq (.block 0 (.loop (.seq (.seq (.reg false r44_3) (.cond (.tmp 15) .skip (.exit 0))) (.block 1 (.seq (.reg false r44_4) (.seq (.reg false r44_5) (.cond (.tmp 27) (.reg false r44_6) (.reg false r44_7)))))))) (.seq (.reg false r44_8) .ret)))))
theorem e44 {args : List PV} {h : Heap} {K : PV → Heap → Prop} (hl : args.length = 2) (s : pwp Try.prog [] c44 (fin Try.prog [.tmp 4, .tmp 5] h K) (slots0 (olds args)) h) : CanP Try.prog 44 args h K :=
  can_of2 (n := 54) mixed Try.func44 rfl (by kernel_rfl) (by rw [hl]; kernel_rfl) rfl (by kernel_rfl) s
/-! ### (*naskh.lint.part).told: function 28 -/
def r28_0 : List PS := [.mk (some 6) (.assign (.const (.bool false))) none]
def r28_1 : List PS := [.mk (some 10) (.move (.tmp 1)) none,
  .mk (some 11) (.move (.tmp 2)) none,
  .mk (some 12) (.move (.tmp 0)) none,
  .mk (some 13) (.nilCheck (.tmp 12)) none,
  .mk (some 14) (.fieldAddr 69 (.tmp 13) 1) none,
  .mk (some 15) (.fieldAddr 47 (.tmp 14) 0) none,
  .mk (some 16) (.load 3 (.tmp 15)) none,
  .mk (some 17) (.binOp .sub 3 (.tmp 11) (.tmp 16) 3) none,
  .mk (some 18) (.call ⟨(.value (.func 44)), #[(.tmp 10), (.tmp 17)], #[23, 3]⟩) none,
  .mk (some 9) (.move (.tmp 18)) none,
  .mk (some 19) (.extract (.tmp 9) 0) none,
  .mk (some 20) (.extract (.tmp 9) 1) none,
  .mk (some 7) (.assign (.tmp 19)) none,
  .mk (some 8) (.assign (.tmp 20)) none]
def r28_2 : List PS := [.mk (some 21) (.move (.tmp 8)) none,
  .mk (some 6) (.assign (.tmp 21)) none]
def c28 : PC := (.seq (.reg false r28_0) (.seq (.reg false r28_1) (.seq (.reg false r28_2) .ret)))
theorem e28 {args : List PV} {h : Heap} {K : PV → Heap → Prop} (hl : args.length = 3) (s : pwp Try.prog [] c28 (fin Try.prog [.tmp 6] h K) (slots0 (olds args)) h) : CanP Try.prog 28 args h K :=
  can_of2 (n := 22) mixed Try.func28 rfl (by kernel_rfl) (by rw [hl]; kernel_rfl) rfl (by kernel_rfl) s
/-! ### naskh.api.Letters: function 95 -/
def r95_0 : List PS := [.mk (some 0) (.assign (.const (.slice none 0 0))) none]
def r95_1 : List PS := [.mk (some 1) (.build 154 #[(0, (.const (.int .i64 65152))), (1, (.const (.int .i64 0))), (2, (.const (.int .i64 0))), (3, (.const (.int .i64 0)))]) none,
  .mk (some 2) (.build 156 #[(0, (.const (.int .i64 1569))), (1, (.tmp 1))]) none,
  .mk (some 3) (.build 154 #[(0, (.const (.int .i64 65153))), (1, (.const (.int .i64 65154))), (2, (.const (.int .i64 0))), (3, (.const (.int .i64 0)))]) none,
  .mk (some 4) (.build 156 #[(0, (.const (.int .i64 1570))), (1, (.tmp 3))]) none,
  .mk (some 5) (.build 154 #[(0, (.const (.int .i64 65155))), (1, (.const (.int .i64 65156))), (2, (.const (.int .i64 0))), (3, (.const (.int .i64 0)))]) none,
  .mk (some 6) (.build 156 #[(0, (.const (.int .i64 1571))), (1, (.tmp 5))]) none,
  .mk (some 7) (.build 154 #[(0, (.const (.int .i64 65157))), (1, (.const (.int .i64 65158))), (2, (.const (.int .i64 0))), (3, (.const (.int .i64 0)))]) none,
  .mk (some 8) (.build 156 #[(0, (.const (.int .i64 1572))), (1, (.tmp 7))]) none,
  .mk (some 9) (.build 154 #[(0, (.const (.int .i64 65159))), (1, (.const (.int .i64 65160))), (2, (.const (.int .i64 0))), (3, (.const (.int .i64 0)))]) none,
  .mk (some 10) (.build 156 #[(0, (.const (.int .i64 1573))), (1, (.tmp 9))]) none,
  .mk (some 11) (.build 154 #[(0, (.const (.int .i64 65161))), (1, (.const (.int .i64 65162))), (2, (.const (.int .i64 65163))), (3, (.const (.int .i64 65164)))]) none,
  .mk (some 12) (.build 156 #[(0, (.const (.int .i64 1574))), (1, (.tmp 11))]) none,
  .mk (some 13) (.build 154 #[(0, (.const (.int .i64 65165))), (1, (.const (.int .i64 65166))), (2, (.const (.int .i64 0))), (3, (.const (.int .i64 0)))]) none,
  .mk (some 14) (.build 156 #[(0, (.const (.int .i64 1575))), (1, (.tmp 13))]) none,
  .mk (some 15) (.build 154 #[(0, (.const (.int .i64 65167))), (1, (.const (.int .i64 65168))), (2, (.const (.int .i64 65169))), (3, (.const (.int .i64 65170)))]) none,
  .mk (some 16) (.build 156 #[(0, (.const (.int .i64 1576))), (1, (.tmp 15))]) none,
  .mk (some 17) (.build 154 #[(0, (.const (.int .i64 65171))), (1, (.const (.int .i64 65172))), (2, (.const (.int .i64 0))), (3, (.const (.int .i64 0)))]) none,
  .mk (some 18) (.build 156 #[(0, (.const (.int .i64 1577))), (1, (.tmp 17))]) none,
  .mk (some 19) (.build 154 #[(0, (.const (.int .i64 65173))), (1, (.const (.int .i64 65174))), (2, (.const (.int .i64 65175))), (3, (.const (.int .i64 65176)))]) none,
  .mk (some 20) (.build 156 #[(0, (.const (.int .i64 1578))), (1, (.tmp 19))]) none,
  .mk (some 21) (.build 154 #[(0, (.const (.int .i64 65177))), (1, (.const (.int .i64 65178))), (2, (.const (.int .i64 65179))), (3, (.const (.int .i64 65180)))]) none,
  .mk (some 22) (.build 156 #[(0, (.const (.int .i64 1579))), (1, (.tmp 21))]) none,
  .mk (some 23) (.build 154 #[(0, (.const (.int .i64 65181))), (1, (.const (.int .i64 65182))), (2, (.const (.int .i64 65183))), (3, (.const (.int .i64 65184)))]) none,
  .mk (some 24) (.build 156 #[(0, (.const (.int .i64 1580))), (1, (.tmp 23))]) none,
  .mk (some 25) (.build 154 #[(0, (.const (.int .i64 65185))), (1, (.const (.int .i64 65186))), (2, (.const (.int .i64 65187))), (3, (.const (.int .i64 65188)))]) none,
  .mk (some 26) (.build 156 #[(0, (.const (.int .i64 1581))), (1, (.tmp 25))]) none,
  .mk (some 27) (.build 154 #[(0, (.const (.int .i64 65189))), (1, (.const (.int .i64 65190))), (2, (.const (.int .i64 65191))), (3, (.const (.int .i64 65192)))]) none,
  .mk (some 28) (.build 156 #[(0, (.const (.int .i64 1582))), (1, (.tmp 27))]) none,
  .mk (some 29) (.build 154 #[(0, (.const (.int .i64 65193))), (1, (.const (.int .i64 65194))), (2, (.const (.int .i64 0))), (3, (.const (.int .i64 0)))]) none,
  .mk (some 30) (.build 156 #[(0, (.const (.int .i64 1583))), (1, (.tmp 29))]) none,
  .mk (some 31) (.build 154 #[(0, (.const (.int .i64 65195))), (1, (.const (.int .i64 65196))), (2, (.const (.int .i64 0))), (3, (.const (.int .i64 0)))]) none,
  .mk (some 32) (.build 156 #[(0, (.const (.int .i64 1584))), (1, (.tmp 31))]) none,
  .mk (some 33) (.build 154 #[(0, (.const (.int .i64 65197))), (1, (.const (.int .i64 65198))), (2, (.const (.int .i64 0))), (3, (.const (.int .i64 0)))]) none,
  .mk (some 34) (.build 156 #[(0, (.const (.int .i64 1585))), (1, (.tmp 33))]) none,
  .mk (some 35) (.build 154 #[(0, (.const (.int .i64 65199))), (1, (.const (.int .i64 65200))), (2, (.const (.int .i64 0))), (3, (.const (.int .i64 0)))]) none,
  .mk (some 36) (.build 156 #[(0, (.const (.int .i64 1586))), (1, (.tmp 35))]) none,
  .mk (some 37) (.build 154 #[(0, (.const (.int .i64 65201))), (1, (.const (.int .i64 65202))), (2, (.const (.int .i64 65203))), (3, (.const (.int .i64 65204)))]) none,
  .mk (some 38) (.build 156 #[(0, (.const (.int .i64 1587))), (1, (.tmp 37))]) none,
  .mk (some 39) (.build 154 #[(0, (.const (.int .i64 65205))), (1, (.const (.int .i64 65206))), (2, (.const (.int .i64 65207))), (3, (.const (.int .i64 65208)))]) none,
  .mk (some 40) (.build 156 #[(0, (.const (.int .i64 1588))), (1, (.tmp 39))]) none,
  .mk (some 41) (.build 154 #[(0, (.const (.int .i64 65209))), (1, (.const (.int .i64 65210))), (2, (.const (.int .i64 65211))), (3, (.const (.int .i64 65212)))]) none,
  .mk (some 42) (.build 156 #[(0, (.const (.int .i64 1589))), (1, (.tmp 41))]) none,
  .mk (some 43) (.build 154 #[(0, (.const (.int .i64 65213))), (1, (.const (.int .i64 65214))), (2, (.const (.int .i64 65215))), (3, (.const (.int .i64 65216)))]) none,
  .mk (some 44) (.build 156 #[(0, (.const (.int .i64 1590))), (1, (.tmp 43))]) none,
  .mk (some 45) (.build 154 #[(0, (.const (.int .i64 65217))), (1, (.const (.int .i64 65218))), (2, (.const (.int .i64 65219))), (3, (.const (.int .i64 65220)))]) none,
  .mk (some 46) (.build 156 #[(0, (.const (.int .i64 1591))), (1, (.tmp 45))]) none,
  .mk (some 47) (.build 154 #[(0, (.const (.int .i64 65221))), (1, (.const (.int .i64 65222))), (2, (.const (.int .i64 65223))), (3, (.const (.int .i64 65224)))]) none,
  .mk (some 48) (.build 156 #[(0, (.const (.int .i64 1592))), (1, (.tmp 47))]) none,
  .mk (some 49) (.build 154 #[(0, (.const (.int .i64 65225))), (1, (.const (.int .i64 65226))), (2, (.const (.int .i64 65227))), (3, (.const (.int .i64 65228)))]) none,
  .mk (some 50) (.build 156 #[(0, (.const (.int .i64 1593))), (1, (.tmp 49))]) none,
  .mk (some 51) (.build 154 #[(0, (.const (.int .i64 65229))), (1, (.const (.int .i64 65230))), (2, (.const (.int .i64 65231))), (3, (.const (.int .i64 65232)))]) none,
  .mk (some 52) (.build 156 #[(0, (.const (.int .i64 1594))), (1, (.tmp 51))]) none,
  .mk (some 53) (.build 154 #[(0, (.const (.int .i64 65233))), (1, (.const (.int .i64 65234))), (2, (.const (.int .i64 65235))), (3, (.const (.int .i64 65236)))]) none,
  .mk (some 54) (.build 156 #[(0, (.const (.int .i64 1601))), (1, (.tmp 53))]) none,
  .mk (some 55) (.build 154 #[(0, (.const (.int .i64 65237))), (1, (.const (.int .i64 65238))), (2, (.const (.int .i64 65239))), (3, (.const (.int .i64 65240)))]) none,
  .mk (some 56) (.build 156 #[(0, (.const (.int .i64 1602))), (1, (.tmp 55))]) none,
  .mk (some 57) (.build 154 #[(0, (.const (.int .i64 65241))), (1, (.const (.int .i64 65242))), (2, (.const (.int .i64 65243))), (3, (.const (.int .i64 65244)))]) none,
  .mk (some 58) (.build 156 #[(0, (.const (.int .i64 1603))), (1, (.tmp 57))]) none,
  .mk (some 59) (.build 154 #[(0, (.const (.int .i64 65245))), (1, (.const (.int .i64 65246))), (2, (.const (.int .i64 65247))), (3, (.const (.int .i64 65248)))]) none,
  .mk (some 60) (.build 156 #[(0, (.const (.int .i64 1604))), (1, (.tmp 59))]) none,
  .mk (some 61) (.build 154 #[(0, (.const (.int .i64 65249))), (1, (.const (.int .i64 65250))), (2, (.const (.int .i64 65251))), (3, (.const (.int .i64 65252)))]) none,
  .mk (some 62) (.build 156 #[(0, (.const (.int .i64 1605))), (1, (.tmp 61))]) none,
  .mk (some 63) (.build 154 #[(0, (.const (.int .i64 65253))), (1, (.const (.int .i64 65254))), (2, (.const (.int .i64 65255))), (3, (.const (.int .i64 65256)))]) none,
  .mk (some 64) (.build 156 #[(0, (.const (.int .i64 1606))), (1, (.tmp 63))]) none,
  .mk (some 65) (.build 154 #[(0, (.const (.int .i64 65257))), (1, (.const (.int .i64 65258))), (2, (.const (.int .i64 65259))), (3, (.const (.int .i64 65260)))]) none,
  .mk (some 66) (.build 156 #[(0, (.const (.int .i64 1607))), (1, (.tmp 65))]) none,
  .mk (some 67) (.build 154 #[(0, (.const (.int .i64 65261))), (1, (.const (.int .i64 65262))), (2, (.const (.int .i64 0))), (3, (.const (.int .i64 0)))]) none,
  .mk (some 68) (.build 156 #[(0, (.const (.int .i64 1608))), (1, (.tmp 67))]) none,
  .mk (some 69) (.build 154 #[(0, (.const (.int .i64 65263))), (1, (.const (.int .i64 65264))), (2, (.const (.int .i64 64488))), (3, (.const (.int .i64 64489)))]) none,
  .mk (some 70) (.build 156 #[(0, (.const (.int .i64 1609))), (1, (.tmp 69))]) none,
  .mk (some 71) (.build 154 #[(0, (.const (.int .i64 65265))), (1, (.const (.int .i64 65266))), (2, (.const (.int .i64 65267))), (3, (.const (.int .i64 65268)))]) none,
  .mk (some 72) (.build 156 #[(0, (.const (.int .i64 1610))), (1, (.tmp 71))]) none,
  .mk (some 73) (.build 154 #[(0, (.const (.int .i64 64336))), (1, (.const (.int .i64 64337))), (2, (.const (.int .i64 0))), (3, (.const (.int .i64 0)))]) none,
  .mk (some 74) (.build 156 #[(0, (.const (.int .i64 1649))), (1, (.tmp 73))]) none,
  .mk (some 75) (.build 154 #[(0, (.const (.int .i64 64477))), (1, (.const (.int .i64 0))), (2, (.const (.int .i64 0))), (3, (.const (.int .i64 0)))]) none,
  .mk (some 76) (.build 156 #[(0, (.const (.int .i64 1655))), (1, (.tmp 75))]) none,
  .mk (some 77) (.build 154 #[(0, (.const (.int .i64 64358))), (1, (.const (.int .i64 64359))), (2, (.const (.int .i64 64360))), (3, (.const (.int .i64 64361)))]) none,
  .mk (some 78) (.build 156 #[(0, (.const (.int .i64 1657))), (1, (.tmp 77))]) none,
  .mk (some 79) (.build 154 #[(0, (.const (.int .i64 64350))), (1, (.const (.int .i64 64351))), (2, (.const (.int .i64 64352))), (3, (.const (.int .i64 64353)))]) none,
  .mk (some 80) (.build 156 #[(0, (.const (.int .i64 1658))), (1, (.tmp 79))]) none,
  .mk (some 81) (.build 154 #[(0, (.const (.int .i64 64338))), (1, (.const (.int .i64 64339))), (2, (.const (.int .i64 64340))), (3, (.const (.int .i64 64341)))]) none,
  .mk (some 82) (.build 156 #[(0, (.const (.int .i64 1659))), (1, (.tmp 81))]) none,
  .mk (some 83) (.build 154 #[(0, (.const (.int .i64 64342))), (1, (.const (.int .i64 64343))), (2, (.const (.int .i64 64344))), (3, (.const (.int .i64 64345)))]) none,
  .mk (some 84) (.build 156 #[(0, (.const (.int .i64 1662))), (1, (.tmp 83))]) none,
  .mk (some 85) (.build 154 #[(0, (.const (.int .i64 64354))), (1, (.const (.int .i64 64355))), (2, (.const (.int .i64 64356))), (3, (.const (.int .i64 64357)))]) none,
  .mk (some 86) (.build 156 #[(0, (.const (.int .i64 1663))), (1, (.tmp 85))]) none,
  .mk (some 87) (.build 154 #[(0, (.const (.int .i64 64346))), (1, (.const (.int .i64 64347))), (2, (.const (.int .i64 64348))), (3, (.const (.int .i64 64349)))]) none,
  .mk (some 88) (.build 156 #[(0, (.const (.int .i64 1664))), (1, (.tmp 87))]) none,
  .mk (some 89) (.build 154 #[(0, (.const (.int .i64 64374))), (1, (.const (.int .i64 64375))), (2, (.const (.int .i64 64376))), (3, (.const (.int .i64 64377)))]) none,
  .mk (some 90) (.build 156 #[(0, (.const (.int .i64 1667))), (1, (.tmp 89))]) none,
  .mk (some 91) (.build 154 #[(0, (.const (.int .i64 64370))), (1, (.const (.int .i64 64371))), (2, (.const (.int .i64 64372))), (3, (.const (.int .i64 64373)))]) none,
  .mk (some 92) (.build 156 #[(0, (.const (.int .i64 1668))), (1, (.tmp 91))]) none,
  .mk (some 93) (.build 154 #[(0, (.const (.int .i64 64378))), (1, (.const (.int .i64 64379))), (2, (.const (.int .i64 64380))), (3, (.const (.int .i64 64381)))]) none,
  .mk (some 94) (.build 156 #[(0, (.const (.int .i64 1670))), (1, (.tmp 93))]) none,
  .mk (some 95) (.build 154 #[(0, (.const (.int .i64 64382))), (1, (.const (.int .i64 64383))), (2, (.const (.int .i64 64384))), (3, (.const (.int .i64 64385)))]) none,
  .mk (some 96) (.build 156 #[(0, (.const (.int .i64 1671))), (1, (.tmp 95))]) none,
  .mk (some 97) (.build 154 #[(0, (.const (.int .i64 64392))), (1, (.const (.int .i64 64393))), (2, (.const (.int .i64 0))), (3, (.const (.int .i64 0)))]) none,
  .mk (some 98) (.build 156 #[(0, (.const (.int .i64 1672))), (1, (.tmp 97))]) none,
  .mk (some 99) (.build 154 #[(0, (.const (.int .i64 64388))), (1, (.const (.int .i64 64389))), (2, (.const (.int .i64 0))), (3, (.const (.int .i64 0)))]) none,
  .mk (some 100) (.build 156 #[(0, (.const (.int .i64 1676))), (1, (.tmp 99))]) none,
  .mk (some 101) (.build 154 #[(0, (.const (.int .i64 64386))), (1, (.const (.int .i64 64387))), (2, (.const (.int .i64 0))), (3, (.const (.int .i64 0)))]) none,
  .mk (some 102) (.build 156 #[(0, (.const (.int .i64 1677))), (1, (.tmp 101))]) none,
  .mk (some 103) (.build 154 #[(0, (.const (.int .i64 64390))), (1, (.const (.int .i64 64391))), (2, (.const (.int .i64 0))), (3, (.const (.int .i64 0)))]) none,
  .mk (some 104) (.build 156 #[(0, (.const (.int .i64 1678))), (1, (.tmp 103))]) none,
  .mk (some 105) (.build 154 #[(0, (.const (.int .i64 64396))), (1, (.const (.int .i64 64397))), (2, (.const (.int .i64 0))), (3, (.const (.int .i64 0)))]) none,
  .mk (some 106) (.build 156 #[(0, (.const (.int .i64 1681))), (1, (.tmp 105))]) none,
  .mk (some 107) (.build 154 #[(0, (.const (.int .i64 64394))), (1, (.const (.int .i64 64395))), (2, (.const (.int .i64 0))), (3, (.const (.int .i64 0)))]) none,
  .mk (some 108) (.build 156 #[(0, (.const (.int .i64 1688))), (1, (.tmp 107))]) none,
  .mk (some 109) (.build 154 #[(0, (.const (.int .i64 64362))), (1, (.const (.int .i64 64363))), (2, (.const (.int .i64 64364))), (3, (.const (.int .i64 64365)))]) none,
  .mk (some 110) (.build 156 #[(0, (.const (.int .i64 1700))), (1, (.tmp 109))]) none,
  .mk (some 111) (.build 154 #[(0, (.const (.int .i64 64366))), (1, (.const (.int .i64 64367))), (2, (.const (.int .i64 64368))), (3, (.const (.int .i64 64369)))]) none,
  .mk (some 112) (.build 156 #[(0, (.const (.int .i64 1702))), (1, (.tmp 111))]) none,
  .mk (some 113) (.build 154 #[(0, (.const (.int .i64 64398))), (1, (.const (.int .i64 64399))), (2, (.const (.int .i64 64400))), (3, (.const (.int .i64 64401)))]) none,
  .mk (some 114) (.build 156 #[(0, (.const (.int .i64 1705))), (1, (.tmp 113))]) none,
  .mk (some 115) (.build 154 #[(0, (.const (.int .i64 64467))), (1, (.const (.int .i64 64468))), (2, (.const (.int .i64 64469))), (3, (.const (.int .i64 64470)))]) none,
  .mk (some 116) (.build 156 #[(0, (.const (.int .i64 1709))), (1, (.tmp 115))]) none,
  .mk (some 117) (.build 154 #[(0, (.const (.int .i64 64402))), (1, (.const (.int .i64 64403))), (2, (.const (.int .i64 64404))), (3, (.const (.int .i64 64405)))]) none,
  .mk (some 118) (.build 156 #[(0, (.const (.int .i64 1711))), (1, (.tmp 117))]) none,
  .mk (some 119) (.build 154 #[(0, (.const (.int .i64 64410))), (1, (.const (.int .i64 64411))), (2, (.const (.int .i64 64412))), (3, (.const (.int .i64 64413)))]) none,
  .mk (some 120) (.build 156 #[(0, (.const (.int .i64 1713))), (1, (.tmp 119))]) none,
  .mk (some 121) (.build 154 #[(0, (.const (.int .i64 64406))), (1, (.const (.int .i64 64407))), (2, (.const (.int .i64 64408))), (3, (.const (.int .i64 64409)))]) none,
  .mk (some 122) (.build 156 #[(0, (.const (.int .i64 1715))), (1, (.tmp 121))]) none,
  .mk (some 123) (.build 154 #[(0, (.const (.int .i64 64414))), (1, (.const (.int .i64 64415))), (2, (.const (.int .i64 0))), (3, (.const (.int .i64 0)))]) none,
  .mk (some 124) (.build 156 #[(0, (.const (.int .i64 1722))), (1, (.tmp 123))]) none,
  .mk (some 125) (.build 154 #[(0, (.const (.int .i64 64416))), (1, (.const (.int .i64 64417))), (2, (.const (.int .i64 64418))), (3, (.const (.int .i64 64419)))]) none,
  .mk (some 126) (.build 156 #[(0, (.const (.int .i64 1723))), (1, (.tmp 125))]) none,
  .mk (some 127) (.build 154 #[(0, (.const (.int .i64 64426))), (1, (.const (.int .i64 64427))), (2, (.const (.int .i64 64428))), (3, (.const (.int .i64 64429)))]) none,
  .mk (some 128) (.build 156 #[(0, (.const (.int .i64 1726))), (1, (.tmp 127))]) none,
  .mk (some 129) (.build 154 #[(0, (.const (.int .i64 64420))), (1, (.const (.int .i64 64421))), (2, (.const (.int .i64 0))), (3, (.const (.int .i64 0)))]) none,
  .mk (some 130) (.build 156 #[(0, (.const (.int .i64 1728))), (1, (.tmp 129))]) none,
  .mk (some 131) (.build 154 #[(0, (.const (.int .i64 64422))), (1, (.const (.int .i64 64423))), (2, (.const (.int .i64 64424))), (3, (.const (.int .i64 64425)))]) none,
  .mk (some 132) (.build 156 #[(0, (.const (.int .i64 1729))), (1, (.tmp 131))]) none,
  .mk (some 133) (.build 154 #[(0, (.const (.int .i64 64480))), (1, (.const (.int .i64 64481))), (2, (.const (.int .i64 0))), (3, (.const (.int .i64 0)))]) none,
  .mk (some 134) (.build 156 #[(0, (.const (.int .i64 1733))), (1, (.tmp 133))]) none,
  .mk (some 135) (.build 154 #[(0, (.const (.int .i64 64473))), (1, (.const (.int .i64 64474))), (2, (.const (.int .i64 0))), (3, (.const (.int .i64 0)))]) none,
  .mk (some 136) (.build 156 #[(0, (.const (.int .i64 1734))), (1, (.tmp 135))]) none,
  .mk (some 137) (.build 154 #[(0, (.const (.int .i64 64471))), (1, (.const (.int .i64 64472))), (2, (.const (.int .i64 0))), (3, (.const (.int .i64 0)))]) none,
  .mk (some 138) (.build 156 #[(0, (.const (.int .i64 1735))), (1, (.tmp 137))]) none,
  .mk (some 139) (.build 154 #[(0, (.const (.int .i64 64475))), (1, (.const (.int .i64 64476))), (2, (.const (.int .i64 0))), (3, (.const (.int .i64 0)))]) none,
  .mk (some 140) (.build 156 #[(0, (.const (.int .i64 1736))), (1, (.tmp 139))]) none,
  .mk (some 141) (.build 154 #[(0, (.const (.int .i64 64482))), (1, (.const (.int .i64 64483))), (2, (.const (.int .i64 0))), (3, (.const (.int .i64 0)))]) none,
  .mk (some 142) (.build 156 #[(0, (.const (.int .i64 1737))), (1, (.tmp 141))]) none,
  .mk (some 143) (.build 154 #[(0, (.const (.int .i64 64478))), (1, (.const (.int .i64 64479))), (2, (.const (.int .i64 0))), (3, (.const (.int .i64 0)))]) none,
  .mk (some 144) (.build 156 #[(0, (.const (.int .i64 1739))), (1, (.tmp 143))]) none,
  .mk (some 145) (.build 154 #[(0, (.const (.int .i64 64508))), (1, (.const (.int .i64 64509))), (2, (.const (.int .i64 64510))), (3, (.const (.int .i64 64511)))]) none,
  .mk (some 146) (.build 156 #[(0, (.const (.int .i64 1740))), (1, (.tmp 145))]) none,
  .mk (some 147) (.build 154 #[(0, (.const (.int .i64 64484))), (1, (.const (.int .i64 64485))), (2, (.const (.int .i64 64486))), (3, (.const (.int .i64 64487)))]) none,
  .mk (some 148) (.build 156 #[(0, (.const (.int .i64 1744))), (1, (.tmp 147))]) none,
  .mk (some 149) (.build 154 #[(0, (.const (.int .i64 64430))), (1, (.const (.int .i64 64431))), (2, (.const (.int .i64 0))), (3, (.const (.int .i64 0)))]) none,
  .mk (some 150) (.build 156 #[(0, (.const (.int .i64 1746))), (1, (.tmp 149))]) none,
  .mk (some 151) (.build 154 #[(0, (.const (.int .i64 64432))), (1, (.const (.int .i64 64433))), (2, (.const (.int .i64 0))), (3, (.const (.int .i64 0)))]) none,
  .mk (some 152) (.build 156 #[(0, (.const (.int .i64 1747))), (1, (.tmp 151))]) none,
  .mk (some 153) (.buildSlice 152 76 #[(0, (.tmp 2)), (1, (.tmp 4)), (2, (.tmp 6)), (3, (.tmp 8)), (4, (.tmp 10)), (5, (.tmp 12)), (6, (.tmp 14)), (7, (.tmp 16)), (8, (.tmp 18)), (9, (.tmp 20)), (10, (.tmp 22)), (11, (.tmp 24)), (12, (.tmp 26)), (13, (.tmp 28)), (14, (.tmp 30)), (15, (.tmp 32)), (16, (.tmp 34)), (17, (.tmp 36)), (18, (.tmp 38)), (19, (.tmp 40)), (20, (.tmp 42)), (21, (.tmp 44)), (22, (.tmp 46)), (23, (.tmp 48)), (24, (.tmp 50)), (25, (.tmp 52)), (26, (.tmp 54)), (27, (.tmp 56)), (28, (.tmp 58)), (29, (.tmp 60)), (30, (.tmp 62)), (31, (.tmp 64)), (32, (.tmp 66)), (33, (.tmp 68)), (34, (.tmp 70)), (35, (.tmp 72)), (36, (.tmp 74)), (37, (.tmp 76)), (38, (.tmp 78)), (39, (.tmp 80)), (40, (.tmp 82)), (41, (.tmp 84)), (42, (.tmp 86)), (43, (.tmp 88)), (44, (.tmp 90)), (45, (.tmp 92)), (46, (.tmp 94)), (47, (.tmp 96)), (48, (.tmp 98)), (49, (.tmp 100)), (50, (.tmp 102)), (51, (.tmp 104)), (52, (.tmp 106)), (53, (.tmp 108)), (54, (.tmp 110)), (55, (.tmp 112)), (56, (.tmp 114)), (57, (.tmp 116)), (58, (.tmp 118)), (59, (.tmp 120)), (60, (.tmp 122)), (61, (.tmp 124)), (62, (.tmp 126)), (63, (.tmp 128)), (64, (.tmp 130)), (65, (.tmp 132)), (66, (.tmp 134)), (67, (.tmp 136)), (68, (.tmp 138)), (69, (.tmp 140)), (70, (.tmp 142)), (71, (.tmp 144)), (72, (.tmp 146)), (73, (.tmp 148)), (74, (.tmp 150)), (75, (.tmp 152))]) none,
  .mk (some 0) (.assign (.tmp 153)) none]
def c95 : PC := (.seq (.reg false r95_0) (.seq (.reg false r95_1) .ret))
theorem e95 {args : List PV} {h : Heap} {K : PV → Heap → Prop} (hl : args.length = 0) (s : pwp Try.prog [] c95 (fin Try.prog [.tmp 0] h K) (slots0 (olds args)) h) : CanP Try.prog 95 args h K :=
  can_of2 (n := 154) mixed Try.func95 rfl (by kernel_rfl) (by rw [hl]; kernel_rfl) rfl (by kernel_rfl) s
/-! ### naskh.forms.of: function 85 -/
def r85_0 : List PS := [.mk (some 2) (.alloc 131) none,
  .mk (some 3) (.assign (.const (.bool false))) none]
def r85_1 : List PS := [.mk (some 8) (.call ⟨(.value (.func 95)), #[], #[]⟩) none,
  .mk (some 9) (.call ⟨(.builtin .len), #[(.tmp 8)], #[152]⟩) none,
  .mk (some 10) (.move (.const (.int .i64 0))) none]
def r85_2 : List PS := [.mk (some 11) (.binOp .lss 3 (.tmp 10) (.tmp 9) 3) none]
def r85_3 : List PS := [.mk (some 12) (.indexAddr 152 (.tmp 8) (.tmp 10)) none,
  .mk (some 13) (.load 156 (.tmp 12)) none,
  .mk (some 5) (.alloc 156) none,
  .mk none (.store 156 (.tmp 5) (.tmp 13)) none,
  .frz 5]
def r85_4 : List PS := [.mk (some 14) (.fieldAddr 156 (.tmp 5) 1) none,
  .mk (some 15) (.load 154 (.tmp 14)) none,
  .mk (some 16) (.move (.const (.int .i64 0))) none]
def r85_5 : List PS := [.mk (some 17) (.binOp .lss 3 (.tmp 16) (.const (.int .i64 4)) 3) none]
def r85_6 : List PS := [.mk (some 18) (.move (.tmp 16)) none,
  .mk (some 19) (.index 154 (.tmp 15) (.tmp 16)) none,
  .mk (some 6) (.assign (.tmp 18)) none,
  .mk (some 7) (.assign (.tmp 19)) none]
def r85_7 : List PS := [.mk (some 20) (.move (.tmp 7)) none,
  .mk (some 21) (.binOp .neq 3 (.tmp 20) (.const (.int .i64 0)) 3) none,
  .mk (some 22) (.move (.tmp 21)) none,
  .mk (some 23) (.move (.tmp 7)) (some (22, true)),
  .mk (some 24) (.move (.tmp 0)) (some (22, true)),
  .mk (some 25) (.binOp .eql 3 (.tmp 23) (.tmp 24) 3) (some (22, true)),
  .mk (some 26) (.pick (.tmp 22) (.tmp 25) (.const (.bool false))) none]
def r85_8 : List PS := [.mk (some 27) (.fieldAddr 156 (.tmp 5) 0) none,
  .mk (some 28) (.load 3 (.tmp 27)) none,
  .mk (some 29) (.move (.tmp 6)) none,
  .mk (some 30) (.binOp .add 3 (.tmp 29) (.const (.int .i64 1)) 3) none,
  .mk (some 31) (.build 131 #[(0, (.tmp 28)), (1, (.tmp 30))]) none,
  .mk none (.store 131 (.tmp 2) (.tmp 31)) none,
  .mk (some 3) (.assign (.const (.bool true))) none]
def r85_9 : List PS := [.mk (some 32) (.binOp .add 3 (.tmp 16) (.const (.int .i64 1)) 3) none,
  .mk (some 16) (.move (.tmp 32)) none]
def r85_10 : List PS := [.mk (some 33) (.binOp .add 3 (.tmp 10) (.const (.int .i64 1)) 3) none,
  .mk (some 10) (.move (.tmp 33)) none]
def r85_11 : List PS := [.mk (some 34) (.build 131 #[]) none,
  .mk none (.store 131 (.tmp 2) (.tmp 34)) none,
  .mk (some 3) (.assign (.const (.bool false))) none]
def c85 : PC := (.seq (.reg false r85_0) (.seq (.seq (.reg false r85_1) (.block 0 (.loop (.seq (.reg false r85_2) (.seq (.cond (.tmp 11) .skip (.exit 0)) (.seq (.block 1 (.seq (.reg false r85_3) (.seq (.reg false r85_4) (.block 2 (.loop (.seq (.reg false r85_5) (.seq (.cond (.tmp 17) .skip (.exit 2)) (.seq (.block 3 (.seq (.reg false r85_6) (.seq (.reg false r85_7) (.cond (.tmp 26) (.seq (.reg false r85_8) .ret) .skip)))) (.reg false r85_9))))))))) (.reg false r85_10))))))) (.seq (.reg false r85_11) .ret)))
theorem e85 {args : List PV} {h : Heap} {K : PV → Heap → Prop} (hl : args.length = 1) (s : pwp Try.prog [2, 5] c85 (fin Try.prog [.cell 2 131, .tmp 3] h K) (slots0 (olds args)) h) : CanP Try.prog 85 args h K :=
  can_of2 (n := 35) mixed Try.func85 rfl (by kernel_rfl) (by rw [hl]; kernel_rfl) rfl (by kernel_rfl) s
/-! ### naskh.forms.Base: function 63 -/
def r63_0 : List PS := [.mk (some 2) (.assign (.const (.int .i64 0))) none,
  .mk (some 3) (.assign (.const (.int .i64 0))) none,
  .mk (some 4) (.assign (.const (.bool false))) none]
def r63_1 : List PS := [.mk (some 8) (.move (.tmp 0)) none,
  .mk (some 9) (.call ⟨(.value (.func 85)), #[(.tmp 8)], #[3]⟩) none,
  .mk (some 7) (.move (.tmp 9)) none,
  .mk (some 10) (.extract (.tmp 7) 0) none,
  .mk (some 11) (.extract (.tmp 7) 1) none,
  .mk (some 5) (.alloc 131) none,
  .mk none (.store 131 (.tmp 5) (.tmp 10)) none,
  .frz 5,
  .mk (some 6) (.assign (.tmp 11)) none]
def r63_2 : List PS := [.mk (some 12) (.fieldAddr 131 (.tmp 5) 0) none,
  .mk (some 13) (.load 3 (.tmp 12)) none,
  .mk (some 14) (.fieldAddr 131 (.tmp 5) 1) none,
  .mk (some 15) (.load 3 (.tmp 14)) none,
  .mk (some 16) (.move (.tmp 6)) none,
  .mk (some 2) (.assign (.tmp 13)) none,
  .mk (some 3) (.assign (.tmp 15)) none,
  .mk (some 4) (.assign (.tmp 16)) none]
def c63 : PC := (.seq (.reg false r63_0) (.seq (.reg false r63_1) (.seq (.reg true r63_2) .ret)))
theorem e63 {args : List PV} {h : Heap} {K : PV → Heap → Prop} (hl : args.length = 1) (s : pwp Try.prog [5] c63 (fin Try.prog [.tmp 2, .tmp 3, .tmp 4] h K) (slots0 (olds args)) h) : CanP Try.prog 63 args h K :=
  can_of2 (n := 17) mixed Try.func63 rfl (by kernel_rfl) (by rw [hl]; kernel_rfl) rfl (by kernel_rfl) s
/-! ### naskh.api.Ligatures: function 86 -/
def r86_0 : List PS := [.mk (some 0) (.assign (.const (.slice none 0 0))) none]
def r86_1 : List PS := [.mk (some 1) (.build 137 #[(0, (.const (.int .i64 1570))), (1, (.const (.int .i64 65269))), (2, (.const (.int .i64 65270)))]) none,
  .mk (some 2) (.build 137 #[(0, (.const (.int .i64 1571))), (1, (.const (.int .i64 65271))), (2, (.const (.int .i64 65272)))]) none,
  .mk (some 3) (.build 137 #[(0, (.const (.int .i64 1573))), (1, (.const (.int .i64 65273))), (2, (.const (.int .i64 65274)))]) none,
  .mk (some 4) (.build 137 #[(0, (.const (.int .i64 1575))), (1, (.const (.int .i64 65275))), (2, (.const (.int .i64 65276)))]) none,
  .mk (some 5) (.buildSlice 134 4 #[(0, (.tmp 1)), (1, (.tmp 2)), (2, (.tmp 3)), (3, (.tmp 4))]) none,
  .mk (some 0) (.assign (.tmp 5)) none]
def c86 : PC := (.seq (.reg false r86_0) (.seq (.reg false r86_1) .ret))
theorem e86 {args : List PV} {h : Heap} {K : PV → Heap → Prop} (hl : args.length = 0) (s : pwp Try.prog [] c86 (fin Try.prog [.tmp 0] h K) (slots0 (olds args)) h) : CanP Try.prog 86 args h K :=
  can_of2 (n := 6) mixed Try.func86 rfl (by kernel_rfl) (by rw [hl]; kernel_rfl) rfl (by kernel_rfl) s
/-! ### naskh.forms.Parted: function 64 -/
def r64_0 : List PS := [.mk (some 2) (.assign (.const (.int .i64 0))) none,
  .mk (some 3) (.assign (.const (.int .i64 0))) none,
  .mk (some 4) (.assign (.const (.bool false))) none]
def r64_1 : List PS := [.mk (some 7) (.call ⟨(.value (.func 86)), #[], #[]⟩) none,
  .mk (some 8) (.call ⟨(.builtin .len), #[(.tmp 7)], #[134]⟩) none,
  .mk (some 9) (.move (.const (.int .i64 0))) none]
def r64_2 : List PS := [.mk (some 10) (.binOp .lss 3 (.tmp 9) (.tmp 8) 3) none]
def r64_3 : List PS := [.mk (some 11) (.indexAddr 134 (.tmp 7) (.tmp 9)) none,
  .mk (some 12) (.load 137 (.tmp 11)) none,
  .mk (some 6) (.alloc 137) none,
  .mk none (.store 137 (.tmp 6) (.tmp 12)) none,
  .frz 6]
def r64_4 : List PS := [.mk (some 13) (.move (.tmp 0)) none]
def r64_5 : List PS := [.mk (some 15) (.fieldAddr 137 (.tmp 6) 1) none,
  .mk (some 16) (.load 3 (.tmp 15)) none,
  .mk (some 17) (.binOp .eql 3 (.tmp 13) (.tmp 16) 3) none,
  .mk (some 14) (.assign (.tmp 17)) none]
def r64_6 : List PS := [.mk (some 18) (.fieldAddr 137 (.tmp 6) 0) none,
  .mk (some 19) (.load 3 (.tmp 18)) none,
  .mk (some 2) (.assign (.tmp 19)) none,
  .mk (some 3) (.assign (.const (.int .i64 1))) none,
  .mk (some 4) (.assign (.const (.bool true))) none]
def r64_7 : List PS := [.mk (some 21) (.fieldAddr 137 (.tmp 6) 2) none,
  .mk (some 22) (.load 3 (.tmp 21)) none,
  .mk (some 23) (.binOp .eql 3 (.tmp 13) (.tmp 22) 3) none,
  .mk (some 20) (.assign (.tmp 23)) none]
def r64_8 : List PS := [.mk (some 24) (.fieldAddr 137 (.tmp 6) 0) none,
  .mk (some 25) (.load 3 (.tmp 24)) none,
  .mk (some 2) (.assign (.tmp 25)) none,
  .mk (some 3) (.assign (.const (.int .i64 2))) none,
  .mk (some 4) (.assign (.const (.bool true))) none]
def r64_9 : List PS := [.mk (some 26) (.binOp .add 3 (.tmp 9) (.const (.int .i64 1)) 3) none,
  .mk (some 9) (.move (.tmp 26)) none]
def r64_10 : List PS := [.mk (some 2) (.assign (.const (.int .i64 0))) none,
  .mk (some 3) (.assign (.const (.int .i64 0))) none,
  .mk (some 4) (.assign (.const (.bool false))) none]
def c64 : PC := (.seq (.reg false r64_0) (.seq (.seq (.reg false r64_1) (.block 0 (.loop (.seq (.reg false r64_2) (.seq (.cond (.tmp 10) .skip (.exit 0)) (.seq (.block 1 (.seq (.reg false r64_3) (.seq (.reg false r64_4) (.block 2 (.seq (.reg false r64_5) (.cond (.tmp 14) (.seq (.reg false r64_6) .ret) (.seq (.reg false r64_7) (.cond (.tmp 20) (.seq (.reg false r64_8) .ret) .skip)))))))) (.reg false r64_9))))))) (.seq (.reg false r64_10) .ret)))
theorem e64 {args : List PV} {h : Heap} {K : PV → Heap → Prop} (hl : args.length = 1) (s : pwp Try.prog [6] c64 (fin Try.prog [.tmp 2, .tmp 3, .tmp 4] h K) (slots0 (olds args)) h) : CanP Try.prog 64 args h K :=
  can_of2 (n := 27) mixed Try.func64 rfl (by kernel_rfl) (by rw [hl]; kernel_rfl) rfl (by kernel_rfl) s
/-! ### naskh.api.Accents: function 87 -/
def r87_0 : List PS := [.mk (some 0) (.assign (.const (.slice none 0 0))) none]
def r87_1 : List PS := [.mk (some 1) (.build 141 #[(0, (.const (.int .i64 1611))), (1, (.const (.int .i64 65136))), (2, (.const (.int .i64 65137)))]) none,
  .mk (some 2) (.build 141 #[(0, (.const (.int .i64 1612))), (1, (.const (.int .i64 65138))), (2, (.const (.int .i64 0)))]) none,
  .mk (some 3) (.build 141 #[(0, (.const (.int .i64 1613))), (1, (.const (.int .i64 65140))), (2, (.const (.int .i64 0)))]) none,
  .mk (some 4) (.build 141 #[(0, (.const (.int .i64 1614))), (1, (.const (.int .i64 65142))), (2, (.const (.int .i64 65143)))]) none,
  .mk (some 5) (.build 141 #[(0, (.const (.int .i64 1615))), (1, (.const (.int .i64 65144))), (2, (.const (.int .i64 65145)))]) none,
  .mk (some 6) (.build 141 #[(0, (.const (.int .i64 1616))), (1, (.const (.int .i64 65146))), (2, (.const (.int .i64 65147)))]) none,
  .mk (some 7) (.build 141 #[(0, (.const (.int .i64 1617))), (1, (.const (.int .i64 65148))), (2, (.const (.int .i64 65149)))]) none,
  .mk (some 8) (.build 141 #[(0, (.const (.int .i64 1618))), (1, (.const (.int .i64 65150))), (2, (.const (.int .i64 65151)))]) none,
  .mk (some 9) (.buildSlice 138 8 #[(0, (.tmp 1)), (1, (.tmp 2)), (2, (.tmp 3)), (3, (.tmp 4)), (4, (.tmp 5)), (5, (.tmp 6)), (6, (.tmp 7)), (7, (.tmp 8))]) none,
  .mk (some 0) (.assign (.tmp 9)) none]
def c87 : PC := (.seq (.reg false r87_0) (.seq (.reg false r87_1) .ret))
theorem e87 {args : List PV} {h : Heap} {K : PV → Heap → Prop} (hl : args.length = 0) (s : pwp Try.prog [] c87 (fin Try.prog [.tmp 0] h K) (slots0 (olds args)) h) : CanP Try.prog 87 args h K :=
  can_of2 (n := 10) mixed Try.func87 rfl (by kernel_rfl) (by rw [hl]; kernel_rfl) rfl (by kernel_rfl) s
/-! ### naskh.forms.Mark: function 65 -/
def r65_0 : List PS := [.mk (some 2) (.assign (.const (.int .i64 0))) none,
  .mk (some 3) (.assign (.const (.bool false))) none,
  .mk (some 4) (.assign (.const (.bool false))) none]
def r65_1 : List PS := [.mk (some 7) (.move (.tmp 0)) none,
  .mk (some 8) (.binOp .eql 3 (.tmp 7) (.const (.int .i64 0)) 3) none]
def r65_2 : List PS := [.mk (some 2) (.assign (.const (.int .i64 0))) none,
  .mk (some 3) (.assign (.const (.bool false))) none,
  .mk (some 4) (.assign (.const (.bool false))) none]
def r65_3 : List PS := [.mk (some 9) (.call ⟨(.value (.func 87)), #[], #[]⟩) none,
  .mk (some 10) (.call ⟨(.builtin .len), #[(.tmp 9)], #[138]⟩) none,
  .mk (some 11) (.move (.const (.int .i64 0))) none]
def r65_4 : List PS := [.mk (some 12) (.binOp .lss 3 (.tmp 11) (.tmp 10) 3) none]
def r65_5 : List PS := [.mk (some 13) (.indexAddr 138 (.tmp 9) (.tmp 11)) none,
  .mk (some 14) (.load 141 (.tmp 13)) none,
  .mk (some 6) (.alloc 141) none,
  .mk none (.store 141 (.tmp 6) (.tmp 14)) none,
  .frz 6]
def r65_6 : List PS := [.mk (some 15) (.move (.tmp 0)) none]
def r65_7 : List PS := [.mk (some 17) (.fieldAddr 141 (.tmp 6) 1) none,
  .mk (some 18) (.load 3 (.tmp 17)) none,
  .mk (some 19) (.binOp .eql 3 (.tmp 15) (.tmp 18) 3) none,
  .mk (some 16) (.assign (.tmp 19)) none]
def r65_8 : List PS := [.mk (some 20) (.fieldAddr 141 (.tmp 6) 0) none,
  .mk (some 21) (.load 3 (.tmp 20)) none,
  .mk (some 2) (.assign (.tmp 21)) none,
  .mk (some 3) (.assign (.const (.bool false))) none,
  .mk (some 4) (.assign (.const (.bool true))) none]
def r65_9 : List PS := [.mk (some 23) (.fieldAddr 141 (.tmp 6) 2) none,
  .mk (some 24) (.load 3 (.tmp 23)) none,
  .mk (some 25) (.binOp .eql 3 (.tmp 15) (.tmp 24) 3) none,
  .mk (some 22) (.assign (.tmp 25)) none]
def r65_10 : List PS := [.mk (some 26) (.fieldAddr 141 (.tmp 6) 0) none,
  .mk (some 27) (.load 3 (.tmp 26)) none,
  .mk (some 2) (.assign (.tmp 27)) none,
  .mk (some 3) (.assign (.const (.bool true))) none,
  .mk (some 4) (.assign (.const (.bool true))) none]
def r65_11 : List PS := [.mk (some 28) (.binOp .add 3 (.tmp 11) (.const (.int .i64 1)) 3) none,
  .mk (some 11) (.move (.tmp 28)) none]
def r65_12 : List PS := [.mk (some 2) (.assign (.const (.int .i64 0))) none,
  .mk (some 3) (.assign (.const (.bool false))) none,
  .mk (some 4) (.assign (.const (.bool false))) none]
def c65 : PC := (.seq (.reg false r65_0) (.seq (.seq (.reg false r65_1) (.cond (.tmp 8) (.seq (.reg false r65_2) .ret) .skip)) (.seq (.seq (.reg false r65_3) (.block 0 (.loop (.seq (.reg false r65_4) (.seq (.cond (.tmp 12) .skip (.exit 0)) (.seq (.block 1 (.seq (.reg false r65_5) (.seq (.reg false r65_6) (.block 2 (.seq (.reg false r65_7) (.cond (.tmp 16) (.seq (.reg false r65_8) .ret) (.seq (.reg false r65_9) (.cond (.tmp 22) (.seq (.reg false r65_10) .ret) .skip)))))))) (.reg false r65_11))))))) (.seq (.reg false r65_12) .ret))))
theorem e65 {args : List PV} {h : Heap} {K : PV → Heap → Prop} (hl : args.length = 1) (s : pwp Try.prog [6] c65 (fin Try.prog [.tmp 2, .tmp 3, .tmp 4] h K) (slots0 (olds args)) h) : CanP Try.prog 65 args h K :=
  can_of2 (n := 29) mixed Try.func65 rfl (by kernel_rfl) (by rw [hl]; kernel_rfl) rfl (by kernel_rfl) s
/-! ### naskh.api.Piles: function 88 -/
def r88_0 : List PS := [.mk (some 0) (.assign (.const (.slice none 0 0))) none]
def r88_1 : List PS := [.mk (some 1) (.build 145 #[(0, (.const (.int .i64 1612))), (1, (.const (.int .i64 64606)))]) none,
  .mk (some 2) (.build 145 #[(0, (.const (.int .i64 1613))), (1, (.const (.int .i64 64607)))]) none,
  .mk (some 3) (.build 145 #[(0, (.const (.int .i64 1614))), (1, (.const (.int .i64 64608)))]) none,
  .mk (some 4) (.build 145 #[(0, (.const (.int .i64 1615))), (1, (.const (.int .i64 64609)))]) none,
  .mk (some 5) (.build 145 #[(0, (.const (.int .i64 1616))), (1, (.const (.int .i64 64610)))]) none,
  .mk (some 6) (.build 145 #[(0, (.const (.int .i64 1648))), (1, (.const (.int .i64 64611)))]) none,
  .mk (some 7) (.buildSlice 142 6 #[(0, (.tmp 1)), (1, (.tmp 2)), (2, (.tmp 3)), (3, (.tmp 4)), (4, (.tmp 5)), (5, (.tmp 6))]) none,
  .mk (some 0) (.assign (.tmp 7)) none]
def c88 : PC := (.seq (.reg false r88_0) (.seq (.reg false r88_1) .ret))
theorem e88 {args : List PV} {h : Heap} {K : PV → Heap → Prop} (hl : args.length = 0) (s : pwp Try.prog [] c88 (fin Try.prog [.tmp 0] h K) (slots0 (olds args)) h) : CanP Try.prog 88 args h K :=
  can_of2 (n := 8) mixed Try.func88 rfl (by kernel_rfl) (by rw [hl]; kernel_rfl) rfl (by kernel_rfl) s
/-! ### naskh.forms.Unpile: function 66 -/
def r66_0 : List PS := [.mk (some 2) (.assign (.const (.int .i64 0))) none,
  .mk (some 3) (.assign (.const (.bool false))) none]
def r66_1 : List PS := [.mk (some 6) (.call ⟨(.value (.func 88)), #[], #[]⟩) none,
  .mk (some 7) (.call ⟨(.builtin .len), #[(.tmp 6)], #[142]⟩) none,
  .mk (some 8) (.move (.const (.int .i64 0))) none]
def r66_2 : List PS := [.mk (some 9) (.binOp .lss 3 (.tmp 8) (.tmp 7) 3) none]
def r66_3 : List PS := [.mk (some 10) (.indexAddr 142 (.tmp 6) (.tmp 8)) none,
  .mk (some 11) (.load 145 (.tmp 10)) none,
  .mk (some 5) (.alloc 145) none,
  .mk none (.store 145 (.tmp 5) (.tmp 11)) none,
  .frz 5]
def r66_4 : List PS := [.mk (some 12) (.fieldAddr 145 (.tmp 5) 1) none,
  .mk (some 13) (.load 3 (.tmp 12)) none,
  .mk (some 14) (.move (.tmp 0)) none,
  .mk (some 15) (.binOp .eql 3 (.tmp 13) (.tmp 14) 3) none]
def r66_5 : List PS := [.mk (some 16) (.fieldAddr 145 (.tmp 5) 0) none,
  .mk (some 17) (.load 3 (.tmp 16)) none,
  .mk (some 2) (.assign (.tmp 17)) none,
  .mk (some 3) (.assign (.const (.bool true))) none]
def r66_6 : List PS := [.mk (some 18) (.binOp .add 3 (.tmp 8) (.const (.int .i64 1)) 3) none,
  .mk (some 8) (.move (.tmp 18)) none]
def r66_7 : List PS := [.mk (some 2) (.assign (.const (.int .i64 0))) none,
  .mk (some 3) (.assign (.const (.bool false))) none]
def c66 : PC := (.seq (.reg false r66_0) (.seq (.seq (.reg false r66_1) (.block 0 (.loop (.seq (.reg false r66_2) (.seq (.cond (.tmp 9) .skip (.exit 0)) (.seq (.block 1 (.seq (.reg false r66_3) (.seq (.reg false r66_4) (.cond (.tmp 15) (.seq (.reg false r66_5) .ret) .skip)))) (.reg false r66_6))))))) (.seq (.reg false r66_7) .ret)))
theorem e66 {args : List PV} {h : Heap} {K : PV → Heap → Prop} (hl : args.length = 1) (s : pwp Try.prog [5] c66 (fin Try.prog [.tmp 2, .tmp 3] h K) (slots0 (olds args)) h) : CanP Try.prog 66 args h K :=
  can_of2 (n := 19) mixed Try.func66 rfl (by kernel_rfl) (by rw [hl]; kernel_rfl) rfl (by kernel_rfl) s
/-! ### naskh.forms.kinds: function 45 -/
def r45_0 : List PS := [.mk (some 2) (.alloc 93) none]
def r45_1 : List PS := [.mk (some 3) (.alloc 93) none]
def r45_2 : List PS := [.mk (some 5) (.move (.tmp 0)) none,
  .mk (some 6) (.call ⟨(.value (.func 63)), #[(.tmp 5)], #[3]⟩) none,
  .mk (some 4) (.move (.tmp 6)) none,
  .mk (some 7) (.extract (.tmp 4) 0) none,
  .mk (some 8) (.extract (.tmp 4) 1) none,
  .mk (some 9) (.extract (.tmp 4) 2) none,
  .mk (some 10) (.indexAddr 93 (.tmp 3) (.const (.int .i64 0))) none,
  .mk none (.store 4 (.tmp 10) (.tmp 9)) none]
def r45_3 : List PS := [.mk (some 12) (.move (.tmp 0)) none,
  .mk (some 13) (.call ⟨(.value (.func 64)), #[(.tmp 12)], #[3]⟩) none,
  .mk (some 11) (.move (.tmp 13)) none,
  .mk (some 14) (.extract (.tmp 11) 0) none,
  .mk (some 15) (.extract (.tmp 11) 1) none,
  .mk (some 16) (.extract (.tmp 11) 2) none,
  .mk (some 17) (.indexAddr 93 (.tmp 3) (.const (.int .i64 1))) none,
  .mk none (.store 4 (.tmp 17) (.tmp 16)) none]
def r45_4 : List PS := [.mk (some 19) (.move (.tmp 0)) none,
  .mk (some 20) (.call ⟨(.value (.func 65)), #[(.tmp 19)], #[3]⟩) none,
  .mk (some 18) (.move (.tmp 20)) none,
  .mk (some 21) (.extract (.tmp 18) 0) none,
  .mk (some 22) (.extract (.tmp 18) 1) none,
  .mk (some 23) (.extract (.tmp 18) 2) none,
  .mk (some 24) (.indexAddr 93 (.tmp 3) (.const (.int .i64 2))) none,
  .mk none (.store 4 (.tmp 24) (.tmp 23)) none]
def r45_5 : List PS := [.mk (some 26) (.move (.tmp 0)) none,
  .mk (some 27) (.call ⟨(.value (.func 66)), #[(.tmp 26)], #[3]⟩) none,
  .mk (some 25) (.move (.tmp 27)) none,
  .mk (some 28) (.extract (.tmp 25) 0) none,
  .mk (some 29) (.extract (.tmp 25) 1) none,
  .mk (some 30) (.indexAddr 93 (.tmp 3) (.const (.int .i64 3))) none,
  .mk none (.store 4 (.tmp 30) (.tmp 29)) none]
def r45_6 : List PS := [.mk (some 31) (.load 93 (.tmp 3)) none,
  .mk none (.store 93 (.tmp 2) (.tmp 31)) none]
def c45 : PC := (.seq (.reg false r45_0) (.seq (.reg false r45_1) (.seq (.reg false r45_2) (.seq (.reg false r45_3) (.seq (.reg false r45_4) (.seq (.reg false r45_5) (.seq (.reg false r45_6) .ret)))))))
theorem e45 {args : List PV} {h : Heap} {K : PV → Heap → Prop} (hl : args.length = 1) (s : pwp Try.prog [2, 3] c45 (fin Try.prog [.cell 2 93] h K) (slots0 (olds args)) h) : CanP Try.prog 45 args h K :=
  can_of2 (n := 32) mixed Try.func45 rfl (by kernel_rfl) (by rw [hl]; kernel_rfl) rfl (by kernel_rfl) s
/-! ### naskh.forms.Presented: function 29 -/
def r29_0 : List PS := [.mk (some 2) (.assign (.const (.bool false))) none]
def r29_1 : List PS := [.mk (some 3) (.alloc 93) none]
def r29_2 : List PS := [.mk (some 4) (.move (.tmp 0)) none,
  .mk (some 5) (.binOp .eql 3 (.tmp 4) (.const (.int .i64 65139)) 3) none,
  .mk (some 6) (.move (.tmp 5)) none,
  .mk (some 7) (.move (.tmp 0)) (some (6, false)),
  .mk (some 8) (.call ⟨(.value (.func 45)), #[(.tmp 7)], #[3]⟩) (some (6, false)),
  .mk (some 9) (.load 93 (.tmp 3)) (some (6, false)),
  .mk (some 10) (.binOp .neq 93 (.tmp 8) (.tmp 9) 93) (some (6, false)),
  .mk (some 11) (.pick (.tmp 6) (.const (.bool true)) (.tmp 10)) none,
  .mk (some 2) (.assign (.tmp 11)) none]
def c29 : PC := (.seq (.reg false r29_0) (.seq (.reg false r29_1) (.seq (.reg true r29_2) .ret)))
theorem e29 {args : List PV} {h : Heap} {K : PV → Heap → Prop} (hl : args.length = 1) (s : pwp Try.prog [] c29 (fin Try.prog [.tmp 2] h K) (slots0 (olds args)) h) : CanP Try.prog 29 args h K :=
  can_of2 (n := 12) mixed Try.func29 rfl (by kernel_rfl) (by rw [hl]; kernel_rfl) rfl (by kernel_rfl) s
/-! ### (*naskh.props.Props).is: function 67 -/
def r67_0 : List PS := [.mk (some 6) (.assign (.const (.bool false))) none]
def r67_1 : List PS := [.mk (some 10) (.move (.tmp 0)) none,
  .mk (some 11) (.call ⟨(.value (.func 37)), #[(.tmp 10)], #[34]⟩) none,
  .mk (some 12) (.unOp .not 4 (.tmp 11)) none]
def r67_2 : List PS := [.mk (some 6) (.assign (.const (.bool false))) none]
def r67_3 : List PS := [.mk (some 13) (.move (.tmp 0)) none,
  .mk (some 14) (.move (.tmp 1)) none,
  .mk (some 15) (.call ⟨(.value (.func 23)), #[(.tmp 13), (.tmp 14)], #[34, 3]⟩) none,
  .mk (some 7) (.assign (.tmp 15)) none]
def r67_4 : List PS := [.mk (some 16) (.move (.tmp 2)) none,
  .mk (some 17) (.call ⟨(.builtin .len), #[(.tmp 16)], #[23]⟩) none,
  .mk (some 18) (.move (.const (.int .i64 0))) none]
def r67_5 : List PS := [.mk (some 19) (.binOp .lss 3 (.tmp 18) (.tmp 17) 3) none]
def r67_6 : List PS := [.mk (some 20) (.indexAddr 23 (.tmp 16) (.tmp 18)) none,
  .mk (some 21) (.load 3 (.tmp 20)) none,
  .mk (some 9) (.assign (.tmp 21)) none]
def r67_7 : List PS := [.mk (some 22) (.move (.tmp 7)) none,
  .mk (some 23) (.move (.tmp 9)) none,
  .mk (some 24) (.binOp .eql 3 (.tmp 22) (.tmp 23) 3) none]
def r67_8 : List PS := [.mk (some 6) (.assign (.const (.bool true))) none]
def r67_9 : List PS := [.mk (some 25) (.binOp .add 3 (.tmp 18) (.const (.int .i64 1)) 3) none,
  .mk (some 18) (.move (.tmp 25)) none]
def r67_10 : List PS := [.mk (some 6) (.assign (.const (.bool false))) none]
def c67 : PC := (.seq (.reg false r67_0) (.seq (.seq (.reg false r67_1) (.cond (.tmp 12) (.seq (.reg false r67_2) .ret) .skip)) (.seq (.reg false r67_3) (.seq (.seq (.reg false r67_4) (.block 0 (.loop (.seq (.reg false r67_5) (.seq (.cond (.tmp 19) .skip (.exit 0)) (.seq (.block 1 (.seq (.reg false r67_6) (.seq (.reg false r67_7) (.cond (.tmp 24) (.seq (.reg false r67_8) .ret) .skip)))) (.reg false r67_9))))))) (.seq (.reg false r67_10) .ret)))))
theorem e67 {args : List PV} {h : Heap} {K : PV → Heap → Prop} (hl : args.length = 3) (s : pwp Try.prog [] c67 (fin Try.prog [.tmp 6] h K) (slots0 (olds args)) h) : CanP Try.prog 67 args h K :=
  can_of2 (n := 26) mixed Try.func67 rfl (by kernel_rfl) (by rw [hl]; kernel_rfl) rfl (by kernel_rfl) s
/-! ### (*naskh.props.Props).Mark: function 46 -/
def r46_0 : List PS := [.mk (some 4) (.assign (.const (.bool false))) none]
def r46_1 : List PS := [.mk (some 5) (.move (.tmp 0)) none,
  .mk (some 6) (.move (.tmp 1)) none,
  .mk (some 7) (.buildSlice 23 1 #[(0, (.const (.int .i64 8)))]) none,
  .mk (some 8) (.call ⟨(.value (.func 67)), #[(.tmp 5), (.tmp 6), (.tmp 7)], #[34, 3, 23]⟩) none,
  .mk (some 4) (.assign (.tmp 8)) none]
def c46 : PC := (.seq (.reg false r46_0) (.seq (.reg false r46_1) .ret))
theorem e46 {args : List PV} {h : Heap} {K : PV → Heap → Prop} (hl : args.length = 2) (s : pwp Try.prog [] c46 (fin Try.prog [.tmp 4] h K) (slots0 (olds args)) h) : CanP Try.prog 46 args h K :=
  can_of2 (n := 9) mixed Try.func46 rfl (by kernel_rfl) (by rw [hl]; kernel_rfl) rfl (by kernel_rfl) s
/-! ### (*naskh.lint.part).bare: function 30 -/
def r30_0 : List PS := [.mk (some 4) (.assign (.const (.bool false))) none]
def r30_1 : List PS := [.mk (some 5) (.move (.tmp 0)) none,
  .mk (some 6) (.nilCheck (.tmp 5)) none,
  .mk (some 7) (.fieldAddr 69 (.tmp 6) 0) none,
  .mk (some 8) (.load 41 (.tmp 7)) none,
  .mk (some 9) (.nilCheck (.tmp 8)) none,
  .mk (some 10) (.fieldAddr 43 (.tmp 9) 0) none,
  .mk (some 11) (.load 34 (.tmp 10)) none,
  .mk (some 12) (.move (.tmp 0)) none,
  .mk (some 13) (.nilCheck (.tmp 12)) none,
  .mk (some 14) (.fieldAddr 69 (.tmp 13) 0) none,
  .mk (some 15) (.load 41 (.tmp 14)) none,
  .mk (some 16) (.nilCheck (.tmp 15)) none,
  .mk (some 17) (.fieldAddr 43 (.tmp 16) 2) none,
  .mk (some 18) (.load 23 (.tmp 17)) none,
  .mk (some 19) (.move (.tmp 1)) none,
  .mk (some 20) (.indexAddr 23 (.tmp 18) (.tmp 19)) none,
  .mk (some 21) (.load 3 (.tmp 20)) none,
  .mk (some 22) (.call ⟨(.value (.func 46)), #[(.tmp 11), (.tmp 21)], #[34, 3]⟩) none,
  .mk (some 23) (.unOp .not 4 (.tmp 22)) none]
def r30_2 : List PS := [.mk (some 4) (.assign (.const (.bool false))) none]
def r30_3 : List PS := [.mk (some 24) (.move (.tmp 1)) none,
  .mk (some 25) (.move (.tmp 0)) none,
  .mk (some 26) (.nilCheck (.tmp 25)) none,
  .mk (some 27) (.fieldAddr 69 (.tmp 26) 1) none,
  .mk (some 28) (.fieldAddr 47 (.tmp 27) 0) none,
  .mk (some 29) (.load 3 (.tmp 28)) none,
  .mk (some 30) (.binOp .eql 3 (.tmp 24) (.tmp 29) 3) none]
def r30_4 : List PS := [.mk (some 4) (.assign (.const (.bool true))) none]
def r30_5 : List PS := [.mk (some 31) (.move (.tmp 0)) none,
  .mk (some 32) (.nilCheck (.tmp 31)) none,
  .mk (some 33) (.fieldAddr 69 (.tmp 32) 0) none,
  .mk (some 34) (.load 41 (.tmp 33)) none,
  .mk (some 35) (.nilCheck (.tmp 34)) none,
  .mk (some 36) (.fieldAddr 43 (.tmp 35) 0) none,
  .mk (some 37) (.load 34 (.tmp 36)) none,
  .mk (some 38) (.move (.tmp 0)) none,
  .mk (some 39) (.nilCheck (.tmp 38)) none,
  .mk (some 40) (.fieldAddr 69 (.tmp 39) 0) none,
  .mk (some 41) (.load 41 (.tmp 40)) none,
  .mk (some 42) (.nilCheck (.tmp 41)) none,
  .mk (some 43) (.fieldAddr 43 (.tmp 42) 2) none,
  .mk (some 44) (.load 23 (.tmp 43)) none,
  .mk (some 45) (.move (.tmp 1)) none,
  .mk (some 46) (.binOp .sub 3 (.tmp 45) (.const (.int .i64 1)) 3) none,
  .mk (some 47) (.indexAddr 23 (.tmp 44) (.tmp 46)) none,
  .mk (some 48) (.load 3 (.tmp 47)) none,
  .mk (some 49) (.call ⟨(.value (.func 23)), #[(.tmp 37), (.tmp 48)], #[34, 3]⟩) none]
def r30_6 : List PS := [.mk (some 51) (.binOp .eql 3 (.tmp 49) (.const (.int .i64 10)) 3) none,
  .mk (some 50) (.assign (.tmp 51)) none]
def r30_7 : List PS := [.mk (some 52) (.binOp .eql 3 (.tmp 49) (.const (.int .i64 11)) 3) none,
  .mk (some 50) (.assign (.tmp 52)) none]
def r30_8 : List PS := [.mk (some 53) (.binOp .eql 3 (.tmp 49) (.const (.int .i64 12)) 3) none,
  .mk (some 50) (.assign (.tmp 53)) none]
def r30_9 : List PS := [.mk (some 4) (.assign (.const (.bool true))) none]
def r30_10 : List PS := [.mk (some 4) (.assign (.const (.bool false))) none]
def c30 : PC := (.seq (.reg false r30_0) (.seq (.seq (.reg true r30_1) (.cond (.tmp 23) (.seq (.reg false r30_2) .ret) .skip)) (.seq (.seq (.reg false r30_3) (.cond (.tmp 30) (.seq (.reg false r30_4) .ret) .skip)) (.seq (.seq (.reg true r30_5) (.block 0 (.seq (.seq (.reg false r30_6) (.cond (.tmp 50) .skip (.seq (.reg false r30_7) (.cond (.tmp 50) .skip (.reg false r30_8))))) (.cond (.tmp 50) (.seq (.reg false r30_9) .ret) .skip)))) (.seq (.reg false r30_10) .ret)))))
theorem e30 {args : List PV} {h : Heap} {K : PV → Heap → Prop} (hl : args.length = 2) (s : pwp Try.prog [] c30 (fin Try.prog [.tmp 4] h K) (slots0 (olds args)) h) : CanP Try.prog 30 args h K :=
  can_of2 (n := 54) mixed Try.func30 rfl (by kernel_rfl) (by rw [hl]; kernel_rfl) rfl (by kernel_rfl) s
/-! ### (*naskh.ccc.Classes).Of: function 89 -/
def r89_0 : List PS := [.mk (some 4) (.assign (.const (.int .i64 0))) none]
def r89_1 : List PS := [.mk (some 5) (.move (.tmp 0)) none,
  .mk (some 6) (.binOp .eql 36 (.tmp 5) (.const (.pointer none)) 36) none,
  .mk (some 7) (.move (.tmp 6)) none,
  .mk (some 8) (.move (.tmp 0)) (some (7, false)),
  .mk (some 9) (.nilCheck (.tmp 8)) (some (7, false)),
  .mk (some 10) (.fieldAddr 64 (.tmp 9) 0) (some (7, false)),
  .mk (some 11) (.fieldAddr 62 (.tmp 10) 0) (some (7, false)),
  .mk (some 12) (.load 51 (.tmp 11)) (some (7, false)),
  .mk (some 13) (.binOp .eql 51 (.tmp 12) (.const (.pointer none)) 51) (some (7, false)),
  .mk (some 14) (.pick (.tmp 7) (.const (.bool true)) (.tmp 13)) none]
def r89_2 : List PS := [.mk (some 4) (.assign (.const (.int .i64 0))) none]
def r89_3 : List PS := [.mk (some 15) (.move (.tmp 0)) none,
  .mk (some 16) (.nilCheck (.tmp 15)) none,
  .mk (some 17) (.fieldAddr 64 (.tmp 16) 0) none,
  .mk (some 18) (.fieldAddr 62 (.tmp 17) 0) none,
  .mk (some 19) (.load 51 (.tmp 18)) none,
  .mk (some 20) (.move (.tmp 1)) none,
  .mk (some 21) (.call ⟨(.value (.func 39)), #[(.tmp 19), (.tmp 20)], #[51, 3]⟩) none,
  .mk (some 4) (.assign (.tmp 21)) none]
def c89 : PC := (.seq (.reg false r89_0) (.seq (.seq (.reg false r89_1) (.cond (.tmp 14) (.seq (.reg false r89_2) .ret) .skip)) (.seq (.reg false r89_3) .ret)))
theorem e89 {args : List PV} {h : Heap} {K : PV → Heap → Prop} (hl : args.length = 2) (s : pwp Try.prog [] c89 (fin Try.prog [.tmp 4] h K) (slots0 (olds args)) h) : CanP Try.prog 89 args h K :=
  can_of2 (n := 22) mixed Try.func89 rfl (by kernel_rfl) (by rw [hl]; kernel_rfl) rfl (by kernel_rfl) s
/-! ### (*naskh.ccc.Classes).before: function 68 -/
def r68_0 : List PS := [.mk (some 6) (.assign (.const (.bool false))) none]
def r68_1 : List PS := [.mk (some 8) (.move (.tmp 0)) none,
  .mk (some 9) (.move (.tmp 2)) none,
  .mk (some 10) (.call ⟨(.value (.func 89)), #[(.tmp 8), (.tmp 9)], #[36, 3]⟩) none,
  .mk (some 7) (.assign (.tmp 10)) none]
def r68_2 : List PS := [.mk (some 11) (.move (.tmp 7)) none,
  .mk (some 12) (.binOp .eql 3 (.tmp 11) (.const (.int .i64 0)) 3) none,
  .mk (some 13) (.move (.tmp 12)) none,
  .mk (some 14) (.move (.tmp 0)) (some (13, false)),
  .mk (some 15) (.move (.tmp 1)) (some (13, false)),
  .mk (some 16) (.call ⟨(.value (.func 89)), #[(.tmp 14), (.tmp 15)], #[36, 3]⟩) (some (13, false)),
  .mk (some 17) (.move (.tmp 7)) (some (13, false)),
  .mk (some 18) (.binOp .leq 3 (.tmp 16) (.tmp 17) 3) (some (13, false)),
  .mk (some 19) (.pick (.tmp 13) (.const (.bool true)) (.tmp 18)) none,
  .mk (some 6) (.assign (.tmp 19)) none]
def c68 : PC := (.seq (.reg false r68_0) (.seq (.reg false r68_1) (.seq (.reg false r68_2) .ret)))
theorem e68 {args : List PV} {h : Heap} {K : PV → Heap → Prop} (hl : args.length = 3) (s : pwp Try.prog [] c68 (fin Try.prog [.tmp 6] h K) (slots0 (olds args)) h) : CanP Try.prog 68 args h K :=
  can_of2 (n := 20) mixed Try.func68 rfl (by kernel_rfl) (by rw [hl]; kernel_rfl) rfl (by kernel_rfl) s
/-! ### (*naskh.ccc.Classes).Ordered: function 47 -/
def r47_0 : List PS := [.mk (some 4) (.assign (.const (.bool false))) none]
def r47_1 : List PS := [.mk (some 5) (.assign (.const (.int .i64 1))) none]
def r47_2 : List PS := [.mk (some 6) (.move (.tmp 5)) none,
  .mk (some 7) (.move (.tmp 1)) none,
  .mk (some 8) (.call ⟨(.builtin .len), #[(.tmp 7)], #[23]⟩) none,
  .mk (some 9) (.binOp .lss 3 (.tmp 6) (.tmp 8) 3) none]
def r47_3 : List PS := [.mk (some 12) (.move (.tmp 0)) none,
  .mk (some 13) (.move (.tmp 1)) none,
  .mk (some 14) (.move (.tmp 5)) none,
  .mk (some 15) (.binOp .sub 3 (.tmp 14) (.const (.int .i64 1)) 3) none,
  .mk (some 16) (.indexAddr 23 (.tmp 13) (.tmp 15)) none,
  .mk (some 17) (.load 3 (.tmp 16)) none,
  .mk (some 18) (.move (.tmp 1)) none,
  .mk (some 19) (.move (.tmp 5)) none,
  .mk (some 20) (.indexAddr 23 (.tmp 18) (.tmp 19)) none,
  .mk (some 21) (.load 3 (.tmp 20)) none,
  .mk (some 22) (.call ⟨(.value (.func 68)), #[(.tmp 12), (.tmp 17), (.tmp 21)], #[36, 3, 3]⟩) none,
  .mk (some 23) (.unOp .not 4 (.tmp 22)) none]
def r47_4 : List PS := [.mk (some 4) (.assign (.const (.bool false))) none]
def r47_5 : List PS := [.mk (some 10) (.move (.tmp 5)) none,
  .mk (some 11) (.binOp .add 3 (.tmp 10) (.const (.int .i64 1)) 3) none,
  .mk (some 5) (.assign (.tmp 11)) none]
def r47_6 : List PS := [.mk (some 4) (.assign (.const (.bool true))) none]
def c47 : PC := (.seq (.reg false r47_0) (.seq (.seq (.reg false r47_1) (.block 0 (.loop (.seq (.seq (.reg false r47_2) (.cond (.tmp 9) .skip (.exit 0))) (.seq (.block 1 (.seq (.reg true r47_3) (.cond (.tmp 23) (.seq (.reg false r47_4) .ret) .skip))) (.reg false r47_5)))))) (.seq (.reg false r47_6) .ret)))
theorem e47 {args : List PV} {h : Heap} {K : PV → Heap → Prop} (hl : args.length = 2) (s : pwp Try.prog [] c47 (fin Try.prog [.tmp 4] h K) (slots0 (olds args)) h) : CanP Try.prog 47 args h K :=
  can_of2 (n := 24) mixed Try.func47 rfl (by kernel_rfl) (by rw [hl]; kernel_rfl) rfl (by kernel_rfl) s
/-! ### (*naskh.lint.text).behind: function 31 -/
def r31_0 : List PS := [.mk (some 4) (.assign (.const (.bool false))) none]
def r31_1 : List PS := [.mk (some 5) (.move (.tmp 1)) none,
  .mk (some 6) (.binOp .gtr 3 (.tmp 5) (.const (.int .i64 0)) 3) none,
  .mk (some 7) (.move (.tmp 6)) none,
  .mk (some 8) (.move (.tmp 0)) (some (7, true)),
  .mk (some 9) (.nilCheck (.tmp 8)) (some (7, true)),
  .mk (some 10) (.fieldAddr 43 (.tmp 9) 1) (some (7, true)),
  .mk (some 11) (.load 36 (.tmp 10)) (some (7, true)),
  .mk (some 12) (.move (.tmp 0)) (some (7, true)),
  .mk (some 13) (.nilCheck (.tmp 12)) (some (7, true)),
  .mk (some 14) (.fieldAddr 43 (.tmp 13) 2) (some (7, true)),
  .mk (some 15) (.load 23 (.tmp 14)) (some (7, true)),
  .mk (some 16) (.move (.tmp 1)) (some (7, true)),
  .mk (some 17) (.binOp .sub 3 (.tmp 16) (.const (.int .i64 1)) 3) (some (7, true)),
  .mk (some 18) (.move (.tmp 1)) (some (7, true)),
  .mk (some 19) (.binOp .add 3 (.tmp 18) (.const (.int .i64 1)) 3) (some (7, true)),
  .mk (some 20) (.slice 23 (.tmp 15) (some (.tmp 17)) (some (.tmp 19)) none) (some (7, true)),
  .mk (some 21) (.call ⟨(.value (.func 47)), #[(.tmp 11), (.tmp 20)], #[36, 23]⟩) (some (7, true)),
  .mk (some 22) (.unOp .not 4 (.tmp 21)) (some (7, true)),
  .mk (some 23) (.pick (.tmp 7) (.tmp 22) (.const (.bool false))) none,
  .mk (some 4) (.assign (.tmp 23)) none]
def c31 : PC := (.seq (.reg false r31_0) (.seq (.reg true r31_1) .ret))
theorem e31 {args : List PV} {h : Heap} {K : PV → Heap → Prop} (hl : args.length = 2) (s : pwp Try.prog [] c31 (fin Try.prog [.tmp 4] h K) (slots0 (olds args)) h) : CanP Try.prog 31 args h K :=
  can_of2 (n := 24) mixed Try.func31 rfl (by kernel_rfl) (by rw [hl]; kernel_rfl) rfl (by kernel_rfl) s
/-! ### naskh.props.rows: function 69 -/
def r69_0 : List PS := [.mk (some 0) (.alloc 115) none]
def r69_1 : List PS := [.mk (some 1) (.build 114 #[(0, (.const (.int .i64 48))), (1, (.const (.int .i64 1)))]) none,
  .mk (some 2) (.build 114 #[(0, (.const (.int .i64 1632))), (1, (.const (.int .i64 2)))]) none,
  .mk (some 3) (.build 114 #[(0, (.const (.int .i64 1776))), (1, (.const (.int .i64 3)))]) none,
  .mk (some 4) (.build 115 #[(0, (.tmp 1)), (1, (.tmp 2)), (2, (.tmp 3))]) none,
  .mk none (.store 115 (.tmp 0) (.tmp 4)) none]
def c69 : PC := (.seq (.reg false r69_0) (.seq (.reg false r69_1) .ret))
theorem e69 {args : List PV} {h : Heap} {K : PV → Heap → Prop} (hl : args.length = 0) (s : pwp Try.prog [0] c69 (fin Try.prog [.cell 0 115] h K) (slots0 (olds args)) h) : CanP Try.prog 69 args h K :=
  can_of2 (n := 5) mixed Try.func69 rfl (by kernel_rfl) (by rw [hl]; kernel_rfl) rfl (by kernel_rfl) s
/-! ### (*naskh.props.Props).Digit: function 48 -/
def r48_0 : List PS := [.mk (some 4) (.assign (.const (.int .i64 0))) none,
  .mk (some 5) (.assign (.const (.int .i64 0))) none]
def r48_1 : List PS := [.mk (some 8) (.move (.tmp 0)) none,
  .mk (some 9) (.call ⟨(.value (.func 37)), #[(.tmp 8)], #[34]⟩) none,
  .mk (some 10) (.unOp .not 4 (.tmp 9)) none]
def r48_2 : List PS := [.mk (some 4) (.assign (.const (.int .i64 0))) none,
  .mk (some 5) (.assign (.const (.int .i64 0))) none]
def r48_3 : List PS := [.mk (some 11) (.call ⟨(.value (.func 69)), #[], #[]⟩) none,
  .mk (some 12) (.move (.const (.int .i64 0))) none]
def r48_4 : List PS := [.mk (some 13) (.binOp .lss 3 (.tmp 12) (.const (.int .i64 3)) 3) none]
def r48_5 : List PS := [.mk (some 14) (.index 115 (.tmp 11) (.tmp 12)) none,
  .mk (some 7) (.alloc 114) none,
  .mk none (.store 114 (.tmp 7) (.tmp 14)) none,
  .frz 7]
def r48_6 : List PS := [.mk (some 15) (.move (.tmp 1)) none,
  .mk (some 16) (.fieldAddr 114 (.tmp 7) 0) none,
  .mk (some 17) (.load 3 (.tmp 16)) none,
  .mk (some 18) (.binOp .geq 3 (.tmp 15) (.tmp 17) 3) none,
  .mk (some 19) (.move (.tmp 18)) none,
  .mk (some 20) (.move (.tmp 1)) (some (19, true)),
  .mk (some 21) (.fieldAddr 114 (.tmp 7) 0) (some (19, true)),
  .mk (some 22) (.load 3 (.tmp 21)) (some (19, true)),
  .mk (some 23) (.binOp .add 3 (.tmp 22) (.const (.int .i64 10)) 3) (some (19, true)),
  .mk (some 24) (.binOp .lss 3 (.tmp 20) (.tmp 23) 3) (some (19, true)),
  .mk (some 25) (.pick (.tmp 19) (.tmp 24) (.const (.bool false))) none]
def r48_7 : List PS := [.mk (some 26) (.move (.tmp 1)) none,
  .mk (some 27) (.fieldAddr 114 (.tmp 7) 0) none,
  .mk (some 28) (.load 3 (.tmp 27)) none,
  .mk (some 29) (.binOp .sub 3 (.tmp 26) (.tmp 28) 3) none,
  .mk (some 30) (.fieldAddr 114 (.tmp 7) 1) none,
  .mk (some 31) (.load 3 (.tmp 30)) none,
  .mk (some 4) (.assign (.tmp 29)) none,
  .mk (some 5) (.assign (.tmp 31)) none]
def r48_8 : List PS := [.mk (some 32) (.binOp .add 3 (.tmp 12) (.const (.int .i64 1)) 3) none,
  .mk (some 12) (.move (.tmp 32)) none]
def r48_9 : List PS := [.mk (some 4) (.assign (.const (.int .i64 0))) none,
  .mk (some 5) (.assign (.const (.int .i64 0))) none]
def c48 : PC := (.seq (.reg false r48_0) (.seq (.seq (.reg false r48_1) (.cond (.tmp 10) (.seq (.reg false r48_2) .ret) .skip)) (.seq (.seq (.reg false r48_3) (.block 0 (.loop (.seq (.reg false r48_4) (.seq (.cond (.tmp 13) .skip (.exit 0)) (.seq (.block 1 (.seq (.reg false r48_5) (.seq (.reg false r48_6) (.cond (.tmp 25) (.seq (.reg true r48_7) .ret) .skip)))) (.reg false r48_8))))))) (.seq (.reg false r48_9) .ret))))
theorem e48 {args : List PV} {h : Heap} {K : PV → Heap → Prop} (hl : args.length = 2) (s : pwp Try.prog [7] c48 (fin Try.prog [.tmp 4, .tmp 5] h K) (slots0 (olds args)) h) : CanP Try.prog 48 args h K :=
  can_of2 (n := 33) mixed Try.func48 rfl (by kernel_rfl) (by rw [hl]; kernel_rfl) rfl (by kernel_rfl) s
/-! ### (*naskh.lint.text).mixed: function 32 -/
def r32_0 : List PS := [.mk (some 4) (.assign (.const (.bool false))) none]
def r32_1 : List PS := [.mk (some 9) (.move (.tmp 1)) none,
  .mk (some 10) (.binOp .eql 3 (.tmp 9) (.const (.int .i64 0)) 3) none]
def r32_2 : List PS := [.mk (some 4) (.assign (.const (.bool false))) none]
def r32_3 : List PS := [.mk (some 12) (.move (.tmp 0)) none,
  .mk (some 13) (.nilCheck (.tmp 12)) none,
  .mk (some 14) (.fieldAddr 43 (.tmp 13) 0) none,
  .mk (some 15) (.load 34 (.tmp 14)) none,
  .mk (some 16) (.move (.tmp 0)) none,
  .mk (some 17) (.nilCheck (.tmp 16)) none,
  .mk (some 18) (.fieldAddr 43 (.tmp 17) 2) none,
  .mk (some 19) (.load 23 (.tmp 18)) none,
  .mk (some 20) (.move (.tmp 1)) none,
  .mk (some 21) (.binOp .sub 3 (.tmp 20) (.const (.int .i64 1)) 3) none,
  .mk (some 22) (.indexAddr 23 (.tmp 19) (.tmp 21)) none,
  .mk (some 23) (.load 3 (.tmp 22)) none,
  .mk (some 24) (.call ⟨(.value (.func 48)), #[(.tmp 15), (.tmp 23)], #[34, 3]⟩) none,
  .mk (some 11) (.move (.tmp 24)) none,
  .mk (some 25) (.extract (.tmp 11) 0) none,
  .mk (some 26) (.extract (.tmp 11) 1) none,
  .mk (some 5) (.assign (.tmp 25)) none,
  .mk (some 6) (.assign (.tmp 26)) none]
def r32_4 : List PS := [.mk (some 28) (.move (.tmp 0)) none,
  .mk (some 29) (.nilCheck (.tmp 28)) none,
  .mk (some 30) (.fieldAddr 43 (.tmp 29) 0) none,
  .mk (some 31) (.load 34 (.tmp 30)) none,
  .mk (some 32) (.move (.tmp 0)) none,
  .mk (some 33) (.nilCheck (.tmp 32)) none,
  .mk (some 34) (.fieldAddr 43 (.tmp 33) 2) none,
  .mk (some 35) (.load 23 (.tmp 34)) none,
  .mk (some 36) (.move (.tmp 1)) none,
  .mk (some 37) (.indexAddr 23 (.tmp 35) (.tmp 36)) none,
  .mk (some 38) (.load 3 (.tmp 37)) none,
  .mk (some 39) (.call ⟨(.value (.func 48)), #[(.tmp 31), (.tmp 38)], #[34, 3]⟩) none,
  .mk (some 27) (.move (.tmp 39)) none,
  .mk (some 40) (.extract (.tmp 27) 0) none,
  .mk (some 41) (.extract (.tmp 27) 1) none,
  .mk (some 7) (.assign (.tmp 40)) none,
  .mk (some 8) (.assign (.tmp 41)) none]
def r32_5 : List PS := [.mk (some 42) (.move (.tmp 6)) none,
  .mk (some 43) (.move (.tmp 8)) none,
  .mk (some 44) (.binOp .neq 3 (.tmp 42) (.tmp 43) 3) none,
  .mk (some 45) (.move (.tmp 44)) none,
  .mk (some 46) (.move (.tmp 6)) (some (45, true)),
  .mk (some 47) (.binOp .neq 3 (.tmp 46) (.const (.int .i64 0)) 3) (some (45, true)),
  .mk (some 48) (.pick (.tmp 45) (.tmp 47) (.const (.bool false))) none,
  .mk (some 49) (.move (.tmp 48)) none,
  .mk (some 50) (.move (.tmp 8)) (some (49, true)),
  .mk (some 51) (.binOp .neq 3 (.tmp 50) (.const (.int .i64 0)) 3) (some (49, true)),
  .mk (some 52) (.pick (.tmp 49) (.tmp 51) (.const (.bool false))) none,
  .mk (some 4) (.assign (.tmp 52)) none]
def c32 : PC := (.seq (.reg false r32_0) (.seq (.seq (.reg false r32_1) (.cond (.tmp 10) (.seq (.reg false r32_2) .ret) .skip)) (.seq (.reg true r32_3) (.seq (.reg true r32_4) (.seq (.reg false r32_5) .ret)))))
theorem e32 {args : List PV} {h : Heap} {K : PV → Heap → Prop} (hl : args.length = 2) (s : pwp Try.prog [] c32 (fin Try.prog [.tmp 4] h K) (slots0 (olds args)) h) : CanP Try.prog 32 args h K :=
  can_of2 (n := 53) mixed Try.func32 rfl (by kernel_rfl) (by rw [hl]; kernel_rfl) rfl (by kernel_rfl) s
/-! ### naskh.lint.row$1: function 49 -/
def r49_0 : List PS := [.mk (some 2) (.assign (.const (.bool false))) none]
def r49_1 : List PS := [.mk (some 3) (.move (.tmp 0)) none,
  .mk (some 4) (.binOp .neq 3 (.tmp 3) (.const (.int .i64 1600)) 3) none,
  .mk (some 2) (.assign (.tmp 4)) none]
def c49 : PC := (.seq (.reg false r49_0) (.seq (.reg false r49_1) .ret))
theorem e49 {args : List PV} {h : Heap} {K : PV → Heap → Prop} (hl : args.length = 1) (s : pwp Try.prog [] c49 (fin Try.prog [.tmp 2] h K) (slots0 (olds args)) h) : CanP Try.prog 49 args h K :=
  can_of2 (n := 5) mixed Try.func49 rfl (by kernel_rfl) (by rw [hl]; kernel_rfl) rfl (by kernel_rfl) s
/-! ### naskh.lint.row: function 33 -/
def r33_0 : List PS := [.mk (some 4) (.assign (.const (.bool false))) none]
def r33_1 : List PS := [.mk (some 6) (.move (.tmp 1)) none,
  .mk (some 7) (.binOp .lss 3 (.tmp 6) (.const (.int .i64 2)) 3) none]
def r33_2 : List PS := [.mk (some 4) (.assign (.const (.bool false))) none]
def r33_3 : List PS := [.mk (some 5) (.assign (.func 49)) none]
def r33_4 : List PS := [.mk (some 8) (.move (.tmp 0)) none,
  .mk (some 9) (.move (.tmp 1)) none,
  .mk (some 10) (.binOp .sub 3 (.tmp 9) (.const (.int .i64 2)) 3) none,
  .mk (some 11) (.move (.tmp 1)) none,
  .mk (some 12) (.binOp .add 3 (.tmp 11) (.const (.int .i64 1)) 3) none,
  .mk (some 13) (.slice 23 (.tmp 8) (some (.tmp 10)) (some (.tmp 12)) none) none,
  .mk (some 14) (.move (.tmp 5)) none,
  .mk (some 15) (.call ⟨(.value (.func 50)), #[(.tmp 13), (.tmp 14)], #[23, 70]⟩) none,
  .mk (some 16) (.unOp .not 4 (.tmp 15)) none,
  .mk (some 4) (.assign (.tmp 16)) none]
def c33 : PC := (.seq (.reg false r33_0) (.seq (.seq (.reg false r33_1) (.cond (.tmp 7) (.seq (.reg false r33_2) .ret) .skip)) (.seq (.reg false r33_3) (.seq (.reg false r33_4) .ret))))
theorem e33 {args : List PV} {h : Heap} {K : PV → Heap → Prop} (hl : args.length = 2) (s : pwp Try.prog [] c33 (fin Try.prog [.tmp 4] h K) (slots0 (olds args)) h) : CanP Try.prog 33 args h K :=
  can_of2 (n := 17) mixed Try.func33 rfl (by kernel_rfl) (by rw [hl]; kernel_rfl) rfl (by kernel_rfl) s
/-! ### (*naskh.lint.part).is: function 17 -/
def r17_0 : List PS := [.mk (some 6) (.assign (.const (.bool false))) none]
def r17_1 : List PS := [.mk (some 7) (.move (.tmp 1)) none]
def r17_2 : List PS := [.mk (some 9) (.binOp .eql 3 (.tmp 7) (.const (.int .i64 1)) 3) none,
  .mk (some 8) (.assign (.tmp 9)) none]
def r17_3 : List PS := [.mk (some 10) (.move (.tmp 0)) none,
  .mk (some 11) (.nilCheck (.tmp 10)) none,
  .mk (some 12) (.fieldAddr 69 (.tmp 11) 0) none,
  .mk (some 13) (.load 41 (.tmp 12)) none,
  .mk (some 14) (.move (.tmp 2)) none,
  .mk (some 15) (.call ⟨(.value (.func 27)), #[(.tmp 13), (.tmp 14)], #[41, 3]⟩) none,
  .mk (some 6) (.assign (.tmp 15)) none]
def r17_4 : List PS := [.mk (some 17) (.binOp .eql 3 (.tmp 7) (.const (.int .i64 2)) 3) none,
  .mk (some 16) (.assign (.tmp 17)) none]
def r17_5 : List PS := [.mk (some 18) (.move (.tmp 0)) none,
  .mk (some 19) (.move (.tmp 0)) none,
  .mk (some 20) (.nilCheck (.tmp 19)) none,
  .mk (some 21) (.fieldAddr 69 (.tmp 20) 2) none,
  .mk (some 22) (.load 23 (.tmp 21)) none,
  .mk (some 23) (.move (.tmp 2)) none,
  .mk (some 24) (.call ⟨(.value (.func 28)), #[(.tmp 18), (.tmp 22), (.tmp 23)], #[48, 23, 3]⟩) none,
  .mk (some 6) (.assign (.tmp 24)) none]
def r17_6 : List PS := [.mk (some 26) (.binOp .eql 3 (.tmp 7) (.const (.int .i64 3)) 3) none,
  .mk (some 25) (.assign (.tmp 26)) none]
def r17_7 : List PS := [.mk (some 27) (.move (.tmp 0)) none,
  .mk (some 28) (.move (.tmp 0)) none,
  .mk (some 29) (.nilCheck (.tmp 28)) none,
  .mk (some 30) (.fieldAddr 69 (.tmp 29) 3) none,
  .mk (some 31) (.load 23 (.tmp 30)) none,
  .mk (some 32) (.move (.tmp 2)) none,
  .mk (some 33) (.call ⟨(.value (.func 28)), #[(.tmp 27), (.tmp 31), (.tmp 32)], #[48, 23, 3]⟩) none,
  .mk (some 6) (.assign (.tmp 33)) none]
def r17_8 : List PS := [.mk (some 35) (.binOp .eql 3 (.tmp 7) (.const (.int .i64 4)) 3) none,
  .mk (some 34) (.assign (.tmp 35)) none]
def r17_9 : List PS := [.mk (some 36) (.move (.tmp 0)) none,
  .mk (some 37) (.nilCheck (.tmp 36)) none,
  .mk (some 38) (.fieldAddr 69 (.tmp 37) 0) none,
  .mk (some 39) (.load 41 (.tmp 38)) none,
  .mk (some 40) (.nilCheck (.tmp 39)) none,
  .mk (some 41) (.fieldAddr 43 (.tmp 40) 2) none,
  .mk (some 42) (.load 23 (.tmp 41)) none,
  .mk (some 43) (.move (.tmp 2)) none,
  .mk (some 44) (.indexAddr 23 (.tmp 42) (.tmp 43)) none,
  .mk (some 45) (.load 3 (.tmp 44)) none,
  .mk (some 46) (.call ⟨(.value (.func 29)), #[(.tmp 45)], #[3]⟩) none,
  .mk (some 6) (.assign (.tmp 46)) none]
def r17_10 : List PS := [.mk (some 48) (.binOp .eql 3 (.tmp 7) (.const (.int .i64 5)) 3) none,
  .mk (some 47) (.assign (.tmp 48)) none]
def r17_11 : List PS := [.mk (some 49) (.move (.tmp 0)) none,
  .mk (some 50) (.move (.tmp 2)) none,
  .mk (some 51) (.call ⟨(.value (.func 30)), #[(.tmp 49), (.tmp 50)], #[48, 3]⟩) none,
  .mk (some 6) (.assign (.tmp 51)) none]
def r17_12 : List PS := [.mk (some 53) (.binOp .eql 3 (.tmp 7) (.const (.int .i64 6)) 3) none,
  .mk (some 52) (.assign (.tmp 53)) none]
def r17_13 : List PS := [.mk (some 54) (.move (.tmp 0)) none,
  .mk (some 55) (.nilCheck (.tmp 54)) none,
  .mk (some 56) (.fieldAddr 69 (.tmp 55) 0) none,
  .mk (some 57) (.load 41 (.tmp 56)) none,
  .mk (some 58) (.move (.tmp 2)) none,
  .mk (some 59) (.call ⟨(.value (.func 31)), #[(.tmp 57), (.tmp 58)], #[41, 3]⟩) none,
  .mk (some 6) (.assign (.tmp 59)) none]
def r17_14 : List PS := [.mk (some 61) (.binOp .eql 3 (.tmp 7) (.const (.int .i64 7)) 3) none,
  .mk (some 60) (.assign (.tmp 61)) none]
def r17_15 : List PS := [.mk (some 62) (.move (.tmp 0)) none,
  .mk (some 63) (.nilCheck (.tmp 62)) none,
  .mk (some 64) (.fieldAddr 69 (.tmp 63) 0) none,
  .mk (some 65) (.load 41 (.tmp 64)) none,
  .mk (some 66) (.move (.tmp 2)) none,
  .mk (some 67) (.call ⟨(.value (.func 32)), #[(.tmp 65), (.tmp 66)], #[41, 3]⟩) none,
  .mk (some 6) (.assign (.tmp 67)) none]
def r17_16 : List PS := [.mk (some 69) (.binOp .eql 3 (.tmp 7) (.const (.int .i64 8)) 3) none,
  .mk (some 68) (.assign (.tmp 69)) none]
def r17_17 : List PS := [.mk (some 70) (.move (.tmp 0)) none,
  .mk (some 71) (.nilCheck (.tmp 70)) none,
  .mk (some 72) (.fieldAddr 69 (.tmp 71) 0) none,
  .mk (some 73) (.load 41 (.tmp 72)) none,
  .mk (some 74) (.nilCheck (.tmp 73)) none,
  .mk (some 75) (.fieldAddr 43 (.tmp 74) 2) none,
  .mk (some 76) (.load 23 (.tmp 75)) none,
  .mk (some 77) (.move (.tmp 2)) none,
  .mk (some 78) (.call ⟨(.value (.func 33)), #[(.tmp 76), (.tmp 77)], #[23, 3]⟩) none,
  .mk (some 6) (.assign (.tmp 78)) none]
def r17_18 : List PS := [.mk (some 6) (.assign (.const (.bool false))) none]
def c17 : PC := (.seq (.reg false r17_0) (.seq (.seq (.reg false r17_1) (.block 0 (.seq (.reg false r17_2) (.cond (.tmp 8) (.seq (.reg false r17_3) .ret) (.seq (.reg false r17_4) (.cond (.tmp 16) (.seq (.reg false r17_5) .ret) (.seq (.reg false r17_6) (.cond (.tmp 25) (.seq (.reg false r17_7) .ret) (.seq (.reg false r17_8) (.cond (.tmp 34) (.seq (.reg false r17_9) .ret) (.seq (.reg false r17_10) (.cond (.tmp 47) (.seq (.reg false r17_11) .ret) (.seq (.reg false r17_12) (.cond (.tmp 52) (.seq (.reg false r17_13) .ret) (.seq (.reg false r17_14) (.cond (.tmp 60) (.seq (.reg false r17_15) .ret) (.seq (.reg false r17_16) (.cond (.tmp 68) (.seq (.reg false r17_17) .ret) .skip)))))))))))))))))) (.seq (.reg false r17_18) .ret)))
theorem e17 {args : List PV} {h : Heap} {K : PV → Heap → Prop} (hl : args.length = 3) (s : pwp Try.prog [] c17 (fin Try.prog [.tmp 6] h K) (slots0 (olds args)) h) : CanP Try.prog 17 args h K :=
  can_of2 (n := 79) mixed Try.func17 rfl (by kernel_rfl) (by rw [hl]; kernel_rfl) rfl (by kernel_rfl) s
/-! ### naskh.lint.Check: function 9 -/
def r9_0 : List PS := [.mk (some 6) (.assign (.const (.slice none 0 0))) none]
def r9_1 : List PS := [.mk (some 14) (.move (.tmp 0)) none,
  .mk (some 15) (.move (.tmp 1)) none,
  .mk (some 16) (.move (.tmp 2)) none,
  .mk (some 17) (.build 43 #[(0, (.tmp 14)), (1, (.tmp 15)), (2, (.tmp 16))]) none,
  .mk (some 18) (.box 43 (.tmp 17)) none,
  .mk (some 7) (.assign (.tmp 18)) none]
def r9_2 : List PS := [.mk (some 8) (.assign (.const (.slice none 0 0))) none]
def r9_3 : List PS := [.mk (some 19) (.move (.tmp 0)) none,
  .mk (some 20) (.move (.tmp 2)) none,
  .mk (some 21) (.call ⟨(.value (.func 15)), #[(.tmp 19), (.tmp 20)], #[34, 23]⟩) none,
  .mk (some 22) (.call ⟨(.builtin .len), #[(.tmp 21)], #[44]⟩) none,
  .mk (some 23) (.move (.const (.int .i64 0))) none]
def r9_4 : List PS := [.mk (some 24) (.binOp .lss 3 (.tmp 23) (.tmp 22) 3) none]
def r9_5 : List PS := [.mk (some 25) (.indexAddr 44 (.tmp 21) (.tmp 23)) none,
  .mk (some 26) (.load 47 (.tmp 25)) none,
  .mk (some 10) (.alloc 47) none,
  .mk none (.store 47 (.tmp 10) (.tmp 26)) none,
  .frz 10]
def r9_6 : List PS := [.mk (some 27) (.move (.tmp 7)) none,
  .mk (some 28) (.load 47 (.tmp 10)) none,
  .mk (some 29) (.call ⟨(.value (.func 16)), #[(.tmp 27), (.tmp 28)], #[41, 47]⟩) none,
  .mk (some 11) (.assign (.tmp 29)) none]
def r9_7 : List PS := [.mk (some 30) (.fieldAddr 47 (.tmp 10) 0) none,
  .mk (some 31) (.load 3 (.tmp 30)) none,
  .mk (some 12) (.assign (.tmp 31)) none]
def r9_8 : List PS := [.mk (some 32) (.move (.tmp 12)) none,
  .mk (some 33) (.fieldAddr 47 (.tmp 10) 1) none,
  .mk (some 34) (.load 3 (.tmp 33)) none,
  .mk (some 35) (.binOp .lss 3 (.tmp 32) (.tmp 34) 3) none]
def r9_9 : List PS := [.mk (some 13) (.assign (.const (.int .i64 1))) none]
def r9_10 : List PS := [.mk (some 38) (.move (.tmp 13)) none,
  .mk (some 39) (.binOp .leq 3 (.tmp 38) (.const (.int .i64 8)) 3) none]
def r9_11 : List PS := [.mk (some 42) (.move (.tmp 11)) none,
  .mk (some 43) (.move (.tmp 13)) none,
  .mk (some 44) (.move (.tmp 12)) none,
  .mk (some 45) (.call ⟨(.value (.func 17)), #[(.tmp 42), (.tmp 43), (.tmp 44)], #[48, 3, 3]⟩) none]
def r9_12 : List PS := [.mk (some 46) (.move (.tmp 8)) none,
  .mk (some 47) (.move (.tmp 12)) none,
  .mk (some 48) (.move (.tmp 13)) none,
  .mk (some 49) (.build 27 #[(0, (.tmp 47)), (1, (.tmp 48))]) none,
  .mk (some 50) (.buildSlice 22 1 #[(0, (.tmp 49))]) none,
  .mk (some 51) (.call ⟨(.builtin .append), #[(.tmp 46), (.tmp 50)], #[22, 22]⟩) none,
  .mk (some 8) (.assign (.tmp 51)) none]
def r9_13 : List PS := [.mk (some 40) (.move (.tmp 13)) none,
  .mk (some 41) (.binOp .add 3 (.tmp 40) (.const (.int .i64 1)) 3) none,
  .mk (some 13) (.assign (.tmp 41)) none]
def r9_14 : List PS := [.mk (some 36) (.move (.tmp 12)) none,
  .mk (some 37) (.binOp .add 3 (.tmp 36) (.const (.int .i64 1)) 3) none,
  .mk (some 12) (.assign (.tmp 37)) none]
def r9_15 : List PS := [.mk (some 52) (.binOp .add 3 (.tmp 23) (.const (.int .i64 1)) 3) none,
  .mk (some 23) (.move (.tmp 52)) none]
def r9_16 : List PS := [.mk (some 53) (.move (.tmp 8)) none,
  .mk (some 6) (.assign (.tmp 53)) none]
def c9 : PC := (.seq (.reg false r9_0) (.seq (.reg false r9_1) (.seq (.reg false r9_2) (.seq (.seq (.reg false r9_3) (.block 0 (.loop (.seq (.reg false r9_4) (.seq (.cond (.tmp 24) .skip (.exit 0)) (.seq (.block 1 (.seq (.reg false r9_5) (.seq (.reg false r9_6) (.seq (.reg false r9_7) (.block 2 (.loop (.seq (.seq (.reg false r9_8) (.cond (.tmp 35) .skip (.exit 2))) (.seq (.block 3 (.seq (.reg false r9_9) (.block 4 (.loop (.seq (.seq (.reg false r9_10) (.cond (.tmp 39) .skip (.exit 4))) (.seq (.block 5 (.seq (.reg false r9_11) (.cond (.tmp 45) (.reg false r9_12) .skip))) (.reg false r9_13))))))) (.reg false r9_14))))))))) (.reg false r9_15))))))) (.seq (.reg false r9_16) .ret)))))
theorem e9 {args : List PV} {h : Heap} {K : PV → Heap → Prop} (hl : args.length = 3) (s : pwp Try.prog [10] c9 (fin Try.prog [.tmp 6] h K) (slots0 (olds args)) h) : CanP Try.prog 9 args h K :=
  can_of2 (n := 54) mixed Try.func9 rfl (by kernel_rfl) (by rw [hl]; kernel_rfl) rfl (by kernel_rfl) s
/-! ### naskh.trie.may: function 34 -/
def r34_0 : List PS := [.mk (some 2) (.assign (.const (.int .i64 0))) none]
def r34_1 : List PS := [.mk (some 6) (.move (.tmp 0)) none,
  .mk (some 7) (.call ⟨(.builtin .len), #[(.tmp 6)], #[55]⟩) none,
  .mk (some 8) (.binOp .gtr 3 (.tmp 7) (.const (.int .i64 4096)) 3) none]
def r34_2 : List PS := [.mk (some 2) (.assign (.const (.int .i64 6))) none]
def r34_3 : List PS := [.mk (some 3) (.assign (.const (.int .i64 (-1)))) none]
def r34_4 : List PS := [.mk (some 9) (.move (.tmp 0)) none,
  .mk (some 10) (.call ⟨(.builtin .len), #[(.tmp 9)], #[55]⟩) none,
  .mk (some 11) (.move (.const (.int .i64 0))) none]
def r34_5 : List PS := [.mk (some 12) (.binOp .lss 3 (.tmp 11) (.tmp 10) 3) none]
def r34_6 : List PS := [.mk (some 13) (.indexAddr 55 (.tmp 9) (.tmp 11)) none,
  .mk (some 14) (.load 83 (.tmp 13)) none,
  .mk (some 5) (.alloc 83) none,
  .mk none (.store 83 (.tmp 5) (.tmp 14)) none,
  .frz 5]
def r34_7 : List PS := [.mk (some 15) (.fieldAddr 83 (.tmp 5) 0) none,
  .mk (some 16) (.load 3 (.tmp 15)) none,
  .mk (some 17) (.move (.tmp 3)) none,
  .mk (some 18) (.binOp .leq 3 (.tmp 16) (.tmp 17) 3) none,
  .mk (some 19) (.move (.tmp 18)) none,
  .mk (some 20) (.fieldAddr 83 (.tmp 5) 1) (some (19, false)),
  .mk (some 21) (.load 3 (.tmp 20)) (some (19, false)),
  .mk (some 22) (.fieldAddr 83 (.tmp 5) 0) (some (19, false)),
  .mk (some 23) (.load 3 (.tmp 22)) (some (19, false)),
  .mk (some 24) (.binOp .lss 3 (.tmp 21) (.tmp 23) 3) (some (19, false)),
  .mk (some 25) (.pick (.tmp 19) (.const (.bool true)) (.tmp 24)) none,
  .mk (some 26) (.move (.tmp 25)) none,
  .mk (some 27) (.fieldAddr 83 (.tmp 5) 1) (some (26, false)),
  .mk (some 28) (.load 3 (.tmp 27)) (some (26, false)),
  .mk (some 29) (.binOp .gtr 3 (.tmp 28) (.const (.int .i64 1114111)) 3) (some (26, false)),
  .mk (some 30) (.pick (.tmp 26) (.const (.bool true)) (.tmp 29)) none]
def r34_8 : List PS := [.mk (some 2) (.assign (.const (.int .i64 10))) none]
def r34_9 : List PS := [.mk (some 31) (.fieldAddr 83 (.tmp 5) 1) none,
  .mk (some 32) (.load 3 (.tmp 31)) none,
  .mk (some 3) (.assign (.tmp 32)) none]
def r34_10 : List PS := [.mk (some 33) (.binOp .add 3 (.tmp 11) (.const (.int .i64 1)) 3) none,
  .mk (some 11) (.move (.tmp 33)) none]
def r34_11 : List PS := [.mk (some 2) (.assign (.const (.int .i64 0))) none]
def c34 : PC := (.seq (.reg false r34_0) (.seq (.seq (.reg false r34_1) (.cond (.tmp 8) (.seq (.reg false r34_2) .ret) .skip)) (.seq (.reg false r34_3) (.seq (.seq (.reg false r34_4) (.block 0 (.loop (.seq (.reg false r34_5) (.seq (.cond (.tmp 12) .skip (.exit 0)) (.seq (.block 1 (.seq (.reg false r34_6) (.seq (.seq (.reg false r34_7) (.cond (.tmp 30) (.seq (.reg false r34_8) .ret) .skip)) (.reg false r34_9)))) (.reg false r34_10))))))) (.seq (.reg false r34_11) .ret)))))
theorem e34 {args : List PV} {h : Heap} {K : PV → Heap → Prop} (hl : args.length = 1) (s : pwp Try.prog [5] c34 (fin Try.prog [.tmp 2] h K) (slots0 (olds args)) h) : CanP Try.prog 34 args h K :=
  can_of2 (n := 34) mixed Try.func34 rfl (by kernel_rfl) (by rw [hl]; kernel_rfl) rfl (by kernel_rfl) s
/-! ### naskh.trie.even: function 51 -/
def r51_0 : List PS := [.mk (some 2) (.alloc 78) none]
def r51_1 : List PS := [.mk (some 3) (.alloc 78) none]
def r51_2 : List PS := [.mk (some 5) (.move (.const (.int .i64 0))) none]
def r51_3 : List PS := [.mk (some 6) (.binOp .lss 3 (.tmp 5) (.const (.int .i64 128)) 3) none]
def r51_4 : List PS := [.mk (some 7) (.move (.tmp 5)) none,
  .mk (some 4) (.assign (.tmp 7)) none]
def r51_5 : List PS := [.mk (some 8) (.move (.tmp 4)) none,
  .mk (some 9) (.move (.tmp 0)) none,
  .mk (some 10) (.indexAddr 78 (.tmp 3) (.tmp 8)) none,
  .mk none (.store 3 (.tmp 10) (.tmp 9)) none]
def r51_6 : List PS := [.mk (some 11) (.binOp .add 3 (.tmp 5) (.const (.int .i64 1)) 3) none,
  .mk (some 5) (.move (.tmp 11)) none]
def r51_7 : List PS := [.mk (some 12) (.load 78 (.tmp 3)) none,
  .mk none (.store 78 (.tmp 2) (.tmp 12)) none]
def c51 : PC := (.seq (.reg false r51_0) (.seq (.reg false r51_1) (.seq (.seq (.reg false r51_2) (.block 0 (.loop (.seq (.reg false r51_3) (.seq (.cond (.tmp 6) .skip (.exit 0)) (.seq (.block 1 (.seq (.reg false r51_4) (.reg false r51_5))) (.reg false r51_6))))))) (.seq (.reg false r51_7) .ret))))
theorem e51 {args : List PV} {h : Heap} {K : PV → Heap → Prop} (hl : args.length = 1) (s : pwp Try.prog [2, 3] c51 (fin Try.prog [.cell 2 78] h K) (slots0 (olds args)) h) : CanP Try.prog 51 args h K :=
  can_of2 (n := 13) mixed Try.func51 rfl (by kernel_rfl) (by rw [hl]; kernel_rfl) rfl (by kernel_rfl) s
/-! ### naskh.trie.filled: function 35 -/
def r35_0 : List PS := [.mk (some 8) (.alloc 78) none,
  .mk (some 9) (.assign (.const (.int .i64 0))) none]
def r35_1 : List PS := [.mk (some 14) (.move (.tmp 3)) none,
  .mk (some 15) (.call ⟨(.value (.func 51)), #[(.tmp 14)], #[3]⟩) none,
  .mk (some 10) (.alloc 78) none,
  .mk none (.store 78 (.tmp 10) (.tmp 15)) none]
def r35_2 : List PS := [.mk (some 16) (.move (.tmp 1)) none,
  .mk (some 17) (.binOp .mul 3 (.tmp 16) (.const (.int .i64 128)) 3) none,
  .mk (some 11) (.assign (.tmp 17)) none]
def r35_3 : List PS := [.mk (some 18) (.move (.tmp 2)) none,
  .mk (some 19) (.move (.tmp 0)) none,
  .mk (some 20) (.call ⟨(.builtin .len), #[(.tmp 19)], #[55]⟩) none,
  .mk (some 21) (.binOp .lss 3 (.tmp 18) (.tmp 20) 3) none,
  .mk (some 22) (.move (.tmp 21)) none,
  .mk (some 23) (.move (.tmp 0)) (some (22, true)),
  .mk (some 24) (.move (.tmp 2)) (some (22, true)),
  .mk (some 25) (.indexAddr 55 (.tmp 23) (.tmp 24)) (some (22, true)),
  .mk (some 26) (.fieldAddr 83 (.tmp 25) 0) (some (22, true)),
  .mk (some 27) (.load 3 (.tmp 26)) (some (22, true)),
  .mk (some 28) (.move (.tmp 11)) (some (22, true)),
  .mk (some 29) (.binOp .add 3 (.tmp 28) (.const (.int .i64 128)) 3) (some (22, true)),
  .mk (some 30) (.binOp .lss 3 (.tmp 27) (.tmp 29) 3) (some (22, true)),
  .mk (some 31) (.pick (.tmp 22) (.tmp 30) (.const (.bool false))) none]
def r35_4 : List PS := [.mk (some 34) (.move (.tmp 0)) none,
  .mk (some 35) (.move (.tmp 2)) none,
  .mk (some 36) (.indexAddr 55 (.tmp 34) (.tmp 35)) none,
  .mk (some 37) (.load 83 (.tmp 36)) none,
  .mk (some 12) (.alloc 83) none,
  .mk none (.store 83 (.tmp 12) (.tmp 37)) none,
  .frz 12]
def r35_5 : List PS := [.mk (some 38) (.fieldAddr 83 (.tmp 12) 0) none,
  .mk (some 39) (.load 3 (.tmp 38)) none,
  .mk (some 40) (.move (.tmp 11)) none,
  .mk (some 41) (.call ⟨(.builtin .max), #[(.tmp 39), (.tmp 40)], #[3, 3]⟩) none,
  .mk (some 13) (.assign (.tmp 41)) none]
def r35_6 : List PS := [.mk (some 42) (.move (.tmp 13)) none,
  .mk (some 43) (.fieldAddr 83 (.tmp 12) 1) none,
  .mk (some 44) (.load 3 (.tmp 43)) none,
  .mk (some 45) (.move (.tmp 11)) none,
  .mk (some 46) (.binOp .add 3 (.tmp 45) (.const (.int .i64 128)) 3) none,
  .mk (some 47) (.binOp .sub 3 (.tmp 46) (.const (.int .i64 1)) 3) none,
  .mk (some 48) (.call ⟨(.builtin .min), #[(.tmp 44), (.tmp 47)], #[3, 3]⟩) none,
  .mk (some 49) (.binOp .leq 3 (.tmp 42) (.tmp 48) 3) none]
def r35_7 : List PS := [.mk (some 52) (.move (.tmp 13)) none,
  .mk (some 53) (.move (.tmp 11)) none,
  .mk (some 54) (.binOp .sub 3 (.tmp 52) (.tmp 53) 3) none,
  .mk (some 55) (.fieldAddr 83 (.tmp 12) 2) none,
  .mk (some 56) (.load 3 (.tmp 55)) none,
  .mk (some 57) (.indexAddr 78 (.tmp 10) (.tmp 54)) none,
  .mk none (.store 3 (.tmp 57) (.tmp 56)) none]
def r35_8 : List PS := [.mk (some 50) (.move (.tmp 13)) none,
  .mk (some 51) (.binOp .add 3 (.tmp 50) (.const (.int .i64 1)) 3) none,
  .mk (some 13) (.assign (.tmp 51)) none]
def r35_9 : List PS := [.mk (some 58) (.fieldAddr 83 (.tmp 12) 1) none,
  .mk (some 59) (.load 3 (.tmp 58)) none,
  .mk (some 60) (.move (.tmp 11)) none,
  .mk (some 61) (.binOp .add 3 (.tmp 60) (.const (.int .i64 128)) 3) none,
  .mk (some 62) (.binOp .geq 3 (.tmp 59) (.tmp 61) 3) none]
def r35_10 : List PS := [.mk (some 32) (.move (.tmp 2)) none,
  .mk (some 33) (.binOp .add 3 (.tmp 32) (.const (.int .i64 1)) 3) none,
  .mk (some 2) (.assign (.tmp 33)) none]
def r35_11 : List PS := [.mk (some 63) (.load 78 (.tmp 10)) none,
  .mk (some 64) (.move (.tmp 2)) none,
  .mk none (.store 78 (.tmp 8) (.tmp 63)) none,
  .mk (some 9) (.assign (.tmp 64)) none]
def c35 : PC := (.seq (.reg false r35_0) (.seq (.reg false r35_1) (.seq (.reg false r35_2) (.seq (.block 0 (.loop (.seq (.seq (.reg false r35_3) (.cond (.tmp 31) .skip (.exit 0))) (.seq (.block 1 (.seq (.reg false r35_4) (.seq (.seq (.reg false r35_5) (.block 2 (.loop (.seq (.seq (.reg false r35_6) (.cond (.tmp 49) .skip (.exit 2))) (.seq (.block 3 (.reg false r35_7)) (.reg false r35_8)))))) (.seq (.reg false r35_9) (.cond (.tmp 62) (.exit 0) .skip))))) (.reg false r35_10))))) (.seq (.reg false r35_11) .ret)))))
theorem e35 {args : List PV} {h : Heap} {K : PV → Heap → Prop} (hl : args.length = 4) (s : pwp Try.prog [8, 10, 12] c35 (fin Try.prog [.cell 8 78, .tmp 9] h K) (slots0 (olds args)) h) : CanP Try.prog 35 args h K :=
  can_of2 (n := 65) mixed Try.func35 rfl (by kernel_rfl) (by rw [hl]; kernel_rfl) rfl (by kernel_rfl) s
/-! ### (*naskh.trie.stages).add: function 36 -/
def r36_0 : List PS := [.mk (some 3) (.box 78 (.tmp 1)) none,
  .mk (some 4) (.assign (.const (.int .i64 0))) none]
def r36_1 : List PS := [.mk (some 6) (.move (.tmp 0)) none,
  .mk (some 7) (.nilCheck (.tmp 6)) none,
  .mk (some 8) (.fieldAddr 74 (.tmp 7) 1) none,
  .mk (some 9) (.load 72 (.tmp 8)) none,
  .mk (some 10) (.call ⟨(.builtin .len), #[(.tmp 9)], #[72]⟩) none,
  .mk (some 11) (.move (.const (.int .i64 0))) none]
def r36_2 : List PS := [.mk (some 12) (.binOp .lss 3 (.tmp 11) (.tmp 10) 3) none]
def r36_3 : List PS := [.mk (some 13) (.move (.tmp 11)) none,
  .mk (some 5) (.assign (.tmp 13)) none]
def r36_4 : List PS := [.mk (some 14) (.move (.tmp 0)) none,
  .mk (some 15) (.nilCheck (.tmp 14)) none,
  .mk (some 16) (.fieldAddr 74 (.tmp 15) 1) none,
  .mk (some 17) (.load 72 (.tmp 16)) none,
  .mk (some 18) (.move (.tmp 5)) none,
  .mk (some 19) (.indexAddr 72 (.tmp 17) (.tmp 18)) none,
  .mk (some 20) (.load 78 (.tmp 19)) none,
  .mk (some 21) (.load 78 (.tmp 3)) none,
  .mk (some 22) (.binOp .eql 78 (.tmp 20) (.tmp 21) 78) none]
def r36_5 : List PS := [.mk (some 23) (.move (.tmp 5)) none,
  .mk (some 4) (.assign (.tmp 23)) none]
def r36_6 : List PS := [.mk (some 24) (.binOp .add 3 (.tmp 11) (.const (.int .i64 1)) 3) none,
  .mk (some 11) (.move (.tmp 24)) none]
def r36_7 : List PS := [.mk (some 25) (.move (.tmp 0)) none,
  .mk (some 26) (.move (.tmp 0)) none,
  .mk (some 27) (.nilCheck (.tmp 26)) none,
  .mk (some 28) (.fieldAddr 74 (.tmp 27) 1) none,
  .mk (some 29) (.load 72 (.tmp 28)) none,
  .mk (some 30) (.load 78 (.tmp 3)) none,
  .mk (some 31) (.buildSlice 72 1 #[(0, (.tmp 30))]) none,
  .mk (some 32) (.call ⟨(.builtin .append), #[(.tmp 29), (.tmp 31)], #[72, 72]⟩) none,
  .mk (some 33) (.nilCheck (.tmp 25)) none,
  .mk (some 34) (.fieldAddr 74 (.tmp 33) 1) none,
  .mk none (.store 72 (.tmp 34) (.tmp 32)) none]
def r36_8 : List PS := [.mk (some 35) (.move (.tmp 0)) none,
  .mk (some 36) (.nilCheck (.tmp 35)) none,
  .mk (some 37) (.fieldAddr 74 (.tmp 36) 1) none,
  .mk (some 38) (.load 72 (.tmp 37)) none,
  .mk (some 39) (.call ⟨(.builtin .len), #[(.tmp 38)], #[72]⟩) none,
  .mk (some 40) (.binOp .sub 3 (.tmp 39) (.const (.int .i64 1)) 3) none,
  .mk (some 4) (.assign (.tmp 40)) none]
def c36 : PC := (.seq (.reg false r36_0) (.seq (.seq (.reg false r36_1) (.block 0 (.loop (.seq (.reg false r36_2) (.seq (.cond (.tmp 12) .skip (.exit 0)) (.seq (.block 1 (.seq (.reg false r36_3) (.seq (.reg true r36_4) (.cond (.tmp 22) (.seq (.reg false r36_5) .ret) .skip)))) (.reg false r36_6))))))) (.seq (.reg true r36_7) (.seq (.reg false r36_8) .ret))))
theorem e36 {args : List PV} {h : Heap} {K : PV → Heap → Prop} (hl : args.length = 2) (s : pwp Try.prog [] c36 (fin Try.prog [.tmp 4] h K) (slots0 (olds args)) h) : CanP Try.prog 36 args h K :=
  can_of2 (n := 41) mixed Try.func36 rfl (by kernel_rfl) (by rw [hl]; kernel_rfl) rfl (by kernel_rfl) s
/-! ### naskh.trie.Build: function 18 -/
def r18_0 : List PS := [.mk (some 4) (.assign (.const (.pointer none))) none,
  .mk (some 5) (.assign (.const (.int .i64 0))) none]
def r18_1 : List PS := [.mk (some 13) (.move (.tmp 0)) none,
  .mk (some 14) (.call ⟨(.value (.func 34)), #[(.tmp 13)], #[55]⟩) none,
  .mk (some 6) (.assign (.tmp 14)) none]
def r18_2 : List PS := [.mk (some 15) (.move (.tmp 6)) none,
  .mk (some 16) (.binOp .neq 52 (.tmp 15) (.const (.int .i64 0)) 52) none]
def r18_3 : List PS := [.mk (some 17) (.move (.tmp 6)) none,
  .mk (some 4) (.assign (.const (.pointer none))) none,
  .mk (some 5) (.assign (.tmp 17)) none]
def r18_4 : List PS := [.mk (some 18) (.move (.tmp 1)) none,
  .mk (some 19) (.build 76 #[(1, (.tmp 18)), (2, (.const (.bool true)))]) none,
  .mk (some 20) (.box 76 (.tmp 19)) none,
  .mk (some 7) (.assign (.tmp 20)) none]
def r18_5 : List PS := [.mk (some 21) (.move (.tmp 7)) none,
  .mk (some 22) (.makeSlice 23 (.const (.int .i64 8704)) (.const (.int .i64 8704))) none,
  .mk (some 23) (.nilCheck (.tmp 21)) none,
  .mk (some 24) (.fieldAddr 76 (.tmp 23) 0) none,
  .mk (some 25) (.fieldAddr 74 (.tmp 24) 0) none,
  .mk none (.store 23 (.tmp 25) (.tmp 22)) none]
def r18_6 : List PS := [.mk (some 8) (.assign (.const (.int .i64 0))) none]
def r18_7 : List PS := [.mk (some 26) (.build 78 #[]) none,
  .mk (some 9) (.alloc 78) none,
  .mk none (.store 78 (.tmp 9) (.tmp 26)) none,
  .mk (some 10) (.assign (.const (.int .i64 (-1)))) none]
def r18_8 : List PS := [.mk (some 27) (.move (.const (.int .i64 0))) none]
def r18_9 : List PS := [.mk (some 28) (.binOp .lss 3 (.tmp 27) (.const (.int .i64 8704)) 3) none]
def r18_10 : List PS := [.mk (some 29) (.move (.tmp 27)) none,
  .mk (some 11) (.assign (.tmp 29)) none]
def r18_11 : List PS := [.mk (some 12) (.alloc 78) none]
def r18_12 : List PS := [.mk (some 31) (.move (.tmp 0)) none,
  .mk (some 32) (.move (.tmp 11)) none,
  .mk (some 33) (.move (.tmp 8)) none,
  .mk (some 34) (.move (.tmp 1)) none,
  .mk (some 35) (.call ⟨(.value (.func 35)), #[(.tmp 31), (.tmp 32), (.tmp 33), (.tmp 34)], #[55, 3, 3, 3]⟩) none,
  .mk (some 30) (.move (.tmp 35)) none,
  .mk (some 36) (.extract (.tmp 30) 0) none,
  .mk (some 37) (.extract (.tmp 30) 1) none,
  .mk none (.store 78 (.tmp 12) (.tmp 36)) none,
  .frz 12,
  .mk (some 8) (.assign (.tmp 37)) none]
def r18_13 : List PS := [.mk (some 38) (.move (.tmp 10)) none,
  .mk (some 39) (.binOp .lss 3 (.tmp 38) (.const (.int .i64 0)) 3) none,
  .mk (some 40) (.move (.tmp 39)) none,
  .mk (some 41) (.load 78 (.tmp 12)) (some (40, false)),
  .mk (some 42) (.load 78 (.tmp 9)) (some (40, false)),
  .mk (some 43) (.binOp .neq 78 (.tmp 41) (.tmp 42) 78) (some (40, false)),
  .mk (some 44) (.pick (.tmp 40) (.const (.bool true)) (.tmp 43)) none]
def r18_14 : List PS := [.mk (some 45) (.load 78 (.tmp 12)) none,
  .mk (some 46) (.move (.tmp 7)) none,
  .mk (some 47) (.nilCheck (.tmp 46)) none,
  .mk (some 48) (.fieldAddr 76 (.tmp 47) 0) none,
  .mk (some 49) (.load 78 (.tmp 12)) none,
  .mk (some 50) (.call ⟨(.value (.func 36)), #[(.tmp 48), (.tmp 49)], #[74, 78]⟩) none,
  .mk none (.store 78 (.tmp 9) (.tmp 45)) none,
  .mk (some 10) (.assign (.tmp 50)) none]
def r18_15 : List PS := [.mk (some 51) (.move (.tmp 7)) none,
  .mk (some 52) (.nilCheck (.tmp 51)) none,
  .mk (some 53) (.fieldAddr 76 (.tmp 52) 0) none,
  .mk (some 54) (.fieldAddr 74 (.tmp 53) 0) none,
  .mk (some 55) (.load 23 (.tmp 54)) none,
  .mk (some 56) (.move (.tmp 11)) none,
  .mk (some 57) (.move (.tmp 10)) none,
  .mk (some 58) (.indexAddr 23 (.tmp 55) (.tmp 56)) none,
  .mk none (.store 3 (.tmp 58) (.tmp 57)) none]
def r18_16 : List PS := [.mk (some 59) (.binOp .add 3 (.tmp 27) (.const (.int .i64 1)) 3) none,
  .mk (some 27) (.move (.tmp 59)) none]
def r18_17 : List PS := [.frzc 7 0,
  .frzc 7 1,
  .mk (some 60) (.move (.tmp 7)) none,
  .mk (some 4) (.assign (.tmp 60)) none,
  .mk (some 5) (.assign (.const (.int .i64 0))) none]
def c18 : PC := (.seq (.reg false r18_0) (.seq (.seq (.reg false r18_1) (.seq (.reg false r18_2) (.cond (.tmp 16) (.seq (.reg false r18_3) .ret) .skip))) (.seq (.reg false r18_4) (.seq (.reg false r18_5) (.seq (.reg false r18_6) (.seq (.reg false r18_7) (.seq (.seq (.reg false r18_8) (.block 0 (.loop (.seq (.reg false r18_9) (.seq (.cond (.tmp 28) .skip (.exit 0)) (.seq (.block 1 (.seq (.reg false r18_10) (.seq (.reg false r18_11) (.seq (.reg false r18_12) (.seq (.seq (.reg false r18_13) (.cond (.tmp 44) (.reg true r18_14) .skip)) (.reg false r18_15)))))) (.reg false r18_16))))))) (.seq (.reg false r18_17) .ret))))))))
theorem e18 {args : List PV} {h : Heap} {K : PV → Heap → Prop} (hl : args.length = 2) (s : pwp Try.prog [9, 12, 20, 45, 50] c18 (fin Try.prog [.tmp 4, .tmp 5] h K) (slots0 (olds args)) h) : CanP Try.prog 18 args h K :=
  can_of2 (n := 61) mixed Try.func18 rfl (by kernel_rfl) (by rw [hl]; kernel_rfl) rfl (by kernel_rfl) s
/-! ### naskh.api.BidiRanges: function 19 -/
def r19_0 : List PS := [.mk (some 0) (.assign (.const (.slice none 0 0))) none]
def r19_1 : List PS := [.mk (some 1) (.build 83 #[(0, (.const (.int .i64 0))), (1, (.const (.int .i64 8))), (2, (.const (.int .i64 9)))]) none,
  .mk (some 2) (.build 83 #[(0, (.const (.int .i64 9))), (1, (.const (.int .i64 9))), (2, (.const (.int .i64 11)))]) none,
  .mk (some 3) (.build 83 #[(0, (.const (.int .i64 10))), (1, (.const (.int .i64 10))), (2, (.const (.int .i64 10)))]) none,
  .mk (some 4) (.build 83 #[(0, (.const (.int .i64 11))), (1, (.const (.int .i64 11))), (2, (.const (.int .i64 11)))]) none,
  .mk (some 5) (.build 83 #[(0, (.const (.int .i64 12))), (1, (.const (.int .i64 12))), (2, (.const (.int .i64 12)))]) none,
  .mk (some 6) (.build 83 #[(0, (.const (.int .i64 13))), (1, (.const (.int .i64 13))), (2, (.const (.int .i64 10)))]) none,
  .mk (some 7) (.build 83 #[(0, (.const (.int .i64 14))), (1, (.const (.int .i64 27))), (2, (.const (.int .i64 9)))]) none,
  .mk (some 8) (.build 83 #[(0, (.const (.int .i64 28))), (1, (.const (.int .i64 30))), (2, (.const (.int .i64 10)))]) none,
  .mk (some 9) (.build 83 #[(0, (.const (.int .i64 31))), (1, (.const (.int .i64 31))), (2, (.const (.int .i64 11)))]) none,
  .mk (some 10) (.build 83 #[(0, (.const (.int .i64 32))), (1, (.const (.int .i64 32))), (2, (.const (.int .i64 12)))]) none,
  .mk (some 11) (.build 83 #[(0, (.const (.int .i64 33))), (1, (.const (.int .i64 34))), (2, (.const (.int .i64 13)))]) none,
  .mk (some 12) (.build 83 #[(0, (.const (.int .i64 35))), (1, (.const (.int .i64 37))), (2, (.const (.int .i64 5)))]) none,
  .mk (some 13) (.build 83 #[(0, (.const (.int .i64 38))), (1, (.const (.int .i64 42))), (2, (.const (.int .i64 13)))]) none,
  .mk (some 14) (.build 83 #[(0, (.const (.int .i64 43))), (1, (.const (.int .i64 43))), (2, (.const (.int .i64 4)))]) none,
  .mk (some 15) (.build 83 #[(0, (.const (.int .i64 44))), (1, (.const (.int .i64 44))), (2, (.const (.int .i64 7)))]) none,
  .mk (some 16) (.build 83 #[(0, (.const (.int .i64 45))), (1, (.const (.int .i64 45))), (2, (.const (.int .i64 4)))]) none,
  .mk (some 17) (.build 83 #[(0, (.const (.int .i64 46))), (1, (.const (.int .i64 47))), (2, (.const (.int .i64 7)))]) none,
  .mk (some 18) (.build 83 #[(0, (.const (.int .i64 48))), (1, (.const (.int .i64 57))), (2, (.const (.int .i64 3)))]) none,
  .mk (some 19) (.build 83 #[(0, (.const (.int .i64 58))), (1, (.const (.int .i64 58))), (2, (.const (.int .i64 7)))]) none,
  .mk (some 20) (.build 83 #[(0, (.const (.int .i64 59))), (1, (.const (.int .i64 64))), (2, (.const (.int .i64 13)))]) none,
  .mk (some 21) (.build 83 #[(0, (.const (.int .i64 91))), (1, (.const (.int .i64 96))), (2, (.const (.int .i64 13)))]) none,
  .mk (some 22) (.build 83 #[(0, (.const (.int .i64 123))), (1, (.const (.int .i64 126))), (2, (.const (.int .i64 13)))]) none,
  .mk (some 23) (.build 83 #[(0, (.const (.int .i64 127))), (1, (.const (.int .i64 132))), (2, (.const (.int .i64 9)))]) none,
  .mk (some 24) (.build 83 #[(0, (.const (.int .i64 133))), (1, (.const (.int .i64 133))), (2, (.const (.int .i64 10)))]) none,
  .mk (some 25) (.build 83 #[(0, (.const (.int .i64 134))), (1, (.const (.int .i64 159))), (2, (.const (.int .i64 9)))]) none,
  .mk (some 26) (.build 83 #[(0, (.const (.int .i64 160))), (1, (.const (.int .i64 160))), (2, (.const (.int .i64 7)))]) none,
  .mk (some 27) (.build 83 #[(0, (.const (.int .i64 161))), (1, (.const (.int .i64 161))), (2, (.const (.int .i64 13)))]) none,
  .mk (some 28) (.build 83 #[(0, (.const (.int .i64 162))), (1, (.const (.int .i64 165))), (2, (.const (.int .i64 5)))]) none,
  .mk (some 29) (.build 83 #[(0, (.const (.int .i64 166))), (1, (.const (.int .i64 169))), (2, (.const (.int .i64 13)))]) none,
  .mk (some 30) (.build 83 #[(0, (.const (.int .i64 171))), (1, (.const (.int .i64 172))), (2, (.const (.int .i64 13)))]) none,
  .mk (some 31) (.build 83 #[(0, (.const (.int .i64 173))), (1, (.const (.int .i64 173))), (2, (.const (.int .i64 9)))]) none,
  .mk (some 32) (.build 83 #[(0, (.const (.int .i64 174))), (1, (.const (.int .i64 175))), (2, (.const (.int .i64 13)))]) none,
  .mk (some 33) (.build 83 #[(0, (.const (.int .i64 176))), (1, (.const (.int .i64 177))), (2, (.const (.int .i64 5)))]) none,
  .mk (some 34) (.build 83 #[(0, (.const (.int .i64 178))), (1, (.const (.int .i64 179))), (2, (.const (.int .i64 3)))]) none,
  .mk (some 35) (.build 83 #[(0, (.const (.int .i64 180))), (1, (.const (.int .i64 180))), (2, (.const (.int .i64 13)))]) none,
  .mk (some 36) (.build 83 #[(0, (.const (.int .i64 182))), (1, (.const (.int .i64 184))), (2, (.const (.int .i64 13)))]) none,
  .mk (some 37) (.build 83 #[(0, (.const (.int .i64 185))), (1, (.const (.int .i64 185))), (2, (.const (.int .i64 3)))]) none,
  .mk (some 38) (.build 83 #[(0, (.const (.int .i64 187))), (1, (.const (.int .i64 191))), (2, (.const (.int .i64 13)))]) none,
  .mk (some 39) (.build 83 #[(0, (.const (.int .i64 215))), (1, (.const (.int .i64 215))), (2, (.const (.int .i64 13)))]) none,
  .mk (some 40) (.build 83 #[(0, (.const (.int .i64 247))), (1, (.const (.int .i64 247))), (2, (.const (.int .i64 13)))]) none,
  .mk (some 41) (.build 83 #[(0, (.const (.int .i64 697))), (1, (.const (.int .i64 698))), (2, (.const (.int .i64 13)))]) none,
  .mk (some 42) (.build 83 #[(0, (.const (.int .i64 706))), (1, (.const (.int .i64 719))), (2, (.const (.int .i64 13)))]) none,
  .mk (some 43) (.build 83 #[(0, (.const (.int .i64 722))), (1, (.const (.int .i64 735))), (2, (.const (.int .i64 13)))]) none,
  .mk (some 44) (.build 83 #[(0, (.const (.int .i64 768))), (1, (.const (.int .i64 879))), (2, (.const (.int .i64 8)))]) none,
  .mk (some 45) (.build 83 #[(0, (.const (.int .i64 1424))), (1, (.const (.int .i64 1424))), (2, (.const (.int .i64 1)))]) none,
  .mk (some 46) (.build 83 #[(0, (.const (.int .i64 1425))), (1, (.const (.int .i64 1469))), (2, (.const (.int .i64 8)))]) none,
  .mk (some 47) (.build 83 #[(0, (.const (.int .i64 1470))), (1, (.const (.int .i64 1470))), (2, (.const (.int .i64 1)))]) none,
  .mk (some 48) (.build 83 #[(0, (.const (.int .i64 1471))), (1, (.const (.int .i64 1471))), (2, (.const (.int .i64 8)))]) none,
  .mk (some 49) (.build 83 #[(0, (.const (.int .i64 1472))), (1, (.const (.int .i64 1472))), (2, (.const (.int .i64 1)))]) none,
  .mk (some 50) (.build 83 #[(0, (.const (.int .i64 1473))), (1, (.const (.int .i64 1474))), (2, (.const (.int .i64 8)))]) none,
  .mk (some 51) (.build 83 #[(0, (.const (.int .i64 1475))), (1, (.const (.int .i64 1475))), (2, (.const (.int .i64 1)))]) none,
  .mk (some 52) (.build 83 #[(0, (.const (.int .i64 1476))), (1, (.const (.int .i64 1477))), (2, (.const (.int .i64 8)))]) none,
  .mk (some 53) (.build 83 #[(0, (.const (.int .i64 1478))), (1, (.const (.int .i64 1478))), (2, (.const (.int .i64 1)))]) none,
  .mk (some 54) (.build 83 #[(0, (.const (.int .i64 1479))), (1, (.const (.int .i64 1479))), (2, (.const (.int .i64 8)))]) none,
  .mk (some 55) (.build 83 #[(0, (.const (.int .i64 1480))), (1, (.const (.int .i64 1535))), (2, (.const (.int .i64 1)))]) none,
  .mk (some 56) (.build 83 #[(0, (.const (.int .i64 1536))), (1, (.const (.int .i64 1541))), (2, (.const (.int .i64 6)))]) none,
  .mk (some 57) (.build 83 #[(0, (.const (.int .i64 1542))), (1, (.const (.int .i64 1543))), (2, (.const (.int .i64 13)))]) none,
  .mk (some 58) (.build 83 #[(0, (.const (.int .i64 1544))), (1, (.const (.int .i64 1544))), (2, (.const (.int .i64 2)))]) none,
  .mk (some 59) (.build 83 #[(0, (.const (.int .i64 1545))), (1, (.const (.int .i64 1546))), (2, (.const (.int .i64 5)))]) none,
  .mk (some 60) (.build 83 #[(0, (.const (.int .i64 1547))), (1, (.const (.int .i64 1547))), (2, (.const (.int .i64 2)))]) none,
  .mk (some 61) (.build 83 #[(0, (.const (.int .i64 1548))), (1, (.const (.int .i64 1548))), (2, (.const (.int .i64 7)))]) none,
  .mk (some 62) (.build 83 #[(0, (.const (.int .i64 1549))), (1, (.const (.int .i64 1549))), (2, (.const (.int .i64 2)))]) none,
  .mk (some 63) (.build 83 #[(0, (.const (.int .i64 1550))), (1, (.const (.int .i64 1551))), (2, (.const (.int .i64 13)))]) none,
  .mk (some 64) (.build 83 #[(0, (.const (.int .i64 1552))), (1, (.const (.int .i64 1562))), (2, (.const (.int .i64 8)))]) none,
  .mk (some 65) (.build 83 #[(0, (.const (.int .i64 1563))), (1, (.const (.int .i64 1610))), (2, (.const (.int .i64 2)))]) none,
  .mk (some 66) (.build 83 #[(0, (.const (.int .i64 1611))), (1, (.const (.int .i64 1631))), (2, (.const (.int .i64 8)))]) none,
  .mk (some 67) (.build 83 #[(0, (.const (.int .i64 1632))), (1, (.const (.int .i64 1641))), (2, (.const (.int .i64 6)))]) none,
  .mk (some 68) (.build 83 #[(0, (.const (.int .i64 1642))), (1, (.const (.int .i64 1642))), (2, (.const (.int .i64 5)))]) none,
  .mk (some 69) (.build 83 #[(0, (.const (.int .i64 1643))), (1, (.const (.int .i64 1644))), (2, (.const (.int .i64 6)))]) none,
  .mk (some 70) (.build 83 #[(0, (.const (.int .i64 1645))), (1, (.const (.int .i64 1647))), (2, (.const (.int .i64 2)))]) none,
  .mk (some 71) (.build 83 #[(0, (.const (.int .i64 1648))), (1, (.const (.int .i64 1648))), (2, (.const (.int .i64 8)))]) none,
  .mk (some 72) (.build 83 #[(0, (.const (.int .i64 1649))), (1, (.const (.int .i64 1749))), (2, (.const (.int .i64 2)))]) none,
  .mk (some 73) (.build 83 #[(0, (.const (.int .i64 1750))), (1, (.const (.int .i64 1756))), (2, (.const (.int .i64 8)))]) none,
  .mk (some 74) (.build 83 #[(0, (.const (.int .i64 1757))), (1, (.const (.int .i64 1757))), (2, (.const (.int .i64 6)))]) none,
  .mk (some 75) (.build 83 #[(0, (.const (.int .i64 1758))), (1, (.const (.int .i64 1758))), (2, (.const (.int .i64 13)))]) none,
  .mk (some 76) (.build 83 #[(0, (.const (.int .i64 1759))), (1, (.const (.int .i64 1764))), (2, (.const (.int .i64 8)))]) none,
  .mk (some 77) (.build 83 #[(0, (.const (.int .i64 1765))), (1, (.const (.int .i64 1766))), (2, (.const (.int .i64 2)))]) none,
  .mk (some 78) (.build 83 #[(0, (.const (.int .i64 1767))), (1, (.const (.int .i64 1768))), (2, (.const (.int .i64 8)))]) none,
  .mk (some 79) (.build 83 #[(0, (.const (.int .i64 1769))), (1, (.const (.int .i64 1769))), (2, (.const (.int .i64 13)))]) none,
  .mk (some 80) (.build 83 #[(0, (.const (.int .i64 1770))), (1, (.const (.int .i64 1773))), (2, (.const (.int .i64 8)))]) none,
  .mk (some 81) (.build 83 #[(0, (.const (.int .i64 1774))), (1, (.const (.int .i64 1775))), (2, (.const (.int .i64 2)))]) none,
  .mk (some 82) (.build 83 #[(0, (.const (.int .i64 1776))), (1, (.const (.int .i64 1785))), (2, (.const (.int .i64 3)))]) none,
  .mk (some 83) (.build 83 #[(0, (.const (.int .i64 1786))), (1, (.const (.int .i64 1808))), (2, (.const (.int .i64 2)))]) none,
  .mk (some 84) (.build 83 #[(0, (.const (.int .i64 1809))), (1, (.const (.int .i64 1809))), (2, (.const (.int .i64 8)))]) none,
  .mk (some 85) (.build 83 #[(0, (.const (.int .i64 1810))), (1, (.const (.int .i64 1839))), (2, (.const (.int .i64 2)))]) none,
  .mk (some 86) (.build 83 #[(0, (.const (.int .i64 1840))), (1, (.const (.int .i64 1866))), (2, (.const (.int .i64 8)))]) none,
  .mk (some 87) (.build 83 #[(0, (.const (.int .i64 1867))), (1, (.const (.int .i64 1957))), (2, (.const (.int .i64 2)))]) none,
  .mk (some 88) (.build 83 #[(0, (.const (.int .i64 1958))), (1, (.const (.int .i64 1968))), (2, (.const (.int .i64 8)))]) none,
  .mk (some 89) (.build 83 #[(0, (.const (.int .i64 1969))), (1, (.const (.int .i64 1983))), (2, (.const (.int .i64 2)))]) none,
  .mk (some 90) (.build 83 #[(0, (.const (.int .i64 1984))), (1, (.const (.int .i64 2026))), (2, (.const (.int .i64 1)))]) none,
  .mk (some 91) (.build 83 #[(0, (.const (.int .i64 2027))), (1, (.const (.int .i64 2035))), (2, (.const (.int .i64 8)))]) none,
  .mk (some 92) (.build 83 #[(0, (.const (.int .i64 2036))), (1, (.const (.int .i64 2037))), (2, (.const (.int .i64 1)))]) none,
  .mk (some 93) (.build 83 #[(0, (.const (.int .i64 2038))), (1, (.const (.int .i64 2041))), (2, (.const (.int .i64 13)))]) none,
  .mk (some 94) (.build 83 #[(0, (.const (.int .i64 2042))), (1, (.const (.int .i64 2044))), (2, (.const (.int .i64 1)))]) none,
  .mk (some 95) (.build 83 #[(0, (.const (.int .i64 2045))), (1, (.const (.int .i64 2045))), (2, (.const (.int .i64 8)))]) none,
  .mk (some 96) (.build 83 #[(0, (.const (.int .i64 2046))), (1, (.const (.int .i64 2069))), (2, (.const (.int .i64 1)))]) none,
  .mk (some 97) (.build 83 #[(0, (.const (.int .i64 2070))), (1, (.const (.int .i64 2073))), (2, (.const (.int .i64 8)))]) none,
  .mk (some 98) (.build 83 #[(0, (.const (.int .i64 2074))), (1, (.const (.int .i64 2074))), (2, (.const (.int .i64 1)))]) none,
  .mk (some 99) (.build 83 #[(0, (.const (.int .i64 2075))), (1, (.const (.int .i64 2083))), (2, (.const (.int .i64 8)))]) none,
  .mk (some 100) (.build 83 #[(0, (.const (.int .i64 2084))), (1, (.const (.int .i64 2084))), (2, (.const (.int .i64 1)))]) none,
  .mk (some 101) (.build 83 #[(0, (.const (.int .i64 2085))), (1, (.const (.int .i64 2087))), (2, (.const (.int .i64 8)))]) none,
  .mk (some 102) (.build 83 #[(0, (.const (.int .i64 2088))), (1, (.const (.int .i64 2088))), (2, (.const (.int .i64 1)))]) none,
  .mk (some 103) (.build 83 #[(0, (.const (.int .i64 2089))), (1, (.const (.int .i64 2093))), (2, (.const (.int .i64 8)))]) none,
  .mk (some 104) (.build 83 #[(0, (.const (.int .i64 2094))), (1, (.const (.int .i64 2136))), (2, (.const (.int .i64 1)))]) none,
  .mk (some 105) (.build 83 #[(0, (.const (.int .i64 2137))), (1, (.const (.int .i64 2139))), (2, (.const (.int .i64 8)))]) none,
  .mk (some 106) (.build 83 #[(0, (.const (.int .i64 2140))), (1, (.const (.int .i64 2143))), (2, (.const (.int .i64 1)))]) none,
  .mk (some 107) (.build 83 #[(0, (.const (.int .i64 2144))), (1, (.const (.int .i64 2191))), (2, (.const (.int .i64 2)))]) none,
  .mk (some 108) (.build 83 #[(0, (.const (.int .i64 2192))), (1, (.const (.int .i64 2193))), (2, (.const (.int .i64 6)))]) none,
  .mk (some 109) (.build 83 #[(0, (.const (.int .i64 2194))), (1, (.const (.int .i64 2199))), (2, (.const (.int .i64 2)))]) none,
  .mk (some 110) (.build 83 #[(0, (.const (.int .i64 2200))), (1, (.const (.int .i64 2207))), (2, (.const (.int .i64 8)))]) none,
  .mk (some 111) (.build 83 #[(0, (.const (.int .i64 2208))), (1, (.const (.int .i64 2249))), (2, (.const (.int .i64 2)))]) none,
  .mk (some 112) (.build 83 #[(0, (.const (.int .i64 2250))), (1, (.const (.int .i64 2273))), (2, (.const (.int .i64 8)))]) none,
  .mk (some 113) (.build 83 #[(0, (.const (.int .i64 2274))), (1, (.const (.int .i64 2274))), (2, (.const (.int .i64 6)))]) none,
  .mk (some 114) (.build 83 #[(0, (.const (.int .i64 2275))), (1, (.const (.int .i64 2306))), (2, (.const (.int .i64 8)))]) none,
  .mk (some 115) (.build 83 #[(0, (.const (.int .i64 8192))), (1, (.const (.int .i64 8202))), (2, (.const (.int .i64 12)))]) none,
  .mk (some 116) (.build 83 #[(0, (.const (.int .i64 8203))), (1, (.const (.int .i64 8205))), (2, (.const (.int .i64 9)))]) none,
  .mk (some 117) (.build 83 #[(0, (.const (.int .i64 8207))), (1, (.const (.int .i64 8207))), (2, (.const (.int .i64 1)))]) none,
  .mk (some 118) (.build 83 #[(0, (.const (.int .i64 8208))), (1, (.const (.int .i64 8231))), (2, (.const (.int .i64 13)))]) none,
  .mk (some 119) (.build 83 #[(0, (.const (.int .i64 8232))), (1, (.const (.int .i64 8232))), (2, (.const (.int .i64 12)))]) none,
  .mk (some 120) (.build 83 #[(0, (.const (.int .i64 8233))), (1, (.const (.int .i64 8233))), (2, (.const (.int .i64 10)))]) none,
  .mk (some 121) (.build 83 #[(0, (.const (.int .i64 8234))), (1, (.const (.int .i64 8234))), (2, (.const (.int .i64 14)))]) none,
  .mk (some 122) (.build 83 #[(0, (.const (.int .i64 8235))), (1, (.const (.int .i64 8235))), (2, (.const (.int .i64 16)))]) none,
  .mk (some 123) (.build 83 #[(0, (.const (.int .i64 8236))), (1, (.const (.int .i64 8236))), (2, (.const (.int .i64 18)))]) none,
  .mk (some 124) (.build 83 #[(0, (.const (.int .i64 8237))), (1, (.const (.int .i64 8237))), (2, (.const (.int .i64 15)))]) none,
  .mk (some 125) (.build 83 #[(0, (.const (.int .i64 8238))), (1, (.const (.int .i64 8238))), (2, (.const (.int .i64 17)))]) none,
  .mk (some 126) (.build 83 #[(0, (.const (.int .i64 8239))), (1, (.const (.int .i64 8239))), (2, (.const (.int .i64 7)))]) none,
  .mk (some 127) (.build 83 #[(0, (.const (.int .i64 8240))), (1, (.const (.int .i64 8244))), (2, (.const (.int .i64 5)))]) none,
  .mk (some 128) (.build 83 #[(0, (.const (.int .i64 8245))), (1, (.const (.int .i64 8259))), (2, (.const (.int .i64 13)))]) none,
  .mk (some 129) (.build 83 #[(0, (.const (.int .i64 8260))), (1, (.const (.int .i64 8260))), (2, (.const (.int .i64 7)))]) none,
  .mk (some 130) (.build 83 #[(0, (.const (.int .i64 8261))), (1, (.const (.int .i64 8286))), (2, (.const (.int .i64 13)))]) none,
  .mk (some 131) (.build 83 #[(0, (.const (.int .i64 8287))), (1, (.const (.int .i64 8287))), (2, (.const (.int .i64 12)))]) none,
  .mk (some 132) (.build 83 #[(0, (.const (.int .i64 8288))), (1, (.const (.int .i64 8293))), (2, (.const (.int .i64 9)))]) none,
  .mk (some 133) (.build 83 #[(0, (.const (.int .i64 8294))), (1, (.const (.int .i64 8294))), (2, (.const (.int .i64 19)))]) none,
  .mk (some 134) (.build 83 #[(0, (.const (.int .i64 8295))), (1, (.const (.int .i64 8295))), (2, (.const (.int .i64 20)))]) none,
  .mk (some 135) (.build 83 #[(0, (.const (.int .i64 8296))), (1, (.const (.int .i64 8296))), (2, (.const (.int .i64 21)))]) none,
  .mk (some 136) (.build 83 #[(0, (.const (.int .i64 8297))), (1, (.const (.int .i64 8297))), (2, (.const (.int .i64 22)))]) none,
  .mk (some 137) (.build 83 #[(0, (.const (.int .i64 8298))), (1, (.const (.int .i64 8303))), (2, (.const (.int .i64 9)))]) none,
  .mk (some 138) (.build 83 #[(0, (.const (.int .i64 8304))), (1, (.const (.int .i64 8304))), (2, (.const (.int .i64 3)))]) none,
  .mk (some 139) (.build 83 #[(0, (.const (.int .i64 8308))), (1, (.const (.int .i64 8313))), (2, (.const (.int .i64 3)))]) none,
  .mk (some 140) (.build 83 #[(0, (.const (.int .i64 8314))), (1, (.const (.int .i64 8315))), (2, (.const (.int .i64 4)))]) none,
  .mk (some 141) (.build 83 #[(0, (.const (.int .i64 8316))), (1, (.const (.int .i64 8318))), (2, (.const (.int .i64 13)))]) none,
  .mk (some 142) (.build 83 #[(0, (.const (.int .i64 8320))), (1, (.const (.int .i64 8329))), (2, (.const (.int .i64 3)))]) none,
  .mk (some 143) (.build 83 #[(0, (.const (.int .i64 8330))), (1, (.const (.int .i64 8331))), (2, (.const (.int .i64 4)))]) none,
  .mk (some 144) (.build 83 #[(0, (.const (.int .i64 8332))), (1, (.const (.int .i64 8334))), (2, (.const (.int .i64 13)))]) none,
  .mk (some 145) (.build 83 #[(0, (.const (.int .i64 8352))), (1, (.const (.int .i64 8399))), (2, (.const (.int .i64 5)))]) none,
  .mk (some 146) (.build 83 #[(0, (.const (.int .i64 8400))), (1, (.const (.int .i64 8432))), (2, (.const (.int .i64 8)))]) none,
  .mk (some 147) (.build 83 #[(0, (.const (.int .i64 8592))), (1, (.const (.int .i64 8721))), (2, (.const (.int .i64 13)))]) none,
  .mk (some 148) (.build 83 #[(0, (.const (.int .i64 8722))), (1, (.const (.int .i64 8722))), (2, (.const (.int .i64 4)))]) none,
  .mk (some 149) (.build 83 #[(0, (.const (.int .i64 8723))), (1, (.const (.int .i64 8723))), (2, (.const (.int .i64 5)))]) none,
  .mk (some 150) (.build 83 #[(0, (.const (.int .i64 8724))), (1, (.const (.int .i64 9013))), (2, (.const (.int .i64 13)))]) none,
  .mk (some 151) (.build 83 #[(0, (.const (.int .i64 9083))), (1, (.const (.int .i64 9108))), (2, (.const (.int .i64 13)))]) none,
  .mk (some 152) (.build 83 #[(0, (.const (.int .i64 9110))), (1, (.const (.int .i64 9254))), (2, (.const (.int .i64 13)))]) none,
  .mk (some 153) (.build 83 #[(0, (.const (.int .i64 9280))), (1, (.const (.int .i64 9290))), (2, (.const (.int .i64 13)))]) none,
  .mk (some 154) (.build 83 #[(0, (.const (.int .i64 9312))), (1, (.const (.int .i64 9351))), (2, (.const (.int .i64 13)))]) none,
  .mk (some 155) (.build 83 #[(0, (.const (.int .i64 9352))), (1, (.const (.int .i64 9371))), (2, (.const (.int .i64 3)))]) none,
  .mk (some 156) (.build 83 #[(0, (.const (.int .i64 9450))), (1, (.const (.int .i64 9899))), (2, (.const (.int .i64 13)))]) none,
  .mk (some 157) (.build 83 #[(0, (.const (.int .i64 9901))), (1, (.const (.int .i64 10239))), (2, (.const (.int .i64 13)))]) none,
  .mk (some 158) (.build 83 #[(0, (.const (.int .i64 10496))), (1, (.const (.int .i64 11123))), (2, (.const (.int .i64 13)))]) none,
  .mk (some 159) (.build 83 #[(0, (.const (.int .i64 11776))), (1, (.const (.int .i64 11869))), (2, (.const (.int .i64 13)))]) none,
  .mk (some 160) (.build 83 #[(0, (.const (.int .i64 12288))), (1, (.const (.int .i64 12288))), (2, (.const (.int .i64 12)))]) none,
  .mk (some 161) (.build 83 #[(0, (.const (.int .i64 12289))), (1, (.const (.int .i64 12292))), (2, (.const (.int .i64 13)))]) none,
  .mk (some 162) (.build 83 #[(0, (.const (.int .i64 12296))), (1, (.const (.int .i64 12320))), (2, (.const (.int .i64 13)))]) none,
  .mk (some 163) (.build 83 #[(0, (.const (.int .i64 12330))), (1, (.const (.int .i64 12333))), (2, (.const (.int .i64 8)))]) none,
  .mk (some 164) (.build 83 #[(0, (.const (.int .i64 12336))), (1, (.const (.int .i64 12336))), (2, (.const (.int .i64 13)))]) none,
  .mk (some 165) (.build 83 #[(0, (.const (.int .i64 64285))), (1, (.const (.int .i64 64285))), (2, (.const (.int .i64 1)))]) none,
  .mk (some 166) (.build 83 #[(0, (.const (.int .i64 64286))), (1, (.const (.int .i64 64286))), (2, (.const (.int .i64 8)))]) none,
  .mk (some 167) (.build 83 #[(0, (.const (.int .i64 64287))), (1, (.const (.int .i64 64296))), (2, (.const (.int .i64 1)))]) none,
  .mk (some 168) (.build 83 #[(0, (.const (.int .i64 64297))), (1, (.const (.int .i64 64297))), (2, (.const (.int .i64 4)))]) none,
  .mk (some 169) (.build 83 #[(0, (.const (.int .i64 64298))), (1, (.const (.int .i64 64335))), (2, (.const (.int .i64 1)))]) none,
  .mk (some 170) (.build 83 #[(0, (.const (.int .i64 64336))), (1, (.const (.int .i64 64829))), (2, (.const (.int .i64 2)))]) none,
  .mk (some 171) (.build 83 #[(0, (.const (.int .i64 64830))), (1, (.const (.int .i64 64847))), (2, (.const (.int .i64 13)))]) none,
  .mk (some 172) (.build 83 #[(0, (.const (.int .i64 64848))), (1, (.const (.int .i64 64974))), (2, (.const (.int .i64 2)))]) none,
  .mk (some 173) (.build 83 #[(0, (.const (.int .i64 64975))), (1, (.const (.int .i64 64975))), (2, (.const (.int .i64 13)))]) none,
  .mk (some 174) (.build 83 #[(0, (.const (.int .i64 64976))), (1, (.const (.int .i64 65007))), (2, (.const (.int .i64 9)))]) none,
  .mk (some 175) (.build 83 #[(0, (.const (.int .i64 65008))), (1, (.const (.int .i64 65020))), (2, (.const (.int .i64 2)))]) none,
  .mk (some 176) (.build 83 #[(0, (.const (.int .i64 65021))), (1, (.const (.int .i64 65023))), (2, (.const (.int .i64 13)))]) none,
  .mk (some 177) (.build 83 #[(0, (.const (.int .i64 65024))), (1, (.const (.int .i64 65039))), (2, (.const (.int .i64 8)))]) none,
  .mk (some 178) (.build 83 #[(0, (.const (.int .i64 65040))), (1, (.const (.int .i64 65049))), (2, (.const (.int .i64 13)))]) none,
  .mk (some 179) (.build 83 #[(0, (.const (.int .i64 65056))), (1, (.const (.int .i64 65071))), (2, (.const (.int .i64 8)))]) none,
  .mk (some 180) (.build 83 #[(0, (.const (.int .i64 65072))), (1, (.const (.int .i64 65103))), (2, (.const (.int .i64 13)))]) none,
  .mk (some 181) (.build 83 #[(0, (.const (.int .i64 65104))), (1, (.const (.int .i64 65104))), (2, (.const (.int .i64 7)))]) none,
  .mk (some 182) (.build 83 #[(0, (.const (.int .i64 65105))), (1, (.const (.int .i64 65105))), (2, (.const (.int .i64 13)))]) none,
  .mk (some 183) (.build 83 #[(0, (.const (.int .i64 65106))), (1, (.const (.int .i64 65106))), (2, (.const (.int .i64 7)))]) none,
  .mk (some 184) (.build 83 #[(0, (.const (.int .i64 65108))), (1, (.const (.int .i64 65108))), (2, (.const (.int .i64 13)))]) none,
  .mk (some 185) (.build 83 #[(0, (.const (.int .i64 65109))), (1, (.const (.int .i64 65109))), (2, (.const (.int .i64 7)))]) none,
  .mk (some 186) (.build 83 #[(0, (.const (.int .i64 65110))), (1, (.const (.int .i64 65118))), (2, (.const (.int .i64 13)))]) none,
  .mk (some 187) (.build 83 #[(0, (.const (.int .i64 65119))), (1, (.const (.int .i64 65119))), (2, (.const (.int .i64 5)))]) none,
  .mk (some 188) (.build 83 #[(0, (.const (.int .i64 65120))), (1, (.const (.int .i64 65121))), (2, (.const (.int .i64 13)))]) none,
  .mk (some 189) (.build 83 #[(0, (.const (.int .i64 65122))), (1, (.const (.int .i64 65123))), (2, (.const (.int .i64 4)))]) none,
  .mk (some 190) (.build 83 #[(0, (.const (.int .i64 65124))), (1, (.const (.int .i64 65126))), (2, (.const (.int .i64 13)))]) none,
  .mk (some 191) (.build 83 #[(0, (.const (.int .i64 65128))), (1, (.const (.int .i64 65128))), (2, (.const (.int .i64 13)))]) none,
  .mk (some 192) (.build 83 #[(0, (.const (.int .i64 65129))), (1, (.const (.int .i64 65130))), (2, (.const (.int .i64 5)))]) none,
  .mk (some 193) (.build 83 #[(0, (.const (.int .i64 65131))), (1, (.const (.int .i64 65131))), (2, (.const (.int .i64 13)))]) none,
  .mk (some 194) (.build 83 #[(0, (.const (.int .i64 65136))), (1, (.const (.int .i64 65278))), (2, (.const (.int .i64 2)))]) none,
  .mk (some 195) (.build 83 #[(0, (.const (.int .i64 65279))), (1, (.const (.int .i64 65279))), (2, (.const (.int .i64 9)))]) none,
  .mk (some 196) (.build 83 #[(0, (.const (.int .i64 65281))), (1, (.const (.int .i64 65282))), (2, (.const (.int .i64 13)))]) none,
  .mk (some 197) (.build 83 #[(0, (.const (.int .i64 65283))), (1, (.const (.int .i64 65285))), (2, (.const (.int .i64 5)))]) none,
  .mk (some 198) (.build 83 #[(0, (.const (.int .i64 65286))), (1, (.const (.int .i64 65290))), (2, (.const (.int .i64 13)))]) none,
  .mk (some 199) (.build 83 #[(0, (.const (.int .i64 65291))), (1, (.const (.int .i64 65291))), (2, (.const (.int .i64 4)))]) none,
  .mk (some 200) (.build 83 #[(0, (.const (.int .i64 65292))), (1, (.const (.int .i64 65292))), (2, (.const (.int .i64 7)))]) none,
  .mk (some 201) (.build 83 #[(0, (.const (.int .i64 65293))), (1, (.const (.int .i64 65293))), (2, (.const (.int .i64 4)))]) none,
  .mk (some 202) (.build 83 #[(0, (.const (.int .i64 65294))), (1, (.const (.int .i64 65295))), (2, (.const (.int .i64 7)))]) none,
  .mk (some 203) (.build 83 #[(0, (.const (.int .i64 65296))), (1, (.const (.int .i64 65305))), (2, (.const (.int .i64 3)))]) none,
  .mk (some 204) (.build 83 #[(0, (.const (.int .i64 65306))), (1, (.const (.int .i64 65306))), (2, (.const (.int .i64 7)))]) none,
  .mk (some 205) (.build 83 #[(0, (.const (.int .i64 65307))), (1, (.const (.int .i64 65312))), (2, (.const (.int .i64 13)))]) none,
  .mk (some 206) (.build 83 #[(0, (.const (.int .i64 65339))), (1, (.const (.int .i64 65344))), (2, (.const (.int .i64 13)))]) none,
  .mk (some 207) (.build 83 #[(0, (.const (.int .i64 65371))), (1, (.const (.int .i64 65381))), (2, (.const (.int .i64 13)))]) none,
  .mk (some 208) (.build 83 #[(0, (.const (.int .i64 65504))), (1, (.const (.int .i64 65505))), (2, (.const (.int .i64 5)))]) none,
  .mk (some 209) (.build 83 #[(0, (.const (.int .i64 65506))), (1, (.const (.int .i64 65508))), (2, (.const (.int .i64 13)))]) none,
  .mk (some 210) (.build 83 #[(0, (.const (.int .i64 65509))), (1, (.const (.int .i64 65510))), (2, (.const (.int .i64 5)))]) none,
  .mk (some 211) (.build 83 #[(0, (.const (.int .i64 65520))), (1, (.const (.int .i64 65528))), (2, (.const (.int .i64 9)))]) none,
  .mk (some 212) (.build 83 #[(0, (.const (.int .i64 65529))), (1, (.const (.int .i64 65533))), (2, (.const (.int .i64 13)))]) none,
  .mk (some 213) (.build 83 #[(0, (.const (.int .i64 65534))), (1, (.const (.int .i64 65535))), (2, (.const (.int .i64 9)))]) none,
  .mk (some 214) (.build 83 #[(0, (.const (.int .i64 67584))), (1, (.const (.int .i64 68863))), (2, (.const (.int .i64 1)))]) none,
  .mk (some 215) (.build 83 #[(0, (.const (.int .i64 68864))), (1, (.const (.int .i64 68927))), (2, (.const (.int .i64 2)))]) none,
  .mk (some 216) (.build 83 #[(0, (.const (.int .i64 68928))), (1, (.const (.int .i64 69631))), (2, (.const (.int .i64 1)))]) none,
  .mk (some 217) (.build 83 #[(0, (.const (.int .i64 120782))), (1, (.const (.int .i64 120831))), (2, (.const (.int .i64 3)))]) none,
  .mk (some 218) (.build 83 #[(0, (.const (.int .i64 124928))), (1, (.const (.int .i64 126063))), (2, (.const (.int .i64 1)))]) none,
  .mk (some 219) (.build 83 #[(0, (.const (.int .i64 126064))), (1, (.const (.int .i64 126143))), (2, (.const (.int .i64 2)))]) none,
  .mk (some 220) (.build 83 #[(0, (.const (.int .i64 126144))), (1, (.const (.int .i64 126207))), (2, (.const (.int .i64 1)))]) none,
  .mk (some 221) (.build 83 #[(0, (.const (.int .i64 126208))), (1, (.const (.int .i64 126287))), (2, (.const (.int .i64 2)))]) none,
  .mk (some 222) (.build 83 #[(0, (.const (.int .i64 126288))), (1, (.const (.int .i64 126463))), (2, (.const (.int .i64 1)))]) none,
  .mk (some 223) (.build 83 #[(0, (.const (.int .i64 126464))), (1, (.const (.int .i64 126719))), (2, (.const (.int .i64 2)))]) none,
  .mk (some 224) (.build 83 #[(0, (.const (.int .i64 126720))), (1, (.const (.int .i64 126975))), (2, (.const (.int .i64 1)))]) none,
  .mk (some 225) (.build 83 #[(0, (.const (.int .i64 126976))), (1, (.const (.int .i64 127231))), (2, (.const (.int .i64 13)))]) none,
  .mk (some 226) (.build 83 #[(0, (.const (.int .i64 127232))), (1, (.const (.int .i64 127242))), (2, (.const (.int .i64 3)))]) none,
  .mk (some 227) (.build 83 #[(0, (.const (.int .i64 127744))), (1, (.const (.int .i64 128727))), (2, (.const (.int .i64 13)))]) none,
  .mk (some 228) (.build 83 #[(0, (.const (.int .i64 917504))), (1, (.const (.int .i64 917759))), (2, (.const (.int .i64 9)))]) none,
  .mk (some 229) (.build 83 #[(0, (.const (.int .i64 917760))), (1, (.const (.int .i64 917999))), (2, (.const (.int .i64 8)))]) none,
  .mk (some 230) (.build 83 #[(0, (.const (.int .i64 918000))), (1, (.const (.int .i64 921599))), (2, (.const (.int .i64 9)))]) none,
  .mk (some 231) (.buildSlice 55 230 #[(0, (.tmp 1)), (1, (.tmp 2)), (2, (.tmp 3)), (3, (.tmp 4)), (4, (.tmp 5)), (5, (.tmp 6)), (6, (.tmp 7)), (7, (.tmp 8)), (8, (.tmp 9)), (9, (.tmp 10)), (10, (.tmp 11)), (11, (.tmp 12)), (12, (.tmp 13)), (13, (.tmp 14)), (14, (.tmp 15)), (15, (.tmp 16)), (16, (.tmp 17)), (17, (.tmp 18)), (18, (.tmp 19)), (19, (.tmp 20)), (20, (.tmp 21)), (21, (.tmp 22)), (22, (.tmp 23)), (23, (.tmp 24)), (24, (.tmp 25)), (25, (.tmp 26)), (26, (.tmp 27)), (27, (.tmp 28)), (28, (.tmp 29)), (29, (.tmp 30)), (30, (.tmp 31)), (31, (.tmp 32)), (32, (.tmp 33)), (33, (.tmp 34)), (34, (.tmp 35)), (35, (.tmp 36)), (36, (.tmp 37)), (37, (.tmp 38)), (38, (.tmp 39)), (39, (.tmp 40)), (40, (.tmp 41)), (41, (.tmp 42)), (42, (.tmp 43)), (43, (.tmp 44)), (44, (.tmp 45)), (45, (.tmp 46)), (46, (.tmp 47)), (47, (.tmp 48)), (48, (.tmp 49)), (49, (.tmp 50)), (50, (.tmp 51)), (51, (.tmp 52)), (52, (.tmp 53)), (53, (.tmp 54)), (54, (.tmp 55)), (55, (.tmp 56)), (56, (.tmp 57)), (57, (.tmp 58)), (58, (.tmp 59)), (59, (.tmp 60)), (60, (.tmp 61)), (61, (.tmp 62)), (62, (.tmp 63)), (63, (.tmp 64)), (64, (.tmp 65)), (65, (.tmp 66)), (66, (.tmp 67)), (67, (.tmp 68)), (68, (.tmp 69)), (69, (.tmp 70)), (70, (.tmp 71)), (71, (.tmp 72)), (72, (.tmp 73)), (73, (.tmp 74)), (74, (.tmp 75)), (75, (.tmp 76)), (76, (.tmp 77)), (77, (.tmp 78)), (78, (.tmp 79)), (79, (.tmp 80)), (80, (.tmp 81)), (81, (.tmp 82)), (82, (.tmp 83)), (83, (.tmp 84)), (84, (.tmp 85)), (85, (.tmp 86)), (86, (.tmp 87)), (87, (.tmp 88)), (88, (.tmp 89)), (89, (.tmp 90)), (90, (.tmp 91)), (91, (.tmp 92)), (92, (.tmp 93)), (93, (.tmp 94)), (94, (.tmp 95)), (95, (.tmp 96)), (96, (.tmp 97)), (97, (.tmp 98)), (98, (.tmp 99)), (99, (.tmp 100)), (100, (.tmp 101)), (101, (.tmp 102)), (102, (.tmp 103)), (103, (.tmp 104)), (104, (.tmp 105)), (105, (.tmp 106)), (106, (.tmp 107)), (107, (.tmp 108)), (108, (.tmp 109)), (109, (.tmp 110)), (110, (.tmp 111)), (111, (.tmp 112)), (112, (.tmp 113)), (113, (.tmp 114)), (114, (.tmp 115)), (115, (.tmp 116)), (116, (.tmp 117)), (117, (.tmp 118)), (118, (.tmp 119)), (119, (.tmp 120)), (120, (.tmp 121)), (121, (.tmp 122)), (122, (.tmp 123)), (123, (.tmp 124)), (124, (.tmp 125)), (125, (.tmp 126)), (126, (.tmp 127)), (127, (.tmp 128)), (128, (.tmp 129)), (129, (.tmp 130)), (130, (.tmp 131)), (131, (.tmp 132)), (132, (.tmp 133)), (133, (.tmp 134)), (134, (.tmp 135)), (135, (.tmp 136)), (136, (.tmp 137)), (137, (.tmp 138)), (138, (.tmp 139)), (139, (.tmp 140)), (140, (.tmp 141)), (141, (.tmp 142)), (142, (.tmp 143)), (143, (.tmp 144)), (144, (.tmp 145)), (145, (.tmp 146)), (146, (.tmp 147)), (147, (.tmp 148)), (148, (.tmp 149)), (149, (.tmp 150)), (150, (.tmp 151)), (151, (.tmp 152)), (152, (.tmp 153)), (153, (.tmp 154)), (154, (.tmp 155)), (155, (.tmp 156)), (156, (.tmp 157)), (157, (.tmp 158)), (158, (.tmp 159)), (159, (.tmp 160)), (160, (.tmp 161)), (161, (.tmp 162)), (162, (.tmp 163)), (163, (.tmp 164)), (164, (.tmp 165)), (165, (.tmp 166)), (166, (.tmp 167)), (167, (.tmp 168)), (168, (.tmp 169)), (169, (.tmp 170)), (170, (.tmp 171)), (171, (.tmp 172)), (172, (.tmp 173)), (173, (.tmp 174)), (174, (.tmp 175)), (175, (.tmp 176)), (176, (.tmp 177)), (177, (.tmp 178)), (178, (.tmp 179)), (179, (.tmp 180)), (180, (.tmp 181)), (181, (.tmp 182)), (182, (.tmp 183)), (183, (.tmp 184)), (184, (.tmp 185)), (185, (.tmp 186)), (186, (.tmp 187)), (187, (.tmp 188)), (188, (.tmp 189)), (189, (.tmp 190)), (190, (.tmp 191)), (191, (.tmp 192)), (192, (.tmp 193)), (193, (.tmp 194)), (194, (.tmp 195)), (195, (.tmp 196)), (196, (.tmp 197)), (197, (.tmp 198)), (198, (.tmp 199)), (199, (.tmp 200)), (200, (.tmp 201)), (201, (.tmp 202)), (202, (.tmp 203)), (203, (.tmp 204)), (204, (.tmp 205)), (205, (.tmp 206)), (206, (.tmp 207)), (207, (.tmp 208)), (208, (.tmp 209)), (209, (.tmp 210)), (210, (.tmp 211)), (211, (.tmp 212)), (212, (.tmp 213)), (213, (.tmp 214)), (214, (.tmp 215)), (215, (.tmp 216)), (216, (.tmp 217)), (217, (.tmp 218)), (218, (.tmp 219)), (219, (.tmp 220)), (220, (.tmp 221)), (221, (.tmp 222)), (222, (.tmp 223)), (223, (.tmp 224)), (224, (.tmp 225)), (225, (.tmp 226)), (226, (.tmp 227)), (227, (.tmp 228)), (228, (.tmp 229)), (229, (.tmp 230))]) none,
  .mk (some 0) (.assign (.tmp 231)) none]
def c19 : PC := (.seq (.reg false r19_0) (.seq (.reg false r19_1) .ret))
theorem e19 {args : List PV} {h : Heap} {K : PV → Heap → Prop} (hl : args.length = 0) (s : pwp Try.prog [] c19 (fin Try.prog [.tmp 0] h K) (slots0 (olds args)) h) : CanP Try.prog 19 args h K :=
  can_of2 (n := 232) mixed Try.func19 rfl (by kernel_rfl) (by rw [hl]; kernel_rfl) rfl (by kernel_rfl) s
end Go.Proofs.Ytcgaphmndnmfdaa
