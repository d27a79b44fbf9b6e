/-
  The functions that the statements of this seat reach, told in short, and facts on their types. Printed by this project's own program.
  Conditions: none.
-/
import Derived.Test.YtdllafendiaplaaPmO
import Derived.Test.YtdllafendiaplaaProg
import Derived.KernelRfl
namespace Go.Proofs.Ytdllafendiaplaa
open Go.Pm
set_option maxRecDepth 100000
set_option linter.unusedVariables false
theorem mixed : Try.prog.follows .mixedOrders = true := by kernel_rfl
theorem tag3 : tag Try.prog 3 = some false := by kernel_rfl
theorem tsz3 : tsz Try.prog 3 = some 1 := by kernel_rfl
theorem und3 : und Try.prog 3 = true := by kernel_rfl
theorem ik3 : ik Try.prog 3 = some .i64 := by kernel_rfl
theorem kd3 : kd Try.prog 3 = none := by kernel_rfl
theorem esz3 : esz Try.prog 3 = none := by kernel_rfl
theorem zc3 : zc Try.prog 3 = some [.int .i64 0] := by kernel_rfl
theorem ars3 : ars Try.prog 3 = none := by kernel_rfl
theorem tag4 : tag Try.prog 4 = some false := by kernel_rfl
theorem tsz4 : tsz Try.prog 4 = some 1 := by kernel_rfl
theorem und4 : und Try.prog 4 = true := by kernel_rfl
theorem ik4 : ik Try.prog 4 = none := by kernel_rfl
theorem kd4 : kd Try.prog 4 = some 3 := by kernel_rfl
theorem esz4 : esz Try.prog 4 = none := by kernel_rfl
theorem zc4 : zc Try.prog 4 = some [.bool false] := by kernel_rfl
theorem ars4 : ars Try.prog 4 = none := by kernel_rfl
theorem tag5 : tag Try.prog 5 = some false := by kernel_rfl
theorem tsz5 : tsz Try.prog 5 = some 1 := by kernel_rfl
theorem und5 : und Try.prog 5 = true := by kernel_rfl
theorem ik5 : ik Try.prog 5 = some .u8 := by kernel_rfl
theorem kd5 : kd Try.prog 5 = none := by kernel_rfl
theorem esz5 : esz Try.prog 5 = none := by kernel_rfl
theorem zc5 : zc Try.prog 5 = some [.int .u8 0] := by kernel_rfl
theorem ars5 : ars Try.prog 5 = none := by kernel_rfl
theorem tag9 : tag Try.prog 9 = some false := by kernel_rfl
theorem tsz9 : tsz Try.prog 9 = some 1 := by kernel_rfl
theorem und9 : und Try.prog 9 = true := by kernel_rfl
theorem ik9 : ik Try.prog 9 = none := by kernel_rfl
theorem kd9 : kd Try.prog 9 = some 0 := by kernel_rfl
theorem esz9 : esz Try.prog 9 = none := by kernel_rfl
theorem zc9 : zc Try.prog 9 = some [.str ⟨#[]⟩] := by kernel_rfl
theorem ars9 : ars Try.prog 9 = none := by kernel_rfl
theorem tag22 : tag Try.prog 22 = some false := by kernel_rfl
theorem tsz22 : tsz Try.prog 22 = some 1 := by kernel_rfl
theorem und22 : und Try.prog 22 = true := by kernel_rfl
theorem ik22 : ik Try.prog 22 = none := by kernel_rfl
theorem kd22 : kd Try.prog 22 = some 1 := by kernel_rfl
theorem esz22 : esz Try.prog 22 = some 1 := by kernel_rfl
theorem elt22 : elt Try.prog 22 = some 3 := by kernel_rfl
theorem zc22 : zc Try.prog 22 = some [.nils] := by kernel_rfl
theorem ars22 : ars Try.prog 22 = none := by kernel_rfl
theorem eli22 : eli Try.prog 22 = some (1, 8, [.int .i64 0]) := by kernel_rfl
theorem tag27 : tag Try.prog 27 = some false := by kernel_rfl
theorem tsz27 : tsz Try.prog 27 = some 1 := by kernel_rfl
theorem und27 : und Try.prog 27 = true := by kernel_rfl
theorem ik27 : ik Try.prog 27 = none := by kernel_rfl
theorem kd27 : kd Try.prog 27 = some 2 := by kernel_rfl
theorem esz27 : esz Try.prog 27 = none := by kernel_rfl
theorem zc27 : zc Try.prog 27 = some [.nilp] := by kernel_rfl
theorem ars27 : ars Try.prog 27 = none := by kernel_rfl
theorem tag31 : tag Try.prog 31 = some false := by kernel_rfl
theorem tsz31 : tsz Try.prog 31 = some 1 := by kernel_rfl
theorem und31 : und Try.prog 31 = true := by kernel_rfl
theorem ik31 : ik Try.prog 31 = none := by kernel_rfl
theorem kd31 : kd Try.prog 31 = some 1 := by kernel_rfl
theorem esz31 : esz Try.prog 31 = some 2 := by kernel_rfl
theorem elt31 : elt Try.prog 31 = some 34 := by kernel_rfl
theorem zc31 : zc Try.prog 31 = some [.nils] := by kernel_rfl
theorem ars31 : ars Try.prog 31 = none := by kernel_rfl
theorem eli31 : eli Try.prog 31 = some (2, 16, [.int .i64 0, .int .i64 0]) := by kernel_rfl
theorem tag34 : tag Try.prog 34 = some true := by kernel_rfl
theorem tsz34 : tsz Try.prog 34 = some 2 := by kernel_rfl
theorem und34 : und Try.prog 34 = true := by kernel_rfl
theorem ik34 : ik Try.prog 34 = none := by kernel_rfl
theorem kd34 : kd Try.prog 34 = some 14 := by kernel_rfl
theorem esz34 : esz Try.prog 34 = none := by kernel_rfl
theorem zc34 : zc Try.prog 34 = some [.int .i64 0, .int .i64 0] := by kernel_rfl
theorem ars34 : ars Try.prog 34 = none := by kernel_rfl
theorem fld34_0 : fld Try.prog 34 0 = some (0, false, 1) := by kernel_rfl
theorem fld34_1 : fld Try.prog 34 1 = some (1, false, 1) := by kernel_rfl
theorem plc34 : plc Try.prog 34 = some fun i => [(0, 1), (1, 1)][i]? := by kernel_rfl
theorem tag35 : tag Try.prog 35 = some false := by kernel_rfl
theorem tsz35 : tsz Try.prog 35 = some 1 := by kernel_rfl
theorem und35 : und Try.prog 35 = true := by kernel_rfl
theorem ik35 : ik Try.prog 35 = none := by kernel_rfl
theorem kd35 : kd Try.prog 35 = some 2 := by kernel_rfl
theorem esz35 : esz Try.prog 35 = none := by kernel_rfl
theorem zc35 : zc Try.prog 35 = some [.nilp] := by kernel_rfl
theorem ars35 : ars Try.prog 35 = none := by kernel_rfl
theorem tag39 : tag Try.prog 39 = some true := by kernel_rfl
theorem tsz39 : tsz Try.prog 39 = some 4 := by kernel_rfl
theorem und39 : und Try.prog 39 = true := by kernel_rfl
theorem ik39 : ik Try.prog 39 = none := by kernel_rfl
theorem kd39 : kd Try.prog 39 = none := by kernel_rfl
theorem esz39 : esz Try.prog 39 = none := by kernel_rfl
theorem zc39 : zc Try.prog 39 = some [.nils, .nils, .nils, .nils] := by kernel_rfl
theorem ars39 : ars Try.prog 39 = none := by kernel_rfl
theorem fld39_0 : fld Try.prog 39 0 = some (0, false, 1) := by kernel_rfl
theorem fld39_1 : fld Try.prog 39 1 = some (1, false, 1) := by kernel_rfl
theorem fld39_2 : fld Try.prog 39 2 = some (2, false, 1) := by kernel_rfl
theorem fld39_3 : fld Try.prog 39 3 = some (3, false, 1) := by kernel_rfl
theorem plc39 : plc Try.prog 39 = some fun i => [(0, 1), (1, 1), (2, 1), (3, 1)][i]? := by kernel_rfl
theorem tag44 : tag Try.prog 44 = some false := by kernel_rfl
theorem tsz44 : tsz Try.prog 44 = some 1 := by kernel_rfl
theorem und44 : und Try.prog 44 = true := by kernel_rfl
theorem ik44 : ik Try.prog 44 = none := by kernel_rfl
theorem kd44 : kd Try.prog 44 = none := by kernel_rfl
theorem esz44 : esz Try.prog 44 = none := by kernel_rfl
theorem zc44 : zc Try.prog 44 = some [.nilf] := by kernel_rfl
theorem ars44 : ars Try.prog 44 = none := by kernel_rfl
theorem tag45 : tag Try.prog 45 = some false := by kernel_rfl
theorem tsz45 : tsz Try.prog 45 = some 1 := by kernel_rfl
theorem und45 : und Try.prog 45 = true := by kernel_rfl
theorem ik45 : ik Try.prog 45 = none := by kernel_rfl
theorem kd45 : kd Try.prog 45 = some 2 := by kernel_rfl
theorem esz45 : esz Try.prog 45 = none := by kernel_rfl
theorem zc45 : zc Try.prog 45 = some [.nilp] := by kernel_rfl
theorem ars45 : ars Try.prog 45 = none := by kernel_rfl
theorem tag46 : tag Try.prog 46 = some false := by kernel_rfl
theorem tsz46 : tsz Try.prog 46 = some 1 := by kernel_rfl
theorem und46 : und Try.prog 46 = true := by kernel_rfl
theorem ik46 : ik Try.prog 46 = some .i64 := by kernel_rfl
theorem kd46 : kd Try.prog 46 = none := by kernel_rfl
theorem esz46 : esz Try.prog 46 = none := by kernel_rfl
theorem zc46 : zc Try.prog 46 = some [.int .i64 0] := by kernel_rfl
theorem ars46 : ars Try.prog 46 = none := by kernel_rfl
theorem tag49 : tag Try.prog 49 = some false := by kernel_rfl
theorem tsz49 : tsz Try.prog 49 = some 1 := by kernel_rfl
theorem und49 : und Try.prog 49 = true := by kernel_rfl
theorem ik49 : ik Try.prog 49 = none := by kernel_rfl
theorem kd49 : kd Try.prog 49 = some 1 := by kernel_rfl
theorem esz49 : esz Try.prog 49 = some 3 := by kernel_rfl
theorem elt49 : elt Try.prog 49 = some 83 := by kernel_rfl
theorem zc49 : zc Try.prog 49 = some [.nils] := by kernel_rfl
theorem ars49 : ars Try.prog 49 = none := by kernel_rfl
theorem eli49 : eli Try.prog 49 = some (3, 24, [.int .i64 0, .int .i64 0, .int .i64 0]) := by kernel_rfl
theorem tag52 : tag Try.prog 52 = some true := by kernel_rfl
theorem tsz52 : tsz Try.prog 52 = some 2 := by kernel_rfl
theorem und52 : und Try.prog 52 = true := by kernel_rfl
theorem ik52 : ik Try.prog 52 = none := by kernel_rfl
theorem kd52 : kd Try.prog 52 = none := by kernel_rfl
theorem esz52 : esz Try.prog 52 = none := by kernel_rfl
theorem zc52 : zc Try.prog 52 = some [.nilp, .nilp] := by kernel_rfl
theorem ars52 : ars Try.prog 52 = none := by kernel_rfl
theorem fld52_0 : fld Try.prog 52 0 = some (0, false, 1) := by kernel_rfl
theorem fld52_1 : fld Try.prog 52 1 = some (1, false, 1) := by kernel_rfl
theorem plc52 : plc Try.prog 52 = some fun i => [(0, 1), (1, 1)][i]? := by kernel_rfl
theorem tag54 : tag Try.prog 54 = some true := by kernel_rfl
theorem tsz54 : tsz Try.prog 54 = some 2 := by kernel_rfl
theorem und54 : und Try.prog 54 = true := by kernel_rfl
theorem ik54 : ik Try.prog 54 = none := by kernel_rfl
theorem kd54 : kd Try.prog 54 = none := by kernel_rfl
theorem esz54 : esz Try.prog 54 = none := by kernel_rfl
theorem zc54 : zc Try.prog 54 = some [.nilp, .nilp] := by kernel_rfl
theorem ars54 : ars Try.prog 54 = none := by kernel_rfl
theorem fld54_0 : fld Try.prog 54 0 = some (0, true, 2) := by kernel_rfl
theorem plc54 : plc Try.prog 54 = some fun i => [(0, 2)][i]? := by kernel_rfl
theorem tag59 : tag Try.prog 59 = some false := by kernel_rfl
theorem tsz59 : tsz Try.prog 59 = some 1 := by kernel_rfl
theorem und59 : und Try.prog 59 = true := by kernel_rfl
theorem ik59 : ik Try.prog 59 = none := by kernel_rfl
theorem kd59 : kd Try.prog 59 = none := by kernel_rfl
theorem esz59 : esz Try.prog 59 = none := by kernel_rfl
theorem zc59 : zc Try.prog 59 = some [.nilf] := by kernel_rfl
theorem ars59 : ars Try.prog 59 = none := by kernel_rfl
theorem tag61 : tag Try.prog 61 = some false := by kernel_rfl
theorem tsz61 : tsz Try.prog 61 = some 1 := by kernel_rfl
theorem und61 : und Try.prog 61 = true := by kernel_rfl
theorem ik61 : ik Try.prog 61 = none := by kernel_rfl
theorem kd61 : kd Try.prog 61 = none := by kernel_rfl
theorem esz61 : esz Try.prog 61 = none := by kernel_rfl
theorem zc61 : zc Try.prog 61 = some [.nilf] := by kernel_rfl
theorem ars61 : ars Try.prog 61 = none := by kernel_rfl
theorem tag63 : tag Try.prog 63 = some false := by kernel_rfl
theorem tsz63 : tsz Try.prog 63 = some 1 := by kernel_rfl
theorem und63 : und Try.prog 63 = true := by kernel_rfl
theorem ik63 : ik Try.prog 63 = none := by kernel_rfl
theorem kd63 : kd Try.prog 63 = some 1 := by kernel_rfl
theorem esz63 : esz Try.prog 63 = some 1 := by kernel_rfl
theorem elt63 : elt Try.prog 63 = some 22 := by kernel_rfl
theorem zc63 : zc Try.prog 63 = some [.nils] := by kernel_rfl
theorem ars63 : ars Try.prog 63 = none := by kernel_rfl
theorem eli63 : eli Try.prog 63 = some (1, 24, [.nils]) := by kernel_rfl
theorem tag67 : tag Try.prog 67 = some false := by kernel_rfl
theorem tsz67 : tsz Try.prog 67 = some 1 := by kernel_rfl
theorem und67 : und Try.prog 67 = true := by kernel_rfl
theorem ik67 : ik Try.prog 67 = some .u64 := by kernel_rfl
theorem kd67 : kd Try.prog 67 = none := by kernel_rfl
theorem esz67 : esz Try.prog 67 = none := by kernel_rfl
theorem zc67 : zc Try.prog 67 = some [.int .u64 0] := by kernel_rfl
theorem ars67 : ars Try.prog 67 = none := by kernel_rfl
theorem tag72 : tag Try.prog 72 = some false := by kernel_rfl
theorem tsz72 : tsz Try.prog 72 = some 1 := by kernel_rfl
theorem und72 : und Try.prog 72 = true := by kernel_rfl
theorem ik72 : ik Try.prog 72 = none := by kernel_rfl
theorem kd72 : kd Try.prog 72 = some 1 := by kernel_rfl
theorem esz72 : esz Try.prog 72 = some 128 := by kernel_rfl
theorem elt72 : elt Try.prog 72 = some 78 := by kernel_rfl
theorem zc72 : zc Try.prog 72 = some [.nils] := by kernel_rfl
theorem ars72 : ars Try.prog 72 = none := by kernel_rfl
theorem eli72 : eli Try.prog 72 = some (128, 1024, List.replicate 128 (.int .i64 0)) := by kernel_rfl
theorem tag74 : tag Try.prog 74 = some true := by kernel_rfl
theorem tsz74 : tsz Try.prog 74 = some 2 := by kernel_rfl
theorem und74 : und Try.prog 74 = true := by kernel_rfl
theorem ik74 : ik Try.prog 74 = none := by kernel_rfl
theorem kd74 : kd Try.prog 74 = none := by kernel_rfl
theorem esz74 : esz Try.prog 74 = none := by kernel_rfl
theorem zc74 : zc Try.prog 74 = some [.nils, .nils] := by kernel_rfl
theorem ars74 : ars Try.prog 74 = none := by kernel_rfl
theorem fld74_0 : fld Try.prog 74 0 = some (0, false, 1) := by kernel_rfl
theorem fld74_1 : fld Try.prog 74 1 = some (1, false, 1) := by kernel_rfl
theorem plc74 : plc Try.prog 74 = some fun i => [(0, 1), (1, 1)][i]? := by kernel_rfl
theorem tag76 : tag Try.prog 76 = some true := by kernel_rfl
theorem tsz76 : tsz Try.prog 76 = some 4 := by kernel_rfl
theorem und76 : und Try.prog 76 = true := by kernel_rfl
theorem ik76 : ik Try.prog 76 = none := by kernel_rfl
theorem kd76 : kd Try.prog 76 = none := by kernel_rfl
theorem esz76 : esz Try.prog 76 = none := by kernel_rfl
theorem zc76 : zc Try.prog 76 = some [.nils, .nils, .int .i64 0, .bool false] := by kernel_rfl
theorem ars76 : ars Try.prog 76 = none := by kernel_rfl
theorem fld76_0 : fld Try.prog 76 0 = some (0, true, 2) := by kernel_rfl
theorem fld76_1 : fld Try.prog 76 1 = some (2, false, 1) := by kernel_rfl
theorem fld76_2 : fld Try.prog 76 2 = some (3, false, 1) := by kernel_rfl
theorem plc76 : plc Try.prog 76 = some fun i => [(0, 2), (2, 1), (3, 1)][i]? := by kernel_rfl
theorem tag78 : tag Try.prog 78 = some true := by kernel_rfl
theorem tsz78 : tsz Try.prog 78 = some 128 := by kernel_rfl
theorem und78 : und Try.prog 78 = true := by kernel_rfl
theorem ik78 : ik Try.prog 78 = none := by kernel_rfl
theorem kd78 : kd Try.prog 78 = some 266 := by kernel_rfl
theorem esz78 : esz Try.prog 78 = none := by kernel_rfl
theorem zc78 : zc Try.prog 78 = some (List.replicate 128 (.int .i64 0)) := by kernel_rfl
theorem ars78 : ars Try.prog 78 = some (128, 1, false) := by kernel_rfl
theorem plc78 : plc Try.prog 78 = some fun i => some (i * 1, 1) := by kernel_rfl
theorem tag83 : tag Try.prog 83 = some true := by kernel_rfl
theorem tsz83 : tsz Try.prog 83 = some 3 := by kernel_rfl
theorem und83 : und Try.prog 83 = true := by kernel_rfl
theorem ik83 : ik Try.prog 83 = none := by kernel_rfl
theorem kd83 : kd Try.prog 83 = some 16 := by kernel_rfl
theorem esz83 : esz Try.prog 83 = none := by kernel_rfl
theorem zc83 : zc Try.prog 83 = some [.int .i64 0, .int .i64 0, .int .i64 0] := by kernel_rfl
theorem ars83 : ars Try.prog 83 = none := by kernel_rfl
theorem fld83_0 : fld Try.prog 83 0 = some (0, false, 1) := by kernel_rfl
theorem fld83_1 : fld Try.prog 83 1 = some (1, false, 1) := by kernel_rfl
theorem fld83_2 : fld Try.prog 83 2 = some (2, false, 1) := by kernel_rfl
theorem plc83 : plc Try.prog 83 = some fun i => [(0, 1), (1, 1), (2, 1)][i]? := by kernel_rfl
theorem tag94 : tag Try.prog 94 = some false := by kernel_rfl
theorem tsz94 : tsz Try.prog 94 = some 1 := by kernel_rfl
theorem und94 : und Try.prog 94 = true := by kernel_rfl
theorem ik94 : ik Try.prog 94 = some .i64 := by kernel_rfl
theorem kd94 : kd Try.prog 94 = none := by kernel_rfl
theorem esz94 : esz Try.prog 94 = none := by kernel_rfl
theorem zc94 : zc Try.prog 94 = some [.int .i64 0] := by kernel_rfl
theorem ars94 : ars Try.prog 94 = none := by kernel_rfl
theorem tag98 : tag Try.prog 98 = some false := by kernel_rfl
theorem tsz98 : tsz Try.prog 98 = some 1 := by kernel_rfl
theorem und98 : und Try.prog 98 = true := by kernel_rfl
theorem ik98 : ik Try.prog 98 = none := by kernel_rfl
theorem kd98 : kd Try.prog 98 = none := by kernel_rfl
theorem esz98 : esz Try.prog 98 = none := by kernel_rfl
theorem zc98 : zc Try.prog 98 = some [.nilf] := by kernel_rfl
theorem ars98 : ars Try.prog 98 = none := by kernel_rfl
theorem tag102 : tag Try.prog 102 = some false := by kernel_rfl
theorem tsz102 : tsz Try.prog 102 = some 1 := by kernel_rfl
theorem und102 : und Try.prog 102 = true := by kernel_rfl
theorem ik102 : ik Try.prog 102 = some .u32 := by kernel_rfl
theorem kd102 : kd Try.prog 102 = none := by kernel_rfl
theorem esz102 : esz Try.prog 102 = none := by kernel_rfl
theorem zc102 : zc Try.prog 102 = some [.int .u32 0] := by kernel_rfl
theorem ars102 : ars Try.prog 102 = none := by kernel_rfl
theorem tag104 : tag Try.prog 104 = some false := by kernel_rfl
theorem tsz104 : tsz Try.prog 104 = some 1 := by kernel_rfl
theorem und104 : und Try.prog 104 = true := by kernel_rfl
theorem ik104 : ik Try.prog 104 = some .u64 := by kernel_rfl
theorem kd104 : kd Try.prog 104 = none := by kernel_rfl
theorem esz104 : esz Try.prog 104 = none := by kernel_rfl
theorem zc104 : zc Try.prog 104 = some [.int .u64 0] := by kernel_rfl
theorem ars104 : ars Try.prog 104 = none := by kernel_rfl
theorem tag106 : tag Try.prog 106 = some false := by kernel_rfl
theorem tsz106 : tsz Try.prog 106 = some 1 := by kernel_rfl
theorem und106 : und Try.prog 106 = true := by kernel_rfl
theorem ik106 : ik Try.prog 106 = none := by kernel_rfl
theorem kd106 : kd Try.prog 106 = some 2 := by kernel_rfl
theorem esz106 : esz Try.prog 106 = none := by kernel_rfl
theorem zc106 : zc Try.prog 106 = some [.nilp] := by kernel_rfl
theorem ars106 : ars Try.prog 106 = none := by kernel_rfl
theorem tag109 : tag Try.prog 109 = some false := by kernel_rfl
theorem tsz109 : tsz Try.prog 109 = some 1 := by kernel_rfl
theorem und109 : und Try.prog 109 = true := by kernel_rfl
theorem ik109 : ik Try.prog 109 = some .u64 := by kernel_rfl
theorem kd109 : kd Try.prog 109 = none := by kernel_rfl
theorem esz109 : esz Try.prog 109 = none := by kernel_rfl
theorem zc109 : zc Try.prog 109 = some [.int .u64 0] := by kernel_rfl
theorem ars109 : ars Try.prog 109 = none := by kernel_rfl
theorem tag113 : tag Try.prog 113 = some false := by kernel_rfl
theorem tsz113 : tsz Try.prog 113 = some 1 := by kernel_rfl
theorem und113 : und Try.prog 113 = true := by kernel_rfl
theorem ik113 : ik Try.prog 113 = none := by kernel_rfl
theorem kd113 : kd Try.prog 113 = some 2 := by kernel_rfl
theorem esz113 : esz Try.prog 113 = none := by kernel_rfl
theorem zc113 : zc Try.prog 113 = some [.nilp] := by kernel_rfl
theorem ars113 : ars Try.prog 113 = none := by kernel_rfl
theorem tag115 : tag Try.prog 115 = some false := by kernel_rfl
theorem tsz115 : tsz Try.prog 115 = some 1 := by kernel_rfl
theorem und115 : und Try.prog 115 = true := by kernel_rfl
theorem ik115 : ik Try.prog 115 = none := by kernel_rfl
theorem kd115 : kd Try.prog 115 = some 2 := by kernel_rfl
theorem esz115 : esz Try.prog 115 = none := by kernel_rfl
theorem zc115 : zc Try.prog 115 = some [.nilp] := by kernel_rfl
theorem ars115 : ars Try.prog 115 = none := by kernel_rfl
theorem ft : (tag Try.prog 3 = some false) ∧
    (tsz Try.prog 3 = some 1) ∧
    (und Try.prog 3 = true) ∧
    (ik Try.prog 3 = some .i64) ∧
    (kd Try.prog 3 = none) ∧
    (esz Try.prog 3 = none) ∧
    (zc Try.prog 3 = some [.int .i64 0]) ∧
    (ars Try.prog 3 = none) ∧
    (tag Try.prog 4 = some false) ∧
    (tsz Try.prog 4 = some 1) ∧
    (und Try.prog 4 = true) ∧
    (ik Try.prog 4 = none) ∧
    (kd Try.prog 4 = some 3) ∧
    (esz Try.prog 4 = none) ∧
    (zc Try.prog 4 = some [.bool false]) ∧
    (ars Try.prog 4 = none) ∧
    (tag Try.prog 5 = some false) ∧
    (tsz Try.prog 5 = some 1) ∧
    (und Try.prog 5 = true) ∧
    (ik Try.prog 5 = some .u8) ∧
    (kd Try.prog 5 = none) ∧
    (esz Try.prog 5 = none) ∧
    (zc Try.prog 5 = some [.int .u8 0]) ∧
    (ars Try.prog 5 = none) ∧
    (tag Try.prog 9 = some false) ∧
    (tsz Try.prog 9 = some 1) ∧
    (und Try.prog 9 = true) ∧
    (ik Try.prog 9 = none) ∧
    (kd Try.prog 9 = some 0) ∧
    (esz Try.prog 9 = none) ∧
    (zc Try.prog 9 = some [.str ⟨#[]⟩]) ∧
    (ars Try.prog 9 = none) ∧
    (tag Try.prog 22 = some false) ∧
    (tsz Try.prog 22 = some 1) ∧
    (und Try.prog 22 = true) ∧
    (ik Try.prog 22 = none) ∧
    (kd Try.prog 22 = some 1) ∧
    (esz Try.prog 22 = some 1) ∧
    (elt Try.prog 22 = some 3) ∧
    (zc Try.prog 22 = some [.nils]) ∧
    (ars Try.prog 22 = none) ∧
    (eli Try.prog 22 = some (1, 8, [.int .i64 0])) ∧
    (tag Try.prog 27 = some false) ∧
    (tsz Try.prog 27 = some 1) ∧
    (und Try.prog 27 = true) ∧
    (ik Try.prog 27 = none) ∧
    (kd Try.prog 27 = some 2) ∧
    (esz Try.prog 27 = none) ∧
    (zc Try.prog 27 = some [.nilp]) ∧
    (ars Try.prog 27 = none) ∧
    (tag Try.prog 31 = some false) ∧
    (tsz Try.prog 31 = some 1) ∧
    (und Try.prog 31 = true) ∧
    (ik Try.prog 31 = none) ∧
    (kd Try.prog 31 = some 1) ∧
    (esz Try.prog 31 = some 2) ∧
    (elt Try.prog 31 = some 34) ∧
    (zc Try.prog 31 = some [.nils]) ∧
    (ars Try.prog 31 = none) ∧
    (eli Try.prog 31 = some (2, 16, [.int .i64 0, .int .i64 0])) ∧
    (tag Try.prog 34 = some true) ∧
    (tsz Try.prog 34 = some 2) ∧
    (und Try.prog 34 = true) ∧
    (ik Try.prog 34 = none) ∧
    (kd Try.prog 34 = some 14) ∧
    (esz Try.prog 34 = none) ∧
    (zc Try.prog 34 = some [.int .i64 0, .int .i64 0]) ∧
    (ars Try.prog 34 = none) ∧
    (fld Try.prog 34 0 = some (0, false, 1)) ∧
    (fld Try.prog 34 1 = some (1, false, 1)) ∧
    (plc Try.prog 34 = some fun i => [(0, 1), (1, 1)][i]?) ∧
    (tag Try.prog 35 = some false) ∧
    (tsz Try.prog 35 = some 1) ∧
    (und Try.prog 35 = true) ∧
    (ik Try.prog 35 = none) ∧
    (kd Try.prog 35 = some 2) ∧
    (esz Try.prog 35 = none) ∧
    (zc Try.prog 35 = some [.nilp]) ∧
    (ars Try.prog 35 = none) ∧
    (tag Try.prog 39 = some true) ∧
    (tsz Try.prog 39 = some 4) ∧
    (und Try.prog 39 = true) ∧
    (ik Try.prog 39 = none) ∧
    (kd Try.prog 39 = none) ∧
    (esz Try.prog 39 = none) ∧
    (zc Try.prog 39 = some [.nils, .nils, .nils, .nils]) ∧
    (ars Try.prog 39 = none) ∧
    (fld Try.prog 39 0 = some (0, false, 1)) ∧
    (fld Try.prog 39 1 = some (1, false, 1)) ∧
    (fld Try.prog 39 2 = some (2, false, 1)) ∧
    (fld Try.prog 39 3 = some (3, false, 1)) ∧
    (plc Try.prog 39 = some fun i => [(0, 1), (1, 1), (2, 1), (3, 1)][i]?) ∧
    (tag Try.prog 44 = some false) ∧
    (tsz Try.prog 44 = some 1) ∧
    (und Try.prog 44 = true) ∧
    (ik Try.prog 44 = none) ∧
    (kd Try.prog 44 = none) ∧
    (esz Try.prog 44 = none) ∧
    (zc Try.prog 44 = some [.nilf]) ∧
    (ars Try.prog 44 = none) ∧
    (tag Try.prog 45 = some false) ∧
    (tsz Try.prog 45 = some 1) ∧
    (und Try.prog 45 = true) ∧
    (ik Try.prog 45 = none) ∧
    (kd Try.prog 45 = some 2) ∧
    (esz Try.prog 45 = none) ∧
    (zc Try.prog 45 = some [.nilp]) ∧
    (ars Try.prog 45 = none) ∧
    (tag Try.prog 46 = some false) ∧
    (tsz Try.prog 46 = some 1) ∧
    (und Try.prog 46 = true) ∧
    (ik Try.prog 46 = some .i64) ∧
    (kd Try.prog 46 = none) ∧
    (esz Try.prog 46 = none) ∧
    (zc Try.prog 46 = some [.int .i64 0]) ∧
    (ars Try.prog 46 = none) ∧
    (tag Try.prog 49 = some false) ∧
    (tsz Try.prog 49 = some 1) ∧
    (und Try.prog 49 = true) ∧
    (ik Try.prog 49 = none) ∧
    (kd Try.prog 49 = some 1) ∧
    (esz Try.prog 49 = some 3) ∧
    (elt Try.prog 49 = some 83) ∧
    (zc Try.prog 49 = some [.nils]) ∧
    (ars Try.prog 49 = none) ∧
    (eli Try.prog 49 = some (3, 24, [.int .i64 0, .int .i64 0, .int .i64 0])) ∧
    (tag Try.prog 52 = some true) ∧
    (tsz Try.prog 52 = some 2) ∧
    (und Try.prog 52 = true) ∧
    (ik Try.prog 52 = none) ∧
    (kd Try.prog 52 = none) ∧
    (esz Try.prog 52 = none) ∧
    (zc Try.prog 52 = some [.nilp, .nilp]) ∧
    (ars Try.prog 52 = none) ∧
    (fld Try.prog 52 0 = some (0, false, 1)) ∧
    (fld Try.prog 52 1 = some (1, false, 1)) ∧
    (plc Try.prog 52 = some fun i => [(0, 1), (1, 1)][i]?) ∧
    (tag Try.prog 54 = some true) ∧
    (tsz Try.prog 54 = some 2) ∧
    (und Try.prog 54 = true) ∧
    (ik Try.prog 54 = none) ∧
    (kd Try.prog 54 = none) ∧
    (esz Try.prog 54 = none) ∧
    (zc Try.prog 54 = some [.nilp, .nilp]) ∧
    (ars Try.prog 54 = none) ∧
    (fld Try.prog 54 0 = some (0, true, 2)) ∧
    (plc Try.prog 54 = some fun i => [(0, 2)][i]?) ∧
    (tag Try.prog 59 = some false) ∧
    (tsz Try.prog 59 = some 1) ∧
    (und Try.prog 59 = true) ∧
    (ik Try.prog 59 = none) ∧
    (kd Try.prog 59 = none) ∧
    (esz Try.prog 59 = none) ∧
    (zc Try.prog 59 = some [.nilf]) ∧
    (ars Try.prog 59 = none) ∧
    (tag Try.prog 61 = some false) ∧
    (tsz Try.prog 61 = some 1) ∧
    (und Try.prog 61 = true) ∧
    (ik Try.prog 61 = none) ∧
    (kd Try.prog 61 = none) ∧
    (esz Try.prog 61 = none) ∧
    (zc Try.prog 61 = some [.nilf]) ∧
    (ars Try.prog 61 = none) ∧
    (tag Try.prog 63 = some false) ∧
    (tsz Try.prog 63 = some 1) ∧
    (und Try.prog 63 = true) ∧
    (ik Try.prog 63 = none) ∧
    (kd Try.prog 63 = some 1) ∧
    (esz Try.prog 63 = some 1) ∧
    (elt Try.prog 63 = some 22) ∧
    (zc Try.prog 63 = some [.nils]) ∧
    (ars Try.prog 63 = none) ∧
    (eli Try.prog 63 = some (1, 24, [.nils])) ∧
    (tag Try.prog 67 = some false) ∧
    (tsz Try.prog 67 = some 1) ∧
    (und Try.prog 67 = true) ∧
    (ik Try.prog 67 = some .u64) ∧
    (kd Try.prog 67 = none) ∧
    (esz Try.prog 67 = none) ∧
    (zc Try.prog 67 = some [.int .u64 0]) ∧
    (ars Try.prog 67 = none) ∧
    (tag Try.prog 72 = some false) ∧
    (tsz Try.prog 72 = some 1) ∧
    (und Try.prog 72 = true) ∧
    (ik Try.prog 72 = none) ∧
    (kd Try.prog 72 = some 1) ∧
    (esz Try.prog 72 = some 128) ∧
    (elt Try.prog 72 = some 78) ∧
    (zc Try.prog 72 = some [.nils]) ∧
    (ars Try.prog 72 = none) ∧
    (eli Try.prog 72 = some (128, 1024, List.replicate 128 (.int .i64 0))) ∧
    (tag Try.prog 74 = some true) ∧
    (tsz Try.prog 74 = some 2) ∧
    (und Try.prog 74 = true) ∧
    (ik Try.prog 74 = none) ∧
    (kd Try.prog 74 = none) ∧
    (esz Try.prog 74 = none) ∧
    (zc Try.prog 74 = some [.nils, .nils]) ∧
    (ars Try.prog 74 = none) ∧
    (fld Try.prog 74 0 = some (0, false, 1)) ∧
    (fld Try.prog 74 1 = some (1, false, 1)) ∧
    (plc Try.prog 74 = some fun i => [(0, 1), (1, 1)][i]?) ∧
    (tag Try.prog 76 = some true) ∧
    (tsz Try.prog 76 = some 4) ∧
    (und Try.prog 76 = true) ∧
    (ik Try.prog 76 = none) ∧
    (kd Try.prog 76 = none) ∧
    (esz Try.prog 76 = none) ∧
    (zc Try.prog 76 = some [.nils, .nils, .int .i64 0, .bool false]) ∧
    (ars Try.prog 76 = none) ∧
    (fld Try.prog 76 0 = some (0, true, 2)) ∧
    (fld Try.prog 76 1 = some (2, false, 1)) ∧
    (fld Try.prog 76 2 = some (3, false, 1)) ∧
    (plc Try.prog 76 = some fun i => [(0, 2), (2, 1), (3, 1)][i]?) ∧
    (tag Try.prog 78 = some true) ∧
    (tsz Try.prog 78 = some 128) ∧
    (und Try.prog 78 = true) ∧
    (ik Try.prog 78 = none) ∧
    (kd Try.prog 78 = some 266) ∧
    (esz Try.prog 78 = none) ∧
    (zc Try.prog 78 = some (List.replicate 128 (.int .i64 0))) ∧
    (ars Try.prog 78 = some (128, 1, false)) ∧
    (plc Try.prog 78 = some fun i => some (i * 1, 1)) ∧
    (tag Try.prog 83 = some true) ∧
    (tsz Try.prog 83 = some 3) ∧
    (und Try.prog 83 = true) ∧
    (ik Try.prog 83 = none) ∧
    (kd Try.prog 83 = some 16) ∧
    (esz Try.prog 83 = none) ∧
    (zc Try.prog 83 = some [.int .i64 0, .int .i64 0, .int .i64 0]) ∧
    (ars Try.prog 83 = none) ∧
    (fld Try.prog 83 0 = some (0, false, 1)) ∧
    (fld Try.prog 83 1 = some (1, false, 1)) ∧
    (fld Try.prog 83 2 = some (2, false, 1)) ∧
    (plc Try.prog 83 = some fun i => [(0, 1), (1, 1), (2, 1)][i]?) ∧
    (tag Try.prog 94 = some false) ∧
    (tsz Try.prog 94 = some 1) ∧
    (und Try.prog 94 = true) ∧
    (ik Try.prog 94 = some .i64) ∧
    (kd Try.prog 94 = none) ∧
    (esz Try.prog 94 = none) ∧
    (zc Try.prog 94 = some [.int .i64 0]) ∧
    (ars Try.prog 94 = none) ∧
    (tag Try.prog 98 = some false) ∧
    (tsz Try.prog 98 = some 1) ∧
    (und Try.prog 98 = true) ∧
    (ik Try.prog 98 = none) ∧
    (kd Try.prog 98 = none) ∧
    (esz Try.prog 98 = none) ∧
    (zc Try.prog 98 = some [.nilf]) ∧
    (ars Try.prog 98 = none) ∧
    (tag Try.prog 102 = some false) ∧
    (tsz Try.prog 102 = some 1) ∧
    (und Try.prog 102 = true) ∧
    (ik Try.prog 102 = some .u32) ∧
    (kd Try.prog 102 = none) ∧
    (esz Try.prog 102 = none) ∧
    (zc Try.prog 102 = some [.int .u32 0]) ∧
    (ars Try.prog 102 = none) ∧
    (tag Try.prog 104 = some false) ∧
    (tsz Try.prog 104 = some 1) ∧
    (und Try.prog 104 = true) ∧
    (ik Try.prog 104 = some .u64) ∧
    (kd Try.prog 104 = none) ∧
    (esz Try.prog 104 = none) ∧
    (zc Try.prog 104 = some [.int .u64 0]) ∧
    (ars Try.prog 104 = none) ∧
    (tag Try.prog 106 = some false) ∧
    (tsz Try.prog 106 = some 1) ∧
    (und Try.prog 106 = true) ∧
    (ik Try.prog 106 = none) ∧
    (kd Try.prog 106 = some 2) ∧
    (esz Try.prog 106 = none) ∧
    (zc Try.prog 106 = some [.nilp]) ∧
    (ars Try.prog 106 = none) ∧
    (tag Try.prog 109 = some false) ∧
    (tsz Try.prog 109 = some 1) ∧
    (und Try.prog 109 = true) ∧
    (ik Try.prog 109 = some .u64) ∧
    (kd Try.prog 109 = none) ∧
    (esz Try.prog 109 = none) ∧
    (zc Try.prog 109 = some [.int .u64 0]) ∧
    (ars Try.prog 109 = none) ∧
    (tag Try.prog 113 = some false) ∧
    (tsz Try.prog 113 = some 1) ∧
    (und Try.prog 113 = true) ∧
    (ik Try.prog 113 = none) ∧
    (kd Try.prog 113 = some 2) ∧
    (esz Try.prog 113 = none) ∧
    (zc Try.prog 113 = some [.nilp]) ∧
    (ars Try.prog 113 = none) ∧
    (tag Try.prog 115 = some false) ∧
    (tsz Try.prog 115 = some 1) ∧
    (und Try.prog 115 = true) ∧
    (ik Try.prog 115 = none) ∧
    (kd Try.prog 115 = some 2) ∧
    (esz Try.prog 115 = none) ∧
    (zc Try.prog 115 = some [.nilp]) ∧
    (ars Try.prog 115 = none) :=
  ⟨tag3, tsz3, und3, ik3, kd3, esz3, zc3, ars3, tag4, tsz4, und4, ik4, kd4, esz4, zc4, ars4, tag5, tsz5, und5, ik5, kd5, esz5, zc5, ars5, tag9, tsz9, und9, ik9, kd9, esz9, zc9, ars9, tag22, tsz22, und22, ik22, kd22, esz22, elt22, zc22, ars22, eli22, tag27, tsz27, und27, ik27, kd27, esz27, zc27, ars27, tag31, tsz31, und31, ik31, kd31, esz31, elt31, zc31, ars31, eli31, tag34, tsz34, und34, ik34, kd34, esz34, zc34, ars34, fld34_0, fld34_1, plc34, tag35, tsz35, und35, ik35, kd35, esz35, zc35, ars35, tag39, tsz39, und39, ik39, kd39, esz39, zc39, ars39, fld39_0, fld39_1, fld39_2, fld39_3, plc39, tag44, tsz44, und44, ik44, kd44, esz44, zc44, ars44, tag45, tsz45, und45, ik45, kd45, esz45, zc45, ars45, tag46, tsz46, und46, ik46, kd46, esz46, zc46, ars46, tag49, tsz49, und49, ik49, kd49, esz49, elt49, zc49, ars49, eli49, tag52, tsz52, und52, ik52, kd52, esz52, zc52, ars52, fld52_0, fld52_1, plc52, tag54, tsz54, und54, ik54, kd54, esz54, zc54, ars54, fld54_0, plc54, tag59, tsz59, und59, ik59, kd59, esz59, zc59, ars59, tag61, tsz61, und61, ik61, kd61, esz61, zc61, ars61, tag63, tsz63, und63, ik63, kd63, esz63, elt63, zc63, ars63, eli63, tag67, tsz67, und67, ik67, kd67, esz67, zc67, ars67, tag72, tsz72, und72, ik72, kd72, esz72, elt72, zc72, ars72, eli72, tag74, tsz74, und74, ik74, kd74, esz74, zc74, ars74, fld74_0, fld74_1, plc74, tag76, tsz76, und76, ik76, kd76, esz76, zc76, ars76, fld76_0, fld76_1, fld76_2, plc76, tag78, tsz78, und78, ik78, kd78, esz78, zc78, ars78, plc78, tag83, tsz83, und83, ik83, kd83, esz83, zc83, ars83, fld83_0, fld83_1, fld83_2, plc83, tag94, tsz94, und94, ik94, kd94, esz94, zc94, ars94, tag98, tsz98, und98, ik98, kd98, esz98, zc98, ars98, tag102, tsz102, und102, ik102, kd102, esz102, zc102, ars102, tag104, tsz104, und104, ik104, kd104, esz104, zc104, ars104, tag106, tsz106, und106, ik106, kd106, esz106, zc106, ars106, tag109, tsz109, und109, ik109, kd109, esz109, zc109, ars109, tag113, tsz113, und113, ik113, kd113, esz113, zc113, ars113, tag115, tsz115, und115, ik115, kd115, esz115, zc115, ars115⟩
/-! ### slices.Equal[[]int,int]: function 8 -/
def r8_0 : List PS := [.mk (some 4) (.assign (.const (.bool false))) none]
def r8_1 : List PS := [.mk (some 6) (.move (.tmp 0)) none,
  .mk (some 7) (.call ⟨(.builtin .len), #[(.tmp 6)], #[22]⟩) none,
  .mk (some 8) (.move (.tmp 1)) none,
  .mk (some 9) (.call ⟨(.builtin .len), #[(.tmp 8)], #[22]⟩) none,
  .mk (some 10) (.binOp .neq 3 (.tmp 7) (.tmp 9) 3) none]
def r8_2 : List PS := [.mk (some 4) (.assign (.const (.bool false))) none]
def r8_3 : List PS := [.mk (some 11) (.move (.tmp 0)) none,
  .mk (some 12) (.call ⟨(.builtin .len), #[(.tmp 11)], #[22]⟩) none,
  .mk (some 13) (.move (.const (.int .i64 0))) none]
def r8_4 : List PS := [.mk (some 14) (.binOp .lss 3 (.tmp 13) (.tmp 12) 3) none]
def r8_5 : List PS := [.mk (some 15) (.move (.tmp 13)) none,
  .mk (some 5) (.assign (.tmp 15)) none]
def r8_6 : List PS := [.mk (some 16) (.move (.tmp 0)) none,
  .mk (some 17) (.move (.tmp 5)) none,
  .mk (some 18) (.indexAddr 22 (.tmp 16) (.tmp 17)) none,
  .mk (some 19) (.load 3 (.tmp 18)) none,
  .mk (some 20) (.move (.tmp 1)) none,
  .mk (some 21) (.move (.tmp 5)) none,
  .mk (some 22) (.indexAddr 22 (.tmp 20) (.tmp 21)) none,
  .mk (some 23) (.load 3 (.tmp 22)) none,
  .mk (some 24) (.binOp .neq 3 (.tmp 19) (.tmp 23) 3) none]
def r8_7 : List PS := [.mk (some 4) (.assign (.const (.bool false))) none]
def r8_8 : List PS := [.mk (some 25) (.binOp .add 3 (.tmp 13) (.const (.int .i64 1)) 3) none,
  .mk (some 13) (.move (.tmp 25)) none]
def r8_9 : List PS := [.mk (some 4) (.assign (.const (.bool true))) none]
def c8 : PC := (.seq (.reg false r8_0) (.seq (.seq (.reg false r8_1) (.cond (.tmp 10) (.seq (.reg false r8_2) .ret) .skip)) (.seq (.seq (.reg false r8_3) (.block 0 (.loop (.seq (.reg false r8_4) (.seq (.cond (.tmp 14) .skip (.exit 0)) (.seq (.block 1 (.seq (.reg false r8_5) (.seq (.reg true r8_6) (.cond (.tmp 24) (.seq (.reg false r8_7) .ret) .skip)))) (.reg false r8_8))))))) (.seq (.reg false r8_9) .ret))))
theorem e8 {args : List PV} {h : Heap} {K : PV → Heap → Prop} (hl : args.length = 2) (s : pwp Try.prog [] c8 (fin Try.prog [.tmp 4] h K) (slots0 (olds args)) h) : CanP Try.prog 8 args h K :=
  can_of2 (n := 26) mixed Try.func8 rfl (by kernel_rfl) (by rw [hl]; kernel_rfl) rfl (by kernel_rfl) s
/-! ### slices.Index[[]int,int]: function 83 -/
def r83_0 : List PS := [.mk (some 4) (.assign (.const (.int .i64 0))) none]
def r83_1 : List PS := [.mk (some 6) (.move (.tmp 0)) none,
  .mk (some 7) (.call ⟨(.builtin .len), #[(.tmp 6)], #[22]⟩) none,
  .mk (some 8) (.move (.const (.int .i64 0))) none]
def r83_2 : List PS := [.mk (some 9) (.binOp .lss 3 (.tmp 8) (.tmp 7) 3) none]
def r83_3 : List PS := [.mk (some 10) (.move (.tmp 8)) none,
  .mk (some 5) (.assign (.tmp 10)) none]
def r83_4 : List PS := [.mk (some 11) (.move (.tmp 1)) none,
  .mk (some 12) (.move (.tmp 0)) none,
  .mk (some 13) (.move (.tmp 5)) none,
  .mk (some 14) (.indexAddr 22 (.tmp 12) (.tmp 13)) none,
  .mk (some 15) (.load 3 (.tmp 14)) none,
  .mk (some 16) (.binOp .eql 3 (.tmp 11) (.tmp 15) 3) none]
def r83_5 : List PS := [.mk (some 17) (.move (.tmp 5)) none,
  .mk (some 4) (.assign (.tmp 17)) none]
def r83_6 : List PS := [.mk (some 18) (.binOp .add 3 (.tmp 8) (.const (.int .i64 1)) 3) none,
  .mk (some 8) (.move (.tmp 18)) none]
def r83_7 : List PS := [.mk (some 4) (.assign (.const (.int .i64 (-1)))) none]
def c83 : PC := (.seq (.reg false r83_0) (.seq (.seq (.reg false r83_1) (.block 0 (.loop (.seq (.reg false r83_2) (.seq (.cond (.tmp 9) .skip (.exit 0)) (.seq (.block 1 (.seq (.reg false r83_3) (.seq (.reg false r83_4) (.cond (.tmp 16) (.seq (.reg false r83_5) .ret) .skip)))) (.reg false r83_6))))))) (.seq (.reg false r83_7) .ret)))
theorem e83 {args : List PV} {h : Heap} {K : PV → Heap → Prop} (hl : args.length = 2) (s : pwp Try.prog [] c83 (fin Try.prog [.tmp 4] h K) (slots0 (olds args)) h) : CanP Try.prog 83 args h K :=
  can_of2 (n := 19) mixed Try.func83 rfl (by kernel_rfl) (by rw [hl]; kernel_rfl) rfl (by kernel_rfl) s
/-! ### slices.Contains[[]int,int]: function 62 -/
def r62_0 : List PS := [.mk (some 4) (.assign (.const (.bool false))) none]
def r62_1 : List PS := [.mk (some 5) (.move (.tmp 0)) none,
  .mk (some 6) (.move (.tmp 1)) none,
  .mk (some 7) (.call ⟨(.value (.func 83)), #[(.tmp 5), (.tmp 6)], #[22, 3]⟩) none,
  .mk (some 8) (.binOp .geq 3 (.tmp 7) (.const (.int .i64 0)) 3) none,
  .mk (some 4) (.assign (.tmp 8)) none]
def c62 : PC := (.seq (.reg false r62_0) (.seq (.reg false r62_1) .ret))
theorem e62 {args : List PV} {h : Heap} {K : PV → Heap → Prop} (hl : args.length = 2) (s : pwp Try.prog [] c62 (fin Try.prog [.tmp 4] h K) (slots0 (olds args)) h) : CanP Try.prog 62 args h K :=
  can_of2 (n := 9) mixed Try.func62 rfl (by kernel_rfl) (by rw [hl]; kernel_rfl) rfl (by kernel_rfl) s
/-! ### naskh.balance.embeds: function 41 -/
def r41_0 : List PS := [.mk (some 2) (.assign (.const (.bool false))) none]
def r41_1 : List PS := [.mk (some 3) (.buildSlice 22 4 #[(0, (.const (.int .i64 14))), (1, (.const (.int .i64 15))), (2, (.const (.int .i64 16))), (3, (.const (.int .i64 17)))]) none,
  .mk (some 4) (.move (.tmp 0)) none,
  .mk (some 5) (.call ⟨(.value (.func 62)), #[(.tmp 3), (.tmp 4)], #[22, 3]⟩) none,
  .mk (some 2) (.assign (.tmp 5)) none]
def c41 : PC := (.seq (.reg false r41_0) (.seq (.reg false r41_1) .ret))
theorem e41 {args : List PV} {h : Heap} {K : PV → Heap → Prop} (hl : args.length = 1) (s : pwp Try.prog [] c41 (fin Try.prog [.tmp 2] h K) (slots0 (olds args)) h) : CanP Try.prog 41 args h K :=
  can_of2 (n := 6) mixed Try.func41 rfl (by kernel_rfl) (by rw [hl]; kernel_rfl) rfl (by kernel_rfl) s
/-! ### naskh.balance.isolates: function 42 -/
def r42_0 : List PS := [.mk (some 2) (.assign (.const (.bool false))) none]
def r42_1 : List PS := [.mk (some 3) (.buildSlice 22 3 #[(0, (.const (.int .i64 19))), (1, (.const (.int .i64 20))), (2, (.const (.int .i64 21)))]) none,
  .mk (some 4) (.move (.tmp 0)) none,
  .mk (some 5) (.call ⟨(.value (.func 62)), #[(.tmp 3), (.tmp 4)], #[22, 3]⟩) none,
  .mk (some 2) (.assign (.tmp 5)) none]
def c42 : PC := (.seq (.reg false r42_0) (.seq (.reg false r42_1) .ret))
theorem e42 {args : List PV} {h : Heap} {K : PV → Heap → Prop} (hl : args.length = 1) (s : pwp Try.prog [] c42 (fin Try.prog [.tmp 2] h K) (slots0 (olds args)) h) : CanP Try.prog 42 args h K :=
  can_of2 (n := 6) mixed Try.func42 rfl (by kernel_rfl) (by rw [hl]; kernel_rfl) rfl (by kernel_rfl) s
/-! ### (*naskh.balance.walk).last: function 63 -/
def r63_0 : List PS := [.mk (some 2) (.assign (.const (.int .i64 0))) none,
  .mk (some 3) (.assign (.const (.bool false))) none]
def r63_1 : List PS := [.mk (some 4) (.move (.tmp 0)) none,
  .mk (some 5) (.nilCheck (.tmp 4)) none,
  .mk (some 6) (.fieldAddr 39 (.tmp 5) 1) none,
  .mk (some 7) (.load 22 (.tmp 6)) none,
  .mk (some 8) (.call ⟨(.builtin .len), #[(.tmp 7)], #[22]⟩) none,
  .mk (some 9) (.binOp .eql 3 (.tmp 8) (.const (.int .i64 0)) 3) none]
def r63_2 : List PS := [.mk (some 2) (.assign (.const (.int .i64 0))) none,
  .mk (some 3) (.assign (.const (.bool false))) none]
def r63_3 : List PS := [.mk (some 10) (.move (.tmp 0)) none,
  .mk (some 11) (.nilCheck (.tmp 10)) none,
  .mk (some 12) (.fieldAddr 39 (.tmp 11) 1) none,
  .mk (some 13) (.load 22 (.tmp 12)) none,
  .mk (some 14) (.move (.tmp 0)) none,
  .mk (some 15) (.nilCheck (.tmp 14)) none,
  .mk (some 16) (.fieldAddr 39 (.tmp 15) 1) none,
  .mk (some 17) (.load 22 (.tmp 16)) none,
  .mk (some 18) (.call ⟨(.builtin .len), #[(.tmp 17)], #[22]⟩) none,
  .mk (some 19) (.binOp .sub 3 (.tmp 18) (.const (.int .i64 1)) 3) none,
  .mk (some 20) (.indexAddr 22 (.tmp 13) (.tmp 19)) none,
  .mk (some 21) (.load 3 (.tmp 20)) none,
  .mk (some 2) (.assign (.tmp 21)) none,
  .mk (some 3) (.assign (.const (.bool true))) none]
def c63 : PC := (.seq (.reg false r63_0) (.seq (.seq (.reg false r63_1) (.cond (.tmp 9) (.seq (.reg false r63_2) .ret) .skip)) (.seq (.reg true r63_3) .ret)))
theorem e63 {args : List PV} {h : Heap} {K : PV → Heap → Prop} (hl : args.length = 1) (s : pwp Try.prog [] c63 (fin Try.prog [.tmp 2, .tmp 3] h K) (slots0 (olds args)) h) : CanP Try.prog 63 args h K :=
  can_of2 (n := 22) mixed Try.func63 rfl (by kernel_rfl) (by rw [hl]; kernel_rfl) rfl (by kernel_rfl) s
/-! ### (*naskh.balance.walk).pop: function 64 -/
def r64_0 : List PS := [.mk (some 2) (.move (.tmp 0)) none,
  .mk (some 3) (.move (.tmp 0)) none,
  .mk (some 4) (.nilCheck (.tmp 3)) none,
  .mk (some 5) (.fieldAddr 39 (.tmp 4) 1) none,
  .mk (some 6) (.load 22 (.tmp 5)) none,
  .mk (some 7) (.move (.tmp 0)) none,
  .mk (some 8) (.nilCheck (.tmp 7)) none,
  .mk (some 9) (.fieldAddr 39 (.tmp 8) 1) none,
  .mk (some 10) (.load 22 (.tmp 9)) none,
  .mk (some 11) (.call ⟨(.builtin .len), #[(.tmp 10)], #[22]⟩) none,
  .mk (some 12) (.binOp .sub 3 (.tmp 11) (.const (.int .i64 1)) 3) none,
  .mk (some 13) (.slice 22 (.tmp 6) none (some (.tmp 12)) none) none,
  .mk (some 14) (.nilCheck (.tmp 2)) none,
  .mk (some 15) (.fieldAddr 39 (.tmp 14) 1) none,
  .mk none (.store 22 (.tmp 15) (.tmp 13)) none]
def c64 : PC := (.reg true r64_0)
theorem e64 {args : List PV} {h : Heap} {K : PV → Heap → Prop} (hl : args.length = 1) (s : pwp Try.prog [] c64 (fin Try.prog [] h K) (slots0 (olds args)) h) : CanP Try.prog 64 args h K :=
  can_of2 (n := 16) mixed Try.func64 rfl (by kernel_rfl) (by rw [hl]; kernel_rfl) rfl (by kernel_rfl) s
/-! ### (*naskh.balance.walk).endEmbed: function 43 -/
def r43_0 : List PS := [.mk (some 7) (.move (.tmp 0)) none,
  .mk (some 8) (.call ⟨(.value (.func 63)), #[(.tmp 7)], #[35]⟩) none,
  .mk (some 6) (.move (.tmp 8)) none,
  .mk (some 9) (.extract (.tmp 6) 0) none,
  .mk (some 10) (.extract (.tmp 6) 1) none,
  .mk (some 4) (.assign (.tmp 9)) none,
  .mk (some 5) (.assign (.tmp 10)) none]
def r43_1 : List PS := [.mk (some 11) (.move (.tmp 5)) none,
  .mk (some 12) (.move (.tmp 11)) none,
  .mk (some 13) (.move (.tmp 0)) (some (12, true)),
  .mk (some 14) (.nilCheck (.tmp 13)) (some (12, true)),
  .mk (some 15) (.fieldAddr 39 (.tmp 14) 0) (some (12, true)),
  .mk (some 16) (.load 22 (.tmp 15)) (some (12, true)),
  .mk (some 17) (.move (.tmp 4)) (some (12, true)),
  .mk (some 18) (.indexAddr 22 (.tmp 16) (.tmp 17)) (some (12, true)),
  .mk (some 19) (.load 3 (.tmp 18)) (some (12, true)),
  .mk (some 20) (.call ⟨(.value (.func 41)), #[(.tmp 19)], #[3]⟩) (some (12, true)),
  .mk (some 21) (.pick (.tmp 12) (.tmp 20) (.const (.bool false))) none]
def r43_2 : List PS := [.mk (some 22) (.move (.tmp 0)) none,
  .mk (some 23) (.call ⟨(.value (.func 64)), #[(.tmp 22)], #[35]⟩) none]
def r43_3 : List PS := [.mk (some 24) (.move (.tmp 0)) none,
  .mk (some 25) (.move (.tmp 0)) none,
  .mk (some 26) (.nilCheck (.tmp 25)) none,
  .mk (some 27) (.fieldAddr 39 (.tmp 26) 3) none,
  .mk (some 28) (.load 22 (.tmp 27)) none,
  .mk (some 29) (.move (.tmp 1)) none,
  .mk (some 30) (.buildSlice 22 1 #[(0, (.tmp 29))]) none,
  .mk (some 31) (.call ⟨(.builtin .append), #[(.tmp 28), (.tmp 30)], #[22, 22]⟩) none,
  .mk (some 32) (.nilCheck (.tmp 24)) none,
  .mk (some 33) (.fieldAddr 39 (.tmp 32) 3) none,
  .mk none (.store 22 (.tmp 33) (.tmp 31)) none]
def c43 : PC := (.seq (.seq (.reg false r43_0) (.seq (.reg false r43_1) (.cond (.tmp 21) (.seq (.reg false r43_2) .ret) .skip))) (.reg false r43_3))
theorem e43 {args : List PV} {h : Heap} {K : PV → Heap → Prop} (hl : args.length = 2) (s : pwp Try.prog [] c43 (fin Try.prog [] h K) (slots0 (olds args)) h) : CanP Try.prog 43 args h K :=
  can_of2 (n := 34) mixed Try.func43 rfl (by kernel_rfl) (by rw [hl]; kernel_rfl) rfl (by kernel_rfl) s
/-! ### slices.IndexFunc[[]int,int]: function 84 -/
def r84_0 : List PS := [.mk (some 4) (.assign (.const (.int .i64 0))) none]
def r84_1 : List PS := [.mk (some 6) (.move (.tmp 0)) none,
  .mk (some 7) (.call ⟨(.builtin .len), #[(.tmp 6)], #[22]⟩) none,
  .mk (some 8) (.move (.const (.int .i64 0))) none]
def r84_2 : List PS := [.mk (some 9) (.binOp .lss 3 (.tmp 8) (.tmp 7) 3) none]
def r84_3 : List PS := [.mk (some 10) (.move (.tmp 8)) none,
  .mk (some 5) (.assign (.tmp 10)) none]
def r84_4 : List PS := [.mk (some 11) (.move (.tmp 1)) none,
  .mk (some 12) (.move (.tmp 0)) none,
  .mk (some 13) (.move (.tmp 5)) none,
  .mk (some 14) (.indexAddr 22 (.tmp 12) (.tmp 13)) none,
  .mk (some 15) (.load 3 (.tmp 14)) none,
  .mk (some 16) (.call ⟨(.value (.tmp 11)), #[(.tmp 15)], #[3]⟩) none]
def r84_5 : List PS := [.mk (some 17) (.move (.tmp 5)) none,
  .mk (some 4) (.assign (.tmp 17)) none]
def r84_6 : List PS := [.mk (some 18) (.binOp .add 3 (.tmp 8) (.const (.int .i64 1)) 3) none,
  .mk (some 8) (.move (.tmp 18)) none]
def r84_7 : List PS := [.mk (some 4) (.assign (.const (.int .i64 (-1)))) none]
def c84 : PC := (.seq (.reg false r84_0) (.seq (.seq (.reg false r84_1) (.block 0 (.loop (.seq (.reg false r84_2) (.seq (.cond (.tmp 9) .skip (.exit 0)) (.seq (.block 1 (.seq (.reg false r84_3) (.seq (.reg false r84_4) (.cond (.tmp 16) (.seq (.reg false r84_5) .ret) .skip)))) (.reg false r84_6))))))) (.seq (.reg false r84_7) .ret)))
theorem e84 {args : List PV} {h : Heap} {K : PV → Heap → Prop} (hl : args.length = 2) (s : pwp Try.prog [] c84 (fin Try.prog [.tmp 4] h K) (slots0 (olds args)) h) : CanP Try.prog 84 args h K :=
  can_of2 (n := 19) mixed Try.func84 rfl (by kernel_rfl) (by rw [hl]; kernel_rfl) rfl (by kernel_rfl) s
/-! ### slices.ContainsFunc[[]int,int]: function 65 -/
def r65_0 : List PS := [.mk (some 4) (.assign (.const (.bool false))) none]
def r65_1 : List PS := [.mk (some 5) (.move (.tmp 0)) none,
  .mk (some 6) (.move (.tmp 1)) none,
  .mk (some 7) (.call ⟨(.value (.func 84)), #[(.tmp 5), (.tmp 6)], #[22, 44]⟩) none,
  .mk (some 8) (.binOp .geq 3 (.tmp 7) (.const (.int .i64 0)) 3) none,
  .mk (some 4) (.assign (.tmp 8)) none]
def c65 : PC := (.seq (.reg false r65_0) (.seq (.reg false r65_1) .ret))
theorem e65 {args : List PV} {h : Heap} {K : PV → Heap → Prop} (hl : args.length = 2) (s : pwp Try.prog [] c65 (fin Try.prog [.tmp 4] h K) (slots0 (olds args)) h) : CanP Try.prog 65 args h K :=
  can_of2 (n := 9) mixed Try.func65 rfl (by kernel_rfl) (by rw [hl]; kernel_rfl) rfl (by kernel_rfl) s
/-! ### (*naskh.balance.walk).endIsolate$1: function 66 -/
def r66_0 : List PS := [.mk (some 3) (.assign (.const (.bool false))) none]
def r66_1 : List PS := [.mk (some 4) (.load 35 (.tmp 1)) none,
  .mk (some 5) (.nilCheck (.tmp 4)) none,
  .mk (some 6) (.fieldAddr 39 (.tmp 5) 0) none,
  .mk (some 7) (.load 22 (.tmp 6)) none,
  .mk (some 8) (.move (.tmp 0)) none,
  .mk (some 9) (.indexAddr 22 (.tmp 7) (.tmp 8)) none,
  .mk (some 10) (.load 3 (.tmp 9)) none,
  .mk (some 11) (.call ⟨(.value (.func 42)), #[(.tmp 10)], #[3]⟩) none,
  .mk (some 3) (.assign (.tmp 11)) none]
def c66 : PC := (.seq (.reg false r66_0) (.seq (.reg false r66_1) .ret))
theorem e66 {args : List PV} {h : Heap} {K : PV → Heap → Prop} (hl : args.length = 2) (s : pwp Try.prog [] c66 (fin Try.prog [.tmp 3] h K) (slots0 (olds args)) h) : CanP Try.prog 66 args h K :=
  can_of2 (n := 12) mixed Try.func66 rfl (by kernel_rfl) (by rw [hl]; kernel_rfl) rfl (by kernel_rfl) s
/-! ### (*naskh.balance.walk).endIsolate: function 44 -/
def r44_0 : List PS := [.mk (some 2) (.box 35 (.tmp 0)) none]
def r44_1 : List PS := [.mk (some 7) (.load 35 (.tmp 2)) none,
  .mk (some 8) (.nilCheck (.tmp 7)) none,
  .mk (some 9) (.fieldAddr 39 (.tmp 8) 1) none,
  .mk (some 10) (.load 22 (.tmp 9)) none,
  .mk (some 11) (.makeFunc (.func 66) #[] #[(.tmp 2)]) none,
  .mk (some 12) (.call ⟨(.value (.func 65)), #[(.tmp 10), (.tmp 11)], #[22, 44]⟩) none,
  .mk (some 4) (.assign (.tmp 12)) none]
def r44_2 : List PS := [.mk (some 13) (.move (.tmp 4)) none,
  .mk (some 14) (.unOp .not 4 (.tmp 13)) none]
def r44_3 : List PS := [.mk (some 15) (.load 35 (.tmp 2)) none,
  .mk (some 16) (.load 35 (.tmp 2)) none,
  .mk (some 17) (.nilCheck (.tmp 16)) none,
  .mk (some 18) (.fieldAddr 39 (.tmp 17) 3) none,
  .mk (some 19) (.load 22 (.tmp 18)) none,
  .mk (some 20) (.move (.tmp 1)) none,
  .mk (some 21) (.buildSlice 22 1 #[(0, (.tmp 20))]) none,
  .mk (some 22) (.call ⟨(.builtin .append), #[(.tmp 19), (.tmp 21)], #[22, 22]⟩) none,
  .mk (some 23) (.nilCheck (.tmp 15)) none,
  .mk (some 24) (.fieldAddr 39 (.tmp 23) 3) none,
  .mk none (.store 22 (.tmp 24) (.tmp 22)) none]
def r44_4 : List PS := [.mk (some 26) (.load 35 (.tmp 2)) none,
  .mk (some 27) (.call ⟨(.value (.func 63)), #[(.tmp 26)], #[35]⟩) none,
  .mk (some 25) (.move (.tmp 27)) none,
  .mk (some 28) (.extract (.tmp 25) 0) none,
  .mk (some 29) (.extract (.tmp 25) 1) none,
  .mk (some 5) (.assign (.tmp 28)) none,
  .mk (some 6) (.assign (.tmp 29)) none]
def r44_5 : List PS := [.mk (some 30) (.load 35 (.tmp 2)) none,
  .mk (some 31) (.call ⟨(.value (.func 64)), #[(.tmp 30)], #[35]⟩) none]
def r44_6 : List PS := [.mk (some 32) (.load 35 (.tmp 2)) none,
  .mk (some 33) (.nilCheck (.tmp 32)) none,
  .mk (some 34) (.fieldAddr 39 (.tmp 33) 0) none,
  .mk (some 35) (.load 22 (.tmp 34)) none,
  .mk (some 36) (.move (.tmp 5)) none,
  .mk (some 37) (.indexAddr 22 (.tmp 35) (.tmp 36)) none,
  .mk (some 38) (.load 3 (.tmp 37)) none,
  .mk (some 39) (.call ⟨(.value (.func 42)), #[(.tmp 38)], #[3]⟩) none]
def r44_7 : List PS := [.mk (some 40) (.load 35 (.tmp 2)) none,
  .mk (some 41) (.load 35 (.tmp 2)) none,
  .mk (some 42) (.nilCheck (.tmp 41)) none,
  .mk (some 43) (.fieldAddr 39 (.tmp 42) 2) none,
  .mk (some 44) (.load 22 (.tmp 43)) none,
  .mk (some 45) (.move (.tmp 5)) none,
  .mk (some 46) (.buildSlice 22 1 #[(0, (.tmp 45))]) none,
  .mk (some 47) (.call ⟨(.builtin .append), #[(.tmp 44), (.tmp 46)], #[22, 22]⟩) none,
  .mk (some 48) (.nilCheck (.tmp 40)) none,
  .mk (some 49) (.fieldAddr 39 (.tmp 48) 2) none,
  .mk none (.store 22 (.tmp 49) (.tmp 47)) none]
def c44 : PC := (.seq (.reg false r44_0) (.seq (.reg false r44_1) (.seq (.seq (.reg false r44_2) (.cond (.tmp 14) (.seq (.reg true r44_3) .ret) .skip)) (.block 0 (.loop (.block 1 (.seq (.reg false r44_4) (.seq (.reg false r44_5) (.seq (.seq (.reg false r44_6) (.cond (.tmp 39) .ret .skip)) (.reg true r44_7))))))))))
theorem e44 {args : List PV} {h : Heap} {K : PV → Heap → Prop} (hl : args.length = 2) (s : pwp Try.prog [15, 40] c44 (fin Try.prog [] h K) (slots0 (olds args)) h) : CanP Try.prog 44 args h K :=
  can_of2 (n := 50) mixed Try.func44 rfl (by kernel_rfl) (by rw [hl]; kernel_rfl) rfl (by kernel_rfl) s
/-! ### naskh.balance.walked: function 22 -/
def r22_0 : List PS := [.mk (some 2) (.assign (.const (.pointer none))) none]
def r22_1 : List PS := [.mk (some 6) (.move (.tmp 0)) none,
  .mk (some 7) (.build 39 #[(0, (.tmp 6))]) none,
  .mk (some 8) (.box 39 (.tmp 7)) none,
  .mk (some 3) (.assign (.tmp 8)) none]
def r22_2 : List PS := [.mk (some 9) (.move (.tmp 0)) none,
  .mk (some 10) (.call ⟨(.builtin .len), #[(.tmp 9)], #[22]⟩) none,
  .mk (some 11) (.move (.const (.int .i64 0))) none]
def r22_3 : List PS := [.mk (some 12) (.binOp .lss 3 (.tmp 11) (.tmp 10) 3) none]
def r22_4 : List PS := [.mk (some 13) (.move (.tmp 11)) none,
  .mk (some 14) (.indexAddr 22 (.tmp 9) (.tmp 11)) none,
  .mk (some 15) (.load 3 (.tmp 14)) none,
  .mk (some 4) (.assign (.tmp 13)) none,
  .mk (some 5) (.assign (.tmp 15)) none]
def r22_5 : List PS := [.mk (some 17) (.move (.tmp 5)) none,
  .mk (some 18) (.call ⟨(.value (.func 41)), #[(.tmp 17)], #[3]⟩) none,
  .mk (some 16) (.assign (.tmp 18)) none]
def r22_6 : List PS := [.mk (some 19) (.move (.tmp 5)) none,
  .mk (some 20) (.call ⟨(.value (.func 42)), #[(.tmp 19)], #[3]⟩) none,
  .mk (some 16) (.assign (.tmp 20)) none]
def r22_7 : List PS := [.mk (some 21) (.move (.tmp 3)) none,
  .mk (some 22) (.move (.tmp 3)) none,
  .mk (some 23) (.nilCheck (.tmp 22)) none,
  .mk (some 24) (.fieldAddr 39 (.tmp 23) 1) none,
  .mk (some 25) (.load 22 (.tmp 24)) none,
  .mk (some 26) (.move (.tmp 4)) none,
  .mk (some 27) (.buildSlice 22 1 #[(0, (.tmp 26))]) none,
  .mk (some 28) (.call ⟨(.builtin .append), #[(.tmp 25), (.tmp 27)], #[22, 22]⟩) none,
  .mk (some 29) (.nilCheck (.tmp 21)) none,
  .mk (some 30) (.fieldAddr 39 (.tmp 29) 1) none,
  .mk none (.store 22 (.tmp 30) (.tmp 28)) none]
def r22_8 : List PS := [.mk (some 32) (.move (.tmp 5)) none,
  .mk (some 33) (.binOp .eql 3 (.tmp 32) (.const (.int .i64 18)) 3) none,
  .mk (some 31) (.assign (.tmp 33)) none]
def r22_9 : List PS := [.mk (some 34) (.move (.tmp 3)) none,
  .mk (some 35) (.move (.tmp 4)) none,
  .mk (some 36) (.call ⟨(.value (.func 43)), #[(.tmp 34), (.tmp 35)], #[35, 3]⟩) none]
def r22_10 : List PS := [.mk (some 38) (.move (.tmp 5)) none,
  .mk (some 39) (.binOp .eql 3 (.tmp 38) (.const (.int .i64 22)) 3) none,
  .mk (some 37) (.assign (.tmp 39)) none]
def r22_11 : List PS := [.mk (some 40) (.move (.tmp 3)) none,
  .mk (some 41) (.move (.tmp 4)) none,
  .mk (some 42) (.call ⟨(.value (.func 44)), #[(.tmp 40), (.tmp 41)], #[35, 3]⟩) none]
def r22_12 : List PS := [.mk (some 43) (.binOp .add 3 (.tmp 11) (.const (.int .i64 1)) 3) none,
  .mk (some 11) (.move (.tmp 43)) none]
def r22_13 : List PS := [.mk (some 44) (.move (.tmp 3)) none,
  .mk (some 2) (.assign (.tmp 44)) none]
def c22 : PC := (.seq (.reg false r22_0) (.seq (.reg false r22_1) (.seq (.seq (.reg false r22_2) (.block 0 (.loop (.seq (.reg false r22_3) (.seq (.cond (.tmp 12) .skip (.exit 0)) (.seq (.block 1 (.seq (.reg false r22_4) (.block 2 (.seq (.seq (.reg false r22_5) (.cond (.tmp 16) .skip (.reg false r22_6))) (.cond (.tmp 16) (.reg false r22_7) (.seq (.reg false r22_8) (.cond (.tmp 31) (.reg false r22_9) (.seq (.reg false r22_10) (.cond (.tmp 37) (.reg false r22_11) .skip))))))))) (.reg false r22_12))))))) (.seq (.reg false r22_13) .ret))))
theorem e22 {args : List PV} {h : Heap} {K : PV → Heap → Prop} (hl : args.length = 1) (s : pwp Try.prog [8] c22 (fin Try.prog [.tmp 2] h K) (slots0 (olds args)) h) : CanP Try.prog 22 args h K :=
  can_of2 (n := 45) mixed Try.func22 rfl (by kernel_rfl) (by rw [hl]; kernel_rfl) rfl (by kernel_rfl) s
/-! ### slices.Grow[[]int,int]: function 45 -/
def r45_0 : List PS := [.mk (some 4) (.assign (.const (.slice none 0 0))) none]
def r45_1 : List PS := [.mk (some 5) (.move (.tmp 1)) none,
  .mk (some 6) (.binOp .lss 3 (.tmp 5) (.const (.int .i64 0)) 3) none]
def r45_2 : List PS := [.mk (some 7) (.makeInterface 9 (.const (.string ⟨#[99, 97, 110, 110, 111, 116, 32, 98, 101, 32, 110, 101, 103, 97, 116, 105, 118, 101]⟩))) none,
  .mk none (.panic (.tmp 7)) none]
def r45_3 : List PS := [.mk (some 8) (.move (.tmp 1)) none,
  .mk (some 9) (.move (.tmp 0)) none,
  .mk (some 10) (.call ⟨(.builtin .cap), #[(.tmp 9)], #[22]⟩) none,
  .mk (some 11) (.move (.tmp 0)) none,
  .mk (some 12) (.call ⟨(.builtin .len), #[(.tmp 11)], #[22]⟩) none,
  .mk (some 13) (.binOp .sub 3 (.tmp 10) (.tmp 12) 3) none,
  .mk (some 14) (.binOp .sub 3 (.tmp 8) (.tmp 13) 3) none,
  .mk (some 1) (.assign (.tmp 14)) none]
def r45_4 : List PS := [.mk (some 15) (.move (.tmp 1)) none,
  .mk (some 16) (.binOp .gtr 3 (.tmp 15) (.const (.int .i64 0)) 3) none]
def r45_5 : List PS := [.mk (some 17) (.move (.tmp 0)) none,
  .mk (some 18) (.move (.tmp 0)) none,
  .mk (some 19) (.call ⟨(.builtin .cap), #[(.tmp 18)], #[22]⟩) none,
  .mk (some 20) (.slice 22 (.tmp 17) none (some (.tmp 19)) none) none,
  .mk (some 21) (.move (.tmp 1)) none,
  .mk (some 22) (.call ⟨(.builtin .append), #[(.tmp 20), (.tmp 21)], #[22, 3]⟩) none,
  .mk (some 23) (.move (.tmp 0)) none,
  .mk (some 24) (.call ⟨(.builtin .len), #[(.tmp 23)], #[22]⟩) none,
  .mk (some 25) (.slice 22 (.tmp 22) none (some (.tmp 24)) none) none,
  .mk (some 0) (.assign (.tmp 25)) none]
def r45_6 : List PS := [.mk (some 26) (.move (.tmp 0)) none,
  .mk (some 4) (.assign (.tmp 26)) none]
def c45 : PC := (.seq (.reg false r45_0) (.seq (.seq (.reg false r45_1) (.cond (.tmp 6) (.reg false r45_2) .skip)) (.seq (.seq (.reg false r45_3) (.seq (.reg false r45_4) (.cond (.tmp 16) (.reg false r45_5) .skip))) (.seq (.reg false r45_6) .ret))))
theorem e45 {args : List PV} {h : Heap} {K : PV → Heap → Prop} (hl : args.length = 2) (s : pwp Try.prog [] c45 (fin Try.prog [.tmp 4] h K) (slots0 (olds args)) h) : CanP Try.prog 45 args h K :=
  can_of2 (n := 27) mixed Try.func45 rfl (by kernel_rfl) (by rw [hl]; kernel_rfl) rfl (by kernel_rfl) s
/-! ### slices.Concat[[]int,int]: function 23 -/
def r23_0 : List PS := [.mk (some 2) (.assign (.const (.slice none 0 0))) none]
def r23_1 : List PS := [.mk (some 3) (.assign (.const (.int .i64 0))) none]
def r23_2 : List PS := [.mk (some 9) (.move (.tmp 0)) none,
  .mk (some 10) (.call ⟨(.builtin .len), #[(.tmp 9)], #[63]⟩) none,
  .mk (some 11) (.move (.const (.int .i64 0))) none]
def r23_3 : List PS := [.mk (some 12) (.binOp .lss 3 (.tmp 11) (.tmp 10) 3) none]
def r23_4 : List PS := [.mk (some 13) (.indexAddr 63 (.tmp 9) (.tmp 11)) none,
  .mk (some 14) (.load 22 (.tmp 13)) none,
  .mk (some 5) (.assign (.tmp 14)) none]
def r23_5 : List PS := [.mk (some 15) (.move (.tmp 3)) none,
  .mk (some 16) (.move (.tmp 5)) none,
  .mk (some 17) (.call ⟨(.builtin .len), #[(.tmp 16)], #[22]⟩) none,
  .mk (some 18) (.binOp .add 3 (.tmp 15) (.tmp 17) 3) none,
  .mk (some 3) (.assign (.tmp 18)) none]
def r23_6 : List PS := [.mk (some 19) (.move (.tmp 3)) none,
  .mk (some 20) (.binOp .lss 3 (.tmp 19) (.const (.int .i64 0)) 3) none]
def r23_7 : List PS := [.mk (some 21) (.makeInterface 9 (.const (.string ⟨#[108, 101, 110, 32, 111, 117, 116, 32, 111, 102, 32, 114, 97, 110, 103, 101]⟩))) none,
  .mk none (.panic (.tmp 21)) none]
def r23_8 : List PS := [.mk (some 22) (.binOp .add 3 (.tmp 11) (.const (.int .i64 1)) 3) none,
  .mk (some 11) (.move (.tmp 22)) none]
def r23_9 : List PS := [.mk (some 23) (.move (.tmp 3)) none,
  .mk (some 24) (.call ⟨(.value (.func 45)), #[(.const (.slice none 0 0)), (.tmp 23)], #[22, 3]⟩) none,
  .mk (some 6) (.assign (.tmp 24)) none]
def r23_10 : List PS := [.mk (some 25) (.move (.tmp 0)) none,
  .mk (some 26) (.call ⟨(.builtin .len), #[(.tmp 25)], #[63]⟩) none,
  .mk (some 27) (.move (.const (.int .i64 0))) none]
def r23_11 : List PS := [.mk (some 28) (.binOp .lss 3 (.tmp 27) (.tmp 26) 3) none]
def r23_12 : List PS := [.mk (some 29) (.indexAddr 63 (.tmp 25) (.tmp 27)) none,
  .mk (some 30) (.load 22 (.tmp 29)) none,
  .mk (some 8) (.assign (.tmp 30)) none]
def r23_13 : List PS := [.mk (some 31) (.move (.tmp 6)) none,
  .mk (some 32) (.move (.tmp 8)) none,
  .mk (some 33) (.call ⟨(.builtin .append), #[(.tmp 31), (.tmp 32)], #[22, 22]⟩) none,
  .mk (some 6) (.assign (.tmp 33)) none]
def r23_14 : List PS := [.mk (some 34) (.binOp .add 3 (.tmp 27) (.const (.int .i64 1)) 3) none,
  .mk (some 27) (.move (.tmp 34)) none]
def r23_15 : List PS := [.mk (some 35) (.move (.tmp 6)) none,
  .mk (some 2) (.assign (.tmp 35)) none]
def c23 : PC := (.seq (.reg false r23_0) (.seq (.reg false r23_1) (.seq (.seq (.reg false r23_2) (.block 0 (.loop (.seq (.reg false r23_3) (.seq (.cond (.tmp 12) .skip (.exit 0)) (.seq (.block 1 (.seq (.reg false r23_4) (.seq (.reg false r23_5) (.seq (.reg false r23_6) (.cond (.tmp 20) (.reg false r23_7) .skip))))) (.reg false r23_8))))))) (.seq (.reg false r23_9) (.seq (.seq (.reg false r23_10) (.block 2 (.loop (.seq (.reg false r23_11) (.seq (.cond (.tmp 28) .skip (.exit 2)) (.seq (.block 3 (.seq (.reg false r23_12) (.reg false r23_13))) (.reg false r23_14))))))) (.seq (.reg false r23_15) .ret))))))
theorem e23 {args : List PV} {h : Heap} {K : PV → Heap → Prop} (hl : args.length = 1) (s : pwp Try.prog [] c23 (fin Try.prog [.tmp 2] h K) (slots0 (olds args)) h) : CanP Try.prog 23 args h K :=
  can_of2 (n := 36) mixed Try.func23 rfl (by kernel_rfl) (by rw [hl]; kernel_rfl) rfl (by kernel_rfl) s
/-! ### cmp.isNaN[int]: function 90 -/
def r90_0 : List PS := [.mk (some 2) (.assign (.const (.bool false))) none]
def r90_1 : List PS := [.mk (some 3) (.move (.tmp 0)) none,
  .mk (some 4) (.move (.tmp 0)) none,
  .mk (some 5) (.binOp .neq 3 (.tmp 3) (.tmp 4) 3) none,
  .mk (some 2) (.assign (.tmp 5)) none]
def c90 : PC := (.seq (.reg false r90_0) (.seq (.reg false r90_1) .ret))
theorem e90 {args : List PV} {h : Heap} {K : PV → Heap → Prop} (hl : args.length = 1) (s : pwp Try.prog [] c90 (fin Try.prog [.tmp 2] h K) (slots0 (olds args)) h) : CanP Try.prog 90 args h K :=
  can_of2 (n := 6) mixed Try.func90 rfl (by kernel_rfl) (by rw [hl]; kernel_rfl) rfl (by kernel_rfl) s
/-! ### cmp.Less[int]: function 73 -/
def r73_0 : List PS := [.mk (some 4) (.assign (.const (.bool false))) none]
def r73_1 : List PS := [.mk (some 5) (.move (.tmp 0)) none,
  .mk (some 6) (.call ⟨(.value (.func 90)), #[(.tmp 5)], #[3]⟩) none,
  .mk (some 7) (.move (.tmp 6)) none,
  .mk (some 8) (.move (.tmp 1)) (some (7, true)),
  .mk (some 9) (.call ⟨(.value (.func 90)), #[(.tmp 8)], #[3]⟩) (some (7, true)),
  .mk (some 10) (.unOp .not 4 (.tmp 9)) (some (7, true)),
  .mk (some 11) (.pick (.tmp 7) (.tmp 10) (.const (.bool false))) none,
  .mk (some 12) (.move (.tmp 11)) none,
  .mk (some 13) (.move (.tmp 0)) (some (12, false)),
  .mk (some 14) (.move (.tmp 1)) (some (12, false)),
  .mk (some 15) (.binOp .lss 3 (.tmp 13) (.tmp 14) 3) (some (12, false)),
  .mk (some 16) (.pick (.tmp 12) (.const (.bool true)) (.tmp 15)) none,
  .mk (some 4) (.assign (.tmp 16)) none]
def c73 : PC := (.seq (.reg false r73_0) (.seq (.reg false r73_1) .ret))
theorem e73 {args : List PV} {h : Heap} {K : PV → Heap → Prop} (hl : args.length = 2) (s : pwp Try.prog [] c73 (fin Try.prog [.tmp 4] h K) (slots0 (olds args)) h) : CanP Try.prog 73 args h K :=
  can_of2 (n := 17) mixed Try.func73 rfl (by kernel_rfl) (by rw [hl]; kernel_rfl) rfl (by kernel_rfl) s
/-! ### slices.insertionSortOrdered[int]: function 67 -/
def r67_0 : List PS := [.mk (some 8) (.move (.tmp 1)) none,
  .mk (some 9) (.binOp .add 3 (.tmp 8) (.const (.int .i64 1)) 3) none,
  .mk (some 6) (.assign (.tmp 9)) none]
def r67_1 : List PS := [.mk (some 10) (.move (.tmp 6)) none,
  .mk (some 11) (.move (.tmp 2)) none,
  .mk (some 12) (.binOp .lss 3 (.tmp 10) (.tmp 11) 3) none]
def r67_2 : List PS := [.mk (some 15) (.move (.tmp 6)) none,
  .mk (some 7) (.assign (.tmp 15)) none]
def r67_3 : List PS := [.mk (some 16) (.move (.tmp 7)) none,
  .mk (some 17) (.move (.tmp 1)) none,
  .mk (some 18) (.binOp .gtr 3 (.tmp 16) (.tmp 17) 3) none,
  .mk (some 19) (.move (.tmp 18)) none,
  .mk (some 20) (.move (.tmp 0)) (some (19, true)),
  .mk (some 21) (.move (.tmp 7)) (some (19, true)),
  .mk (some 22) (.indexAddr 22 (.tmp 20) (.tmp 21)) (some (19, true)),
  .mk (some 23) (.load 3 (.tmp 22)) (some (19, true)),
  .mk (some 24) (.move (.tmp 0)) (some (19, true)),
  .mk (some 25) (.move (.tmp 7)) (some (19, true)),
  .mk (some 26) (.binOp .sub 3 (.tmp 25) (.const (.int .i64 1)) 3) (some (19, true)),
  .mk (some 27) (.indexAddr 22 (.tmp 24) (.tmp 26)) (some (19, true)),
  .mk (some 28) (.load 3 (.tmp 27)) (some (19, true)),
  .mk (some 29) (.call ⟨(.value (.func 73)), #[(.tmp 23), (.tmp 28)], #[3, 3]⟩) (some (19, true)),
  .mk (some 30) (.pick (.tmp 19) (.tmp 29) (.const (.bool false))) none]
def r67_4 : List PS := [.mk (some 33) (.move (.tmp 0)) none,
  .mk (some 34) (.move (.tmp 7)) none,
  .mk (some 35) (.move (.tmp 0)) none,
  .mk (some 36) (.move (.tmp 7)) none,
  .mk (some 37) (.binOp .sub 3 (.tmp 36) (.const (.int .i64 1)) 3) none,
  .mk (some 38) (.move (.tmp 0)) none,
  .mk (some 39) (.move (.tmp 7)) none,
  .mk (some 40) (.binOp .sub 3 (.tmp 39) (.const (.int .i64 1)) 3) none,
  .mk (some 41) (.indexAddr 22 (.tmp 38) (.tmp 40)) none,
  .mk (some 42) (.load 3 (.tmp 41)) none,
  .mk (some 43) (.move (.tmp 0)) none,
  .mk (some 44) (.move (.tmp 7)) none,
  .mk (some 45) (.indexAddr 22 (.tmp 43) (.tmp 44)) none,
  .mk (some 46) (.load 3 (.tmp 45)) none,
  .mk (some 47) (.indexAddr 22 (.tmp 33) (.tmp 34)) none,
  .mk none (.store 3 (.tmp 47) (.tmp 42)) none,
  .mk (some 48) (.indexAddr 22 (.tmp 35) (.tmp 37)) none,
  .mk none (.store 3 (.tmp 48) (.tmp 46)) none]
def r67_5 : List PS := [.mk (some 31) (.move (.tmp 7)) none,
  .mk (some 32) (.binOp .sub 3 (.tmp 31) (.const (.int .i64 1)) 3) none,
  .mk (some 7) (.assign (.tmp 32)) none]
def r67_6 : List PS := [.mk (some 13) (.move (.tmp 6)) none,
  .mk (some 14) (.binOp .add 3 (.tmp 13) (.const (.int .i64 1)) 3) none,
  .mk (some 6) (.assign (.tmp 14)) none]
def c67 : PC := (.seq (.reg false r67_0) (.block 0 (.loop (.seq (.seq (.reg false r67_1) (.cond (.tmp 12) .skip (.exit 0))) (.seq (.block 1 (.seq (.reg false r67_2) (.block 2 (.loop (.seq (.seq (.reg true r67_3) (.cond (.tmp 30) .skip (.exit 2))) (.seq (.block 3 (.reg true r67_4)) (.reg false r67_5))))))) (.reg false r67_6))))))
theorem e67 {args : List PV} {h : Heap} {K : PV → Heap → Prop} (hl : args.length = 3) (s : pwp Try.prog [] c67 (fin Try.prog [] h K) (slots0 (olds args)) h) : CanP Try.prog 67 args h K :=
  can_of2 (n := 49) mixed Try.func67 rfl (by kernel_rfl) (by rw [hl]; kernel_rfl) rfl (by kernel_rfl) s
/-! ### slices.siftDownOrdered[int]: function 85 -/
def r85_0 : List PS := [.mk (some 10) (.move (.tmp 1)) none,
  .mk (some 8) (.assign (.tmp 10)) none]
def r85_1 : List PS := [.mk (some 11) (.move (.tmp 8)) none,
  .mk (some 12) (.binOp .mul 3 (.const (.int .i64 2)) (.tmp 11) 3) none,
  .mk (some 13) (.binOp .add 3 (.tmp 12) (.const (.int .i64 1)) 3) none,
  .mk (some 9) (.assign (.tmp 13)) none]
def r85_2 : List PS := [.mk (some 14) (.move (.tmp 9)) none,
  .mk (some 15) (.move (.tmp 2)) none,
  .mk (some 16) (.binOp .geq 3 (.tmp 14) (.tmp 15) 3) none]
def r85_3 : List PS := [.mk (some 17) (.move (.tmp 9)) none,
  .mk (some 18) (.binOp .add 3 (.tmp 17) (.const (.int .i64 1)) 3) none,
  .mk (some 19) (.move (.tmp 2)) none,
  .mk (some 20) (.binOp .lss 3 (.tmp 18) (.tmp 19) 3) none,
  .mk (some 21) (.move (.tmp 20)) none,
  .mk (some 22) (.move (.tmp 0)) (some (21, true)),
  .mk (some 23) (.move (.tmp 3)) (some (21, true)),
  .mk (some 24) (.move (.tmp 9)) (some (21, true)),
  .mk (some 25) (.binOp .add 3 (.tmp 23) (.tmp 24) 3) (some (21, true)),
  .mk (some 26) (.indexAddr 22 (.tmp 22) (.tmp 25)) (some (21, true)),
  .mk (some 27) (.load 3 (.tmp 26)) (some (21, true)),
  .mk (some 28) (.move (.tmp 0)) (some (21, true)),
  .mk (some 29) (.move (.tmp 3)) (some (21, true)),
  .mk (some 30) (.move (.tmp 9)) (some (21, true)),
  .mk (some 31) (.binOp .add 3 (.tmp 29) (.tmp 30) 3) (some (21, true)),
  .mk (some 32) (.binOp .add 3 (.tmp 31) (.const (.int .i64 1)) 3) (some (21, true)),
  .mk (some 33) (.indexAddr 22 (.tmp 28) (.tmp 32)) (some (21, true)),
  .mk (some 34) (.load 3 (.tmp 33)) (some (21, true)),
  .mk (some 35) (.call ⟨(.value (.func 73)), #[(.tmp 27), (.tmp 34)], #[3, 3]⟩) (some (21, true)),
  .mk (some 36) (.pick (.tmp 21) (.tmp 35) (.const (.bool false))) none]
def r85_4 : List PS := [.mk (some 37) (.move (.tmp 9)) none,
  .mk (some 38) (.binOp .add 3 (.tmp 37) (.const (.int .i64 1)) 3) none,
  .mk (some 9) (.assign (.tmp 38)) none]
def r85_5 : List PS := [.mk (some 39) (.move (.tmp 0)) none,
  .mk (some 40) (.move (.tmp 3)) none,
  .mk (some 41) (.move (.tmp 8)) none,
  .mk (some 42) (.binOp .add 3 (.tmp 40) (.tmp 41) 3) none,
  .mk (some 43) (.indexAddr 22 (.tmp 39) (.tmp 42)) none,
  .mk (some 44) (.load 3 (.tmp 43)) none,
  .mk (some 45) (.move (.tmp 0)) none,
  .mk (some 46) (.move (.tmp 3)) none,
  .mk (some 47) (.move (.tmp 9)) none,
  .mk (some 48) (.binOp .add 3 (.tmp 46) (.tmp 47) 3) none,
  .mk (some 49) (.indexAddr 22 (.tmp 45) (.tmp 48)) none,
  .mk (some 50) (.load 3 (.tmp 49)) none,
  .mk (some 51) (.call ⟨(.value (.func 73)), #[(.tmp 44), (.tmp 50)], #[3, 3]⟩) none,
  .mk (some 52) (.unOp .not 4 (.tmp 51)) none]
def r85_6 : List PS := [.mk (some 53) (.move (.tmp 0)) none,
  .mk (some 54) (.move (.tmp 3)) none,
  .mk (some 55) (.move (.tmp 8)) none,
  .mk (some 56) (.binOp .add 3 (.tmp 54) (.tmp 55) 3) none,
  .mk (some 57) (.move (.tmp 0)) none,
  .mk (some 58) (.move (.tmp 3)) none,
  .mk (some 59) (.move (.tmp 9)) none,
  .mk (some 60) (.binOp .add 3 (.tmp 58) (.tmp 59) 3) none,
  .mk (some 61) (.move (.tmp 0)) none,
  .mk (some 62) (.move (.tmp 3)) none,
  .mk (some 63) (.move (.tmp 9)) none,
  .mk (some 64) (.binOp .add 3 (.tmp 62) (.tmp 63) 3) none,
  .mk (some 65) (.indexAddr 22 (.tmp 61) (.tmp 64)) none,
  .mk (some 66) (.load 3 (.tmp 65)) none,
  .mk (some 67) (.move (.tmp 0)) none,
  .mk (some 68) (.move (.tmp 3)) none,
  .mk (some 69) (.move (.tmp 8)) none,
  .mk (some 70) (.binOp .add 3 (.tmp 68) (.tmp 69) 3) none,
  .mk (some 71) (.indexAddr 22 (.tmp 67) (.tmp 70)) none,
  .mk (some 72) (.load 3 (.tmp 71)) none,
  .mk (some 73) (.indexAddr 22 (.tmp 53) (.tmp 56)) none,
  .mk none (.store 3 (.tmp 73) (.tmp 66)) none,
  .mk (some 74) (.indexAddr 22 (.tmp 57) (.tmp 60)) none,
  .mk none (.store 3 (.tmp 74) (.tmp 72)) none]
def r85_7 : List PS := [.mk (some 75) (.move (.tmp 9)) none,
  .mk (some 8) (.assign (.tmp 75)) none]
def c85 : PC := (.seq (.reg false r85_0) (.block 0 (.loop (.block 1 (.seq (.reg false r85_1) (.seq (.seq (.reg false r85_2) (.cond (.tmp 16) (.exit 0) .skip)) (.seq (.seq (.reg true r85_3) (.cond (.tmp 36) (.reg false r85_4) .skip)) (.seq (.seq (.reg true r85_5) (.cond (.tmp 52) .ret .skip)) (.seq (.reg true r85_6) (.reg false r85_7))))))))))
theorem e85 {args : List PV} {h : Heap} {K : PV → Heap → Prop} (hl : args.length = 4) (s : pwp Try.prog [] c85 (fin Try.prog [] h K) (slots0 (olds args)) h) : CanP Try.prog 85 args h K :=
  can_of2 (n := 76) mixed Try.func85 rfl (by kernel_rfl) (by rw [hl]; kernel_rfl) rfl (by kernel_rfl) s
/-! ### slices.heapSortOrdered[int]: function 68 -/
def r68_0 : List PS := [.mk (some 11) (.move (.tmp 1)) none,
  .mk (some 6) (.assign (.tmp 11)) none]
def r68_1 : List PS := [.mk (some 7) (.assign (.const (.int .i64 0))) none]
def r68_2 : List PS := [.mk (some 12) (.move (.tmp 2)) none,
  .mk (some 13) (.move (.tmp 1)) none,
  .mk (some 14) (.binOp .sub 3 (.tmp 12) (.tmp 13) 3) none,
  .mk (some 8) (.assign (.tmp 14)) none]
def r68_3 : List PS := [.mk (some 15) (.move (.tmp 8)) none,
  .mk (some 16) (.binOp .sub 3 (.tmp 15) (.const (.int .i64 1)) 3) none,
  .mk (some 17) (.binOp .quo 3 (.tmp 16) (.const (.int .i64 2)) 3) none,
  .mk (some 9) (.assign (.tmp 17)) none]
def r68_4 : List PS := [.mk (some 18) (.move (.tmp 9)) none,
  .mk (some 19) (.binOp .geq 3 (.tmp 18) (.const (.int .i64 0)) 3) none]
def r68_5 : List PS := [.mk (some 22) (.move (.tmp 0)) none,
  .mk (some 23) (.move (.tmp 9)) none,
  .mk (some 24) (.move (.tmp 8)) none,
  .mk (some 25) (.move (.tmp 6)) none,
  .mk (some 26) (.call ⟨(.value (.func 85)), #[(.tmp 22), (.tmp 23), (.tmp 24), (.tmp 25)], #[22, 3, 3, 3]⟩) none]
def r68_6 : List PS := [.mk (some 20) (.move (.tmp 9)) none,
  .mk (some 21) (.binOp .sub 3 (.tmp 20) (.const (.int .i64 1)) 3) none,
  .mk (some 9) (.assign (.tmp 21)) none]
def r68_7 : List PS := [.mk (some 27) (.move (.tmp 8)) none,
  .mk (some 28) (.binOp .sub 3 (.tmp 27) (.const (.int .i64 1)) 3) none,
  .mk (some 10) (.assign (.tmp 28)) none]
def r68_8 : List PS := [.mk (some 29) (.move (.tmp 10)) none,
  .mk (some 30) (.binOp .geq 3 (.tmp 29) (.const (.int .i64 0)) 3) none]
def r68_9 : List PS := [.mk (some 33) (.move (.tmp 0)) none,
  .mk (some 34) (.move (.tmp 6)) none,
  .mk (some 35) (.move (.tmp 0)) none,
  .mk (some 36) (.move (.tmp 6)) none,
  .mk (some 37) (.move (.tmp 10)) none,
  .mk (some 38) (.binOp .add 3 (.tmp 36) (.tmp 37) 3) none,
  .mk (some 39) (.move (.tmp 0)) none,
  .mk (some 40) (.move (.tmp 6)) none,
  .mk (some 41) (.move (.tmp 10)) none,
  .mk (some 42) (.binOp .add 3 (.tmp 40) (.tmp 41) 3) none,
  .mk (some 43) (.indexAddr 22 (.tmp 39) (.tmp 42)) none,
  .mk (some 44) (.load 3 (.tmp 43)) none,
  .mk (some 45) (.move (.tmp 0)) none,
  .mk (some 46) (.move (.tmp 6)) none,
  .mk (some 47) (.indexAddr 22 (.tmp 45) (.tmp 46)) none,
  .mk (some 48) (.load 3 (.tmp 47)) none,
  .mk (some 49) (.indexAddr 22 (.tmp 33) (.tmp 34)) none,
  .mk none (.store 3 (.tmp 49) (.tmp 44)) none,
  .mk (some 50) (.indexAddr 22 (.tmp 35) (.tmp 38)) none,
  .mk none (.store 3 (.tmp 50) (.tmp 48)) none]
def r68_10 : List PS := [.mk (some 51) (.move (.tmp 0)) none,
  .mk (some 52) (.move (.tmp 7)) none,
  .mk (some 53) (.move (.tmp 10)) none,
  .mk (some 54) (.move (.tmp 6)) none,
  .mk (some 55) (.call ⟨(.value (.func 85)), #[(.tmp 51), (.tmp 52), (.tmp 53), (.tmp 54)], #[22, 3, 3, 3]⟩) none]
def r68_11 : List PS := [.mk (some 31) (.move (.tmp 10)) none,
  .mk (some 32) (.binOp .sub 3 (.tmp 31) (.const (.int .i64 1)) 3) none,
  .mk (some 10) (.assign (.tmp 32)) none]
def c68 : PC := (.seq (.reg false r68_0) (.seq (.reg false r68_1) (.seq (.reg false r68_2) (.seq (.seq (.reg false r68_3) (.block 0 (.loop (.seq (.seq (.reg false r68_4) (.cond (.tmp 19) .skip (.exit 0))) (.seq (.block 1 (.reg false r68_5)) (.reg false r68_6)))))) (.seq (.reg false r68_7) (.block 2 (.loop (.seq (.seq (.reg false r68_8) (.cond (.tmp 30) .skip (.exit 2))) (.seq (.block 3 (.seq (.reg true r68_9) (.reg false r68_10))) (.reg false r68_11))))))))))
theorem e68 {args : List PV} {h : Heap} {K : PV → Heap → Prop} (hl : args.length = 3) (s : pwp Try.prog [] c68 (fin Try.prog [] h K) (slots0 (olds args)) h) : CanP Try.prog 68 args h K :=
  can_of2 (n := 56) mixed Try.func68 rfl (by kernel_rfl) (by rw [hl]; kernel_rfl) rfl (by kernel_rfl) s
/-! ### math.bits.Len32: function 76 -/
def r76_0 : List PS := [.mk (some 2) (.assign (.const (.int .i64 0))) none]
def r76_1 : List PS := [.mk (some 3) (.move (.tmp 0)) none,
  .mk (some 4) (.binOp .geq 102 (.tmp 3) (.const (.int .u32 65536)) 102) none]
def r76_2 : List PS := [.mk (some 5) (.move (.tmp 0)) none,
  .mk (some 6) (.binOp .shr 102 (.tmp 5) (.const (.int .u64 16)) 67) none,
  .mk (some 0) (.assign (.tmp 6)) none]
def r76_3 : List PS := [.mk (some 2) (.assign (.const (.int .i64 16))) none]
def r76_4 : List PS := [.mk (some 7) (.move (.tmp 0)) none,
  .mk (some 8) (.binOp .geq 102 (.tmp 7) (.const (.int .u32 256)) 102) none]
def r76_5 : List PS := [.mk (some 9) (.move (.tmp 0)) none,
  .mk (some 10) (.binOp .shr 102 (.tmp 9) (.const (.int .u64 8)) 67) none,
  .mk (some 0) (.assign (.tmp 10)) none]
def r76_6 : List PS := [.mk (some 11) (.move (.tmp 2)) none,
  .mk (some 12) (.binOp .add 3 (.tmp 11) (.const (.int .i64 8)) 3) none,
  .mk (some 2) (.assign (.tmp 12)) none]
def r76_7 : List PS := [.mk (some 13) (.move (.tmp 2)) none,
  .mk (some 14) (.move (.tmp 0)) none,
  .mk (some 15) (.convert 102 5 (.tmp 14)) none,
  .mk (some 16) (.index 9 (.const (.string ⟨#[0, 1, 2, 2, 3, 3, 3, 3, 4, 4, 4, 4, 4, 4, 4, 4, 5, 5, 5, 5, 5, 5, 5, 5, 5, 5, 5, 5, 5, 5, 5, 5, 6, 6, 6, 6, 6, 6, 6, 6, 6, 6, 6, 6, 6, 6, 6, 6, 6, 6, 6, 6, 6, 6, 6, 6, 6, 6, 6, 6, 6, 6, 6, 6, 7, 7, 7, 7, 7, 7, 7, 7, 7, 7, 7, 7, 7, 7, 7, 7, 7, 7, 7, 7, 7, 7, 7, 7, 7, 7, 7, 7, 7, 7, 7, 7, 7, 7, 7, 7, 7, 7, 7, 7, 7, 7, 7, 7, 7, 7, 7, 7, 7, 7, 7, 7, 7, 7, 7, 7, 7, 7, 7, 7, 7, 7, 7, 7, 8, 8, 8, 8, 8, 8, 8, 8, 8, 8, 8, 8, 8, 8, 8, 8, 8, 8, 8, 8, 8, 8, 8, 8, 8, 8, 8, 8, 8, 8, 8, 8, 8, 8, 8, 8, 8, 8, 8, 8, 8, 8, 8, 8, 8, 8, 8, 8, 8, 8, 8, 8, 8, 8, 8, 8, 8, 8, 8, 8, 8, 8, 8, 8, 8, 8, 8, 8, 8, 8, 8, 8, 8, 8, 8, 8, 8, 8, 8, 8, 8, 8, 8, 8, 8, 8, 8, 8, 8, 8, 8, 8, 8, 8, 8, 8, 8, 8, 8, 8, 8, 8, 8, 8, 8, 8, 8, 8, 8, 8, 8, 8, 8, 8, 8, 8, 8, 8, 8, 8, 8, 8, 8, 8, 8, 8, 8, 8]⟩)) (.tmp 15)) none,
  .mk (some 17) (.convert 5 3 (.tmp 16)) none,
  .mk (some 18) (.binOp .add 3 (.tmp 13) (.tmp 17) 3) none,
  .mk (some 2) (.assign (.tmp 18)) none]
def c76 : PC := (.seq (.reg false r76_0) (.seq (.seq (.reg false r76_1) (.cond (.tmp 4) (.seq (.reg false r76_2) (.reg false r76_3)) .skip)) (.seq (.seq (.reg false r76_4) (.cond (.tmp 8) (.seq (.reg false r76_5) (.reg false r76_6)) .skip)) (.seq (.reg false r76_7) .ret))))
theorem e76 {args : List PV} {h : Heap} {K : PV → Heap → Prop} (hl : args.length = 1) (s : pwp Try.prog [] c76 (fin Try.prog [.tmp 2] h K) (slots0 (olds args)) h) : CanP Try.prog 76 args h K :=
  can_of2 (n := 19) mixed Try.func76 rfl (by kernel_rfl) (by rw [hl]; kernel_rfl) rfl (by kernel_rfl) s
/-! ### math.bits.Len64: function 77 -/
def r77_0 : List PS := [.mk (some 2) (.assign (.const (.int .i64 0))) none]
def r77_1 : List PS := [.mk (some 3) (.move (.tmp 0)) none,
  .mk (some 4) (.binOp .geq 104 (.tmp 3) (.const (.int .u64 4294967296)) 104) none]
def r77_2 : List PS := [.mk (some 5) (.move (.tmp 0)) none,
  .mk (some 6) (.binOp .shr 104 (.tmp 5) (.const (.int .u64 32)) 67) none,
  .mk (some 0) (.assign (.tmp 6)) none]
def r77_3 : List PS := [.mk (some 2) (.assign (.const (.int .i64 32))) none]
def r77_4 : List PS := [.mk (some 7) (.move (.tmp 0)) none,
  .mk (some 8) (.binOp .geq 104 (.tmp 7) (.const (.int .u64 65536)) 104) none]
def r77_5 : List PS := [.mk (some 9) (.move (.tmp 0)) none,
  .mk (some 10) (.binOp .shr 104 (.tmp 9) (.const (.int .u64 16)) 67) none,
  .mk (some 0) (.assign (.tmp 10)) none]
def r77_6 : List PS := [.mk (some 11) (.move (.tmp 2)) none,
  .mk (some 12) (.binOp .add 3 (.tmp 11) (.const (.int .i64 16)) 3) none,
  .mk (some 2) (.assign (.tmp 12)) none]
def r77_7 : List PS := [.mk (some 13) (.move (.tmp 0)) none,
  .mk (some 14) (.binOp .geq 104 (.tmp 13) (.const (.int .u64 256)) 104) none]
def r77_8 : List PS := [.mk (some 15) (.move (.tmp 0)) none,
  .mk (some 16) (.binOp .shr 104 (.tmp 15) (.const (.int .u64 8)) 67) none,
  .mk (some 0) (.assign (.tmp 16)) none]
def r77_9 : List PS := [.mk (some 17) (.move (.tmp 2)) none,
  .mk (some 18) (.binOp .add 3 (.tmp 17) (.const (.int .i64 8)) 3) none,
  .mk (some 2) (.assign (.tmp 18)) none]
def r77_10 : List PS := [.mk (some 19) (.move (.tmp 2)) none,
  .mk (some 20) (.move (.tmp 0)) none,
  .mk (some 21) (.convert 104 5 (.tmp 20)) none,
  .mk (some 22) (.index 9 (.const (.string ⟨#[0, 1, 2, 2, 3, 3, 3, 3, 4, 4, 4, 4, 4, 4, 4, 4, 5, 5, 5, 5, 5, 5, 5, 5, 5, 5, 5, 5, 5, 5, 5, 5, 6, 6, 6, 6, 6, 6, 6, 6, 6, 6, 6, 6, 6, 6, 6, 6, 6, 6, 6, 6, 6, 6, 6, 6, 6, 6, 6, 6, 6, 6, 6, 6, 7, 7, 7, 7, 7, 7, 7, 7, 7, 7, 7, 7, 7, 7, 7, 7, 7, 7, 7, 7, 7, 7, 7, 7, 7, 7, 7, 7, 7, 7, 7, 7, 7, 7, 7, 7, 7, 7, 7, 7, 7, 7, 7, 7, 7, 7, 7, 7, 7, 7, 7, 7, 7, 7, 7, 7, 7, 7, 7, 7, 7, 7, 7, 7, 8, 8, 8, 8, 8, 8, 8, 8, 8, 8, 8, 8, 8, 8, 8, 8, 8, 8, 8, 8, 8, 8, 8, 8, 8, 8, 8, 8, 8, 8, 8, 8, 8, 8, 8, 8, 8, 8, 8, 8, 8, 8, 8, 8, 8, 8, 8, 8, 8, 8, 8, 8, 8, 8, 8, 8, 8, 8, 8, 8, 8, 8, 8, 8, 8, 8, 8, 8, 8, 8, 8, 8, 8, 8, 8, 8, 8, 8, 8, 8, 8, 8, 8, 8, 8, 8, 8, 8, 8, 8, 8, 8, 8, 8, 8, 8, 8, 8, 8, 8, 8, 8, 8, 8, 8, 8, 8, 8, 8, 8, 8, 8, 8, 8, 8, 8, 8, 8, 8, 8, 8, 8, 8, 8, 8, 8, 8, 8]⟩)) (.tmp 21)) none,
  .mk (some 23) (.convert 5 3 (.tmp 22)) none,
  .mk (some 24) (.binOp .add 3 (.tmp 19) (.tmp 23) 3) none,
  .mk (some 2) (.assign (.tmp 24)) none]
def c77 : PC := (.seq (.reg false r77_0) (.seq (.seq (.reg false r77_1) (.cond (.tmp 4) (.seq (.reg false r77_2) (.reg false r77_3)) .skip)) (.seq (.seq (.reg false r77_4) (.cond (.tmp 8) (.seq (.reg false r77_5) (.reg false r77_6)) .skip)) (.seq (.seq (.reg false r77_7) (.cond (.tmp 14) (.seq (.reg false r77_8) (.reg false r77_9)) .skip)) (.seq (.reg false r77_10) .ret)))))
theorem e77 {args : List PV} {h : Heap} {K : PV → Heap → Prop} (hl : args.length = 1) (s : pwp Try.prog [] c77 (fin Try.prog [.tmp 2] h K) (slots0 (olds args)) h) : CanP Try.prog 77 args h K :=
  can_of2 (n := 25) mixed Try.func77 rfl (by kernel_rfl) (by rw [hl]; kernel_rfl) rfl (by kernel_rfl) s
/-! ### math.bits.Len: function 47 -/
def r47_0 : List PS := [.mk (some 2) (.assign (.const (.int .i64 0))) none]
def r47_1 : List PS := [.mk (some 3) (.move (.tmp 0)) none,
  .mk (some 4) (.convert 67 102 (.tmp 3)) none,
  .mk (some 5) (.call ⟨(.value (.func 76)), #[(.tmp 4)], #[102]⟩) none,
  .mk (some 2) (.assign (.tmp 5)) none]
def r47_2 : List PS := [.mk (some 6) (.move (.tmp 0)) none,
  .mk (some 7) (.call ⟨(.value (.func 77)), #[(.tmp 6)], #[104]⟩) none,
  .mk (some 2) (.assign (.tmp 7)) none]
def c47 : PC := (.seq (.reg false r47_0) (.seq (.cond (.const (.bool false)) (.seq (.reg false r47_1) .ret) .skip) (.seq (.reg false r47_2) .ret)))
theorem e47 {args : List PV} {h : Heap} {K : PV → Heap → Prop} (hl : args.length = 1) (s : pwp Try.prog [] c47 (fin Try.prog [.tmp 2] h K) (slots0 (olds args)) h) : CanP Try.prog 47 args h K :=
  can_of2 (n := 8) mixed Try.func47 rfl (by kernel_rfl) (by rw [hl]; kernel_rfl) rfl (by kernel_rfl) s
/-! ### slices.nextPowerOfTwo: function 86 -/
def r86_0 : List PS := [.mk (some 2) (.assign (.const (.int .u64 0))) none]
def r86_1 : List PS := [.mk (some 3) (.move (.tmp 0)) none,
  .mk (some 4) (.convert 3 67 (.tmp 3)) none,
  .mk (some 5) (.call ⟨(.value (.func 47)), #[(.tmp 4)], #[67]⟩) none,
  .mk (some 6) (.binOp .shl 67 (.const (.int .u64 1)) (.tmp 5) 3) none,
  .mk (some 2) (.assign (.tmp 6)) none]
def c86 : PC := (.seq (.reg false r86_0) (.seq (.reg false r86_1) .ret))
theorem e86 {args : List PV} {h : Heap} {K : PV → Heap → Prop} (hl : args.length = 1) (s : pwp Try.prog [] c86 (fin Try.prog [.tmp 2] h K) (slots0 (olds args)) h) : CanP Try.prog 86 args h K :=
  can_of2 (n := 7) mixed Try.func86 rfl (by kernel_rfl) (by rw [hl]; kernel_rfl) rfl (by kernel_rfl) s
/-! ### (*slices.xorshift).Next: function 87 -/
def r87_0 : List PS := [.mk (some 2) (.assign (.const (.int .u64 0))) none]
def r87_1 : List PS := [.mk (some 3) (.move (.tmp 0)) none,
  .mk (some 4) (.nilCheck (.tmp 3)) none,
  .mk (some 5) (.load 109 (.tmp 4)) none,
  .mk (some 6) (.move (.tmp 0)) none,
  .mk (some 7) (.nilCheck (.tmp 6)) none,
  .mk (some 8) (.load 109 (.tmp 7)) none,
  .mk (some 9) (.binOp .shl 109 (.tmp 8) (.const (.int .u64 13)) 67) none,
  .mk (some 10) (.binOp .xor 109 (.tmp 5) (.tmp 9) 109) none,
  .mk (some 11) (.nilCheck (.tmp 3)) none,
  .mk none (.store 109 (.tmp 11) (.tmp 10)) none]
def r87_2 : List PS := [.mk (some 12) (.move (.tmp 0)) none,
  .mk (some 13) (.nilCheck (.tmp 12)) none,
  .mk (some 14) (.load 109 (.tmp 13)) none,
  .mk (some 15) (.move (.tmp 0)) none,
  .mk (some 16) (.nilCheck (.tmp 15)) none,
  .mk (some 17) (.load 109 (.tmp 16)) none,
  .mk (some 18) (.binOp .shr 109 (.tmp 17) (.const (.int .u64 7)) 67) none,
  .mk (some 19) (.binOp .xor 109 (.tmp 14) (.tmp 18) 109) none,
  .mk (some 20) (.nilCheck (.tmp 12)) none,
  .mk none (.store 109 (.tmp 20) (.tmp 19)) none]
def r87_3 : List PS := [.mk (some 21) (.move (.tmp 0)) none,
  .mk (some 22) (.nilCheck (.tmp 21)) none,
  .mk (some 23) (.load 109 (.tmp 22)) none,
  .mk (some 24) (.move (.tmp 0)) none,
  .mk (some 25) (.nilCheck (.tmp 24)) none,
  .mk (some 26) (.load 109 (.tmp 25)) none,
  .mk (some 27) (.binOp .shl 109 (.tmp 26) (.const (.int .u64 17)) 67) none,
  .mk (some 28) (.binOp .xor 109 (.tmp 23) (.tmp 27) 109) none,
  .mk (some 29) (.nilCheck (.tmp 21)) none,
  .mk none (.store 109 (.tmp 29) (.tmp 28)) none]
def r87_4 : List PS := [.mk (some 30) (.move (.tmp 0)) none,
  .mk (some 31) (.nilCheck (.tmp 30)) none,
  .mk (some 32) (.load 109 (.tmp 31)) none,
  .mk (some 2) (.assign (.tmp 32)) none]
def c87 : PC := (.seq (.reg false r87_0) (.seq (.reg true r87_1) (.seq (.reg true r87_2) (.seq (.reg true r87_3) (.seq (.reg false r87_4) .ret)))))
theorem e87 {args : List PV} {h : Heap} {K : PV → Heap → Prop} (hl : args.length = 1) (s : pwp Try.prog [] c87 (fin Try.prog [.tmp 2] h K) (slots0 (olds args)) h) : CanP Try.prog 87 args h K :=
  can_of2 (n := 33) mixed Try.func87 rfl (by kernel_rfl) (by rw [hl]; kernel_rfl) rfl (by kernel_rfl) s
/-! ### slices.breakPatternsOrdered[int]: function 69 -/
def r69_0 : List PS := [.mk (some 11) (.move (.tmp 2)) none,
  .mk (some 12) (.move (.tmp 1)) none,
  .mk (some 13) (.binOp .sub 3 (.tmp 11) (.tmp 12) 3) none,
  .mk (some 6) (.assign (.tmp 13)) none]
def r69_1 : List PS := [.mk (some 14) (.move (.tmp 6)) none,
  .mk (some 15) (.binOp .geq 3 (.tmp 14) (.const (.int .i64 8)) 3) none]
def r69_2 : List PS := [.mk (some 16) (.move (.tmp 6)) none,
  .mk (some 17) (.convert 3 109 (.tmp 16)) none,
  .mk (some 7) (.alloc 109) none,
  .mk none (.store 109 (.tmp 7) (.tmp 17)) none]
def r69_3 : List PS := [.mk (some 18) (.move (.tmp 6)) none,
  .mk (some 19) (.call ⟨(.value (.func 86)), #[(.tmp 18)], #[3]⟩) none,
  .mk (some 8) (.assign (.tmp 19)) none]
def r69_4 : List PS := [.mk (some 20) (.move (.tmp 1)) none,
  .mk (some 21) (.move (.tmp 6)) none,
  .mk (some 22) (.binOp .quo 3 (.tmp 21) (.const (.int .i64 4)) 3) none,
  .mk (some 23) (.binOp .mul 3 (.tmp 22) (.const (.int .i64 2)) 3) none,
  .mk (some 24) (.binOp .add 3 (.tmp 20) (.tmp 23) 3) none,
  .mk (some 25) (.binOp .sub 3 (.tmp 24) (.const (.int .i64 1)) 3) none,
  .mk (some 9) (.assign (.tmp 25)) none]
def r69_5 : List PS := [.mk (some 26) (.move (.tmp 9)) none,
  .mk (some 27) (.move (.tmp 1)) none,
  .mk (some 28) (.move (.tmp 6)) none,
  .mk (some 29) (.binOp .quo 3 (.tmp 28) (.const (.int .i64 4)) 3) none,
  .mk (some 30) (.binOp .mul 3 (.tmp 29) (.const (.int .i64 2)) 3) none,
  .mk (some 31) (.binOp .add 3 (.tmp 27) (.tmp 30) 3) none,
  .mk (some 32) (.binOp .add 3 (.tmp 31) (.const (.int .i64 1)) 3) none,
  .mk (some 33) (.binOp .leq 3 (.tmp 26) (.tmp 32) 3) none]
def r69_6 : List PS := [.mk (some 36) (.call ⟨(.value (.func 87)), #[(.tmp 7)], #[109]⟩) none,
  .mk (some 37) (.move (.tmp 8)) none,
  .mk (some 38) (.binOp .sub 67 (.tmp 37) (.const (.int .u64 1)) 67) none,
  .mk (some 39) (.binOp .and 67 (.tmp 36) (.tmp 38) 67) none,
  .mk (some 40) (.convert 67 3 (.tmp 39)) none,
  .mk (some 10) (.assign (.tmp 40)) none]
def r69_7 : List PS := [.mk (some 41) (.move (.tmp 10)) none,
  .mk (some 42) (.move (.tmp 6)) none,
  .mk (some 43) (.binOp .geq 3 (.tmp 41) (.tmp 42) 3) none]
def r69_8 : List PS := [.mk (some 44) (.move (.tmp 10)) none,
  .mk (some 45) (.move (.tmp 6)) none,
  .mk (some 46) (.binOp .sub 3 (.tmp 44) (.tmp 45) 3) none,
  .mk (some 10) (.assign (.tmp 46)) none]
def r69_9 : List PS := [.mk (some 47) (.move (.tmp 0)) none,
  .mk (some 48) (.move (.tmp 9)) none,
  .mk (some 49) (.move (.tmp 0)) none,
  .mk (some 50) (.move (.tmp 1)) none,
  .mk (some 51) (.move (.tmp 10)) none,
  .mk (some 52) (.binOp .add 3 (.tmp 50) (.tmp 51) 3) none,
  .mk (some 53) (.move (.tmp 0)) none,
  .mk (some 54) (.move (.tmp 1)) none,
  .mk (some 55) (.move (.tmp 10)) none,
  .mk (some 56) (.binOp .add 3 (.tmp 54) (.tmp 55) 3) none,
  .mk (some 57) (.indexAddr 22 (.tmp 53) (.tmp 56)) none,
  .mk (some 58) (.load 3 (.tmp 57)) none,
  .mk (some 59) (.move (.tmp 0)) none,
  .mk (some 60) (.move (.tmp 9)) none,
  .mk (some 61) (.indexAddr 22 (.tmp 59) (.tmp 60)) none,
  .mk (some 62) (.load 3 (.tmp 61)) none,
  .mk (some 63) (.indexAddr 22 (.tmp 47) (.tmp 48)) none,
  .mk none (.store 3 (.tmp 63) (.tmp 58)) none,
  .mk (some 64) (.indexAddr 22 (.tmp 49) (.tmp 52)) none,
  .mk none (.store 3 (.tmp 64) (.tmp 62)) none]
def r69_10 : List PS := [.mk (some 34) (.move (.tmp 9)) none,
  .mk (some 35) (.binOp .add 3 (.tmp 34) (.const (.int .i64 1)) 3) none,
  .mk (some 9) (.assign (.tmp 35)) none]
def c69 : PC := (.seq (.reg false r69_0) (.seq (.reg false r69_1) (.cond (.tmp 15) (.seq (.reg false r69_2) (.seq (.reg false r69_3) (.seq (.reg false r69_4) (.block 0 (.loop (.seq (.seq (.reg false r69_5) (.cond (.tmp 33) .skip (.exit 0))) (.seq (.block 1 (.seq (.reg false r69_6) (.seq (.seq (.reg false r69_7) (.cond (.tmp 43) (.reg false r69_8) .skip)) (.reg true r69_9)))) (.reg false r69_10)))))))) .skip)))
theorem e69 {args : List PV} {h : Heap} {K : PV → Heap → Prop} (hl : args.length = 3) (s : pwp Try.prog [7] c69 (fin Try.prog [] h K) (slots0 (olds args)) h) : CanP Try.prog 69 args h K :=
  can_of2 (n := 65) mixed Try.func69 rfl (by kernel_rfl) (by rw [hl]; kernel_rfl) rfl (by kernel_rfl) s
/-! ### slices.order2Ordered[int]: function 91 -/
def r91_0 : List PS := [.mk (some 8) (.assign (.const (.int .i64 0))) none,
  .mk (some 9) (.assign (.const (.int .i64 0))) none]
def r91_1 : List PS := [.mk (some 10) (.move (.tmp 0)) none,
  .mk (some 11) (.move (.tmp 2)) none,
  .mk (some 12) (.indexAddr 22 (.tmp 10) (.tmp 11)) none,
  .mk (some 13) (.load 3 (.tmp 12)) none,
  .mk (some 14) (.move (.tmp 0)) none,
  .mk (some 15) (.move (.tmp 1)) none,
  .mk (some 16) (.indexAddr 22 (.tmp 14) (.tmp 15)) none,
  .mk (some 17) (.load 3 (.tmp 16)) none,
  .mk (some 18) (.call ⟨(.value (.func 73)), #[(.tmp 13), (.tmp 17)], #[3, 3]⟩) none]
def r91_2 : List PS := [.mk (some 19) (.move (.tmp 3)) none,
  .mk (some 20) (.nilCheck (.tmp 19)) none,
  .mk (some 21) (.load 3 (.tmp 20)) none,
  .mk (some 22) (.binOp .add 3 (.tmp 21) (.const (.int .i64 1)) 3) none,
  .mk (some 23) (.nilCheck (.tmp 19)) none,
  .mk none (.store 3 (.tmp 23) (.tmp 22)) none]
def r91_3 : List PS := [.mk (some 24) (.move (.tmp 2)) none,
  .mk (some 25) (.move (.tmp 1)) none,
  .mk (some 8) (.assign (.tmp 24)) none,
  .mk (some 9) (.assign (.tmp 25)) none]
def r91_4 : List PS := [.mk (some 26) (.move (.tmp 1)) none,
  .mk (some 27) (.move (.tmp 2)) none,
  .mk (some 8) (.assign (.tmp 26)) none,
  .mk (some 9) (.assign (.tmp 27)) none]
def c91 : PC := (.seq (.reg false r91_0) (.seq (.seq (.reg true r91_1) (.cond (.tmp 18) (.seq (.reg false r91_2) (.seq (.reg false r91_3) .ret)) .skip)) (.seq (.reg false r91_4) .ret)))
theorem e91 {args : List PV} {h : Heap} {K : PV → Heap → Prop} (hl : args.length = 4) (s : pwp Try.prog [] c91 (fin Try.prog [.tmp 8, .tmp 9] h K) (slots0 (olds args)) h) : CanP Try.prog 91 args h K :=
  can_of2 (n := 28) mixed Try.func91 rfl (by kernel_rfl) (by rw [hl]; kernel_rfl) rfl (by kernel_rfl) s
/-! ### slices.medianOrdered[int]: function 89 -/
def r89_0 : List PS := [.mk (some 10) (.assign (.const (.int .i64 0))) none]
def r89_1 : List PS := [.mk (some 12) (.move (.tmp 0)) none,
  .mk (some 13) (.move (.tmp 1)) none,
  .mk (some 14) (.move (.tmp 2)) none,
  .mk (some 15) (.move (.tmp 4)) none,
  .mk (some 16) (.call ⟨(.value (.func 91)), #[(.tmp 12), (.tmp 13), (.tmp 14), (.tmp 15)], #[22, 3, 3, 113]⟩) none,
  .mk (some 11) (.move (.tmp 16)) none,
  .mk (some 17) (.extract (.tmp 11) 0) none,
  .mk (some 18) (.extract (.tmp 11) 1) none,
  .mk (some 1) (.assign (.tmp 17)) none,
  .mk (some 2) (.assign (.tmp 18)) none]
def r89_2 : List PS := [.mk (some 20) (.move (.tmp 0)) none,
  .mk (some 21) (.move (.tmp 2)) none,
  .mk (some 22) (.move (.tmp 3)) none,
  .mk (some 23) (.move (.tmp 4)) none,
  .mk (some 24) (.call ⟨(.value (.func 91)), #[(.tmp 20), (.tmp 21), (.tmp 22), (.tmp 23)], #[22, 3, 3, 113]⟩) none,
  .mk (some 19) (.move (.tmp 24)) none,
  .mk (some 25) (.extract (.tmp 19) 0) none,
  .mk (some 26) (.extract (.tmp 19) 1) none,
  .mk (some 2) (.assign (.tmp 25)) none,
  .mk (some 3) (.assign (.tmp 26)) none]
def r89_3 : List PS := [.mk (some 28) (.move (.tmp 0)) none,
  .mk (some 29) (.move (.tmp 1)) none,
  .mk (some 30) (.move (.tmp 2)) none,
  .mk (some 31) (.move (.tmp 4)) none,
  .mk (some 32) (.call ⟨(.value (.func 91)), #[(.tmp 28), (.tmp 29), (.tmp 30), (.tmp 31)], #[22, 3, 3, 113]⟩) none,
  .mk (some 27) (.move (.tmp 32)) none,
  .mk (some 33) (.extract (.tmp 27) 0) none,
  .mk (some 34) (.extract (.tmp 27) 1) none,
  .mk (some 1) (.assign (.tmp 33)) none,
  .mk (some 2) (.assign (.tmp 34)) none]
def r89_4 : List PS := [.mk (some 35) (.move (.tmp 2)) none,
  .mk (some 10) (.assign (.tmp 35)) none]
def c89 : PC := (.seq (.reg false r89_0) (.seq (.reg false r89_1) (.seq (.reg false r89_2) (.seq (.reg false r89_3) (.seq (.reg false r89_4) .ret)))))
theorem e89 {args : List PV} {h : Heap} {K : PV → Heap → Prop} (hl : args.length = 5) (s : pwp Try.prog [] c89 (fin Try.prog [.tmp 10] h K) (slots0 (olds args)) h) : CanP Try.prog 89 args h K :=
  can_of2 (n := 36) mixed Try.func89 rfl (by kernel_rfl) (by rw [hl]; kernel_rfl) rfl (by kernel_rfl) s
/-! ### slices.medianAdjacentOrdered[int]: function 88 -/
def r88_0 : List PS := [.mk (some 6) (.assign (.const (.int .i64 0))) none]
def r88_1 : List PS := [.mk (some 7) (.move (.tmp 0)) none,
  .mk (some 8) (.move (.tmp 1)) none,
  .mk (some 9) (.binOp .sub 3 (.tmp 8) (.const (.int .i64 1)) 3) none,
  .mk (some 10) (.move (.tmp 1)) none,
  .mk (some 11) (.move (.tmp 1)) none,
  .mk (some 12) (.binOp .add 3 (.tmp 11) (.const (.int .i64 1)) 3) none,
  .mk (some 13) (.move (.tmp 2)) none,
  .mk (some 14) (.call ⟨(.value (.func 89)), #[(.tmp 7), (.tmp 9), (.tmp 10), (.tmp 12), (.tmp 13)], #[22, 3, 3, 3, 113]⟩) none,
  .mk (some 6) (.assign (.tmp 14)) none]
def c88 : PC := (.seq (.reg false r88_0) (.seq (.reg false r88_1) .ret))
theorem e88 {args : List PV} {h : Heap} {K : PV → Heap → Prop} (hl : args.length = 3) (s : pwp Try.prog [] c88 (fin Try.prog [.tmp 6] h K) (slots0 (olds args)) h) : CanP Try.prog 88 args h K :=
  can_of2 (n := 15) mixed Try.func88 rfl (by kernel_rfl) (by rw [hl]; kernel_rfl) rfl (by kernel_rfl) s
/-! ### slices.choosePivotOrdered[int]: function 70 -/
def r70_0 : List PS := [.mk (some 6) (.assign (.const (.int .i64 0))) none,
  .mk (some 7) (.assign (.const (.int .i64 0))) none]
def r70_1 : List PS := [.mk (some 13) (.move (.tmp 2)) none,
  .mk (some 14) (.move (.tmp 1)) none,
  .mk (some 15) (.binOp .sub 3 (.tmp 13) (.tmp 14) 3) none,
  .mk (some 8) (.assign (.tmp 15)) none]
def r70_2 : List PS := [.mk (some 9) (.alloc 3) none]
def r70_3 : List PS := [.mk (some 16) (.move (.tmp 1)) none,
  .mk (some 17) (.move (.tmp 8)) none,
  .mk (some 18) (.binOp .quo 3 (.tmp 17) (.const (.int .i64 4)) 3) none,
  .mk (some 19) (.binOp .mul 3 (.tmp 18) (.const (.int .i64 1)) 3) none,
  .mk (some 20) (.binOp .add 3 (.tmp 16) (.tmp 19) 3) none,
  .mk (some 10) (.assign (.tmp 20)) none]
def r70_4 : List PS := [.mk (some 21) (.move (.tmp 1)) none,
  .mk (some 22) (.move (.tmp 8)) none,
  .mk (some 23) (.binOp .quo 3 (.tmp 22) (.const (.int .i64 4)) 3) none,
  .mk (some 24) (.binOp .mul 3 (.tmp 23) (.const (.int .i64 2)) 3) none,
  .mk (some 25) (.binOp .add 3 (.tmp 21) (.tmp 24) 3) none,
  .mk (some 11) (.assign (.tmp 25)) none]
def r70_5 : List PS := [.mk (some 26) (.move (.tmp 1)) none,
  .mk (some 27) (.move (.tmp 8)) none,
  .mk (some 28) (.binOp .quo 3 (.tmp 27) (.const (.int .i64 4)) 3) none,
  .mk (some 29) (.binOp .mul 3 (.tmp 28) (.const (.int .i64 3)) 3) none,
  .mk (some 30) (.binOp .add 3 (.tmp 26) (.tmp 29) 3) none,
  .mk (some 12) (.assign (.tmp 30)) none]
def r70_6 : List PS := [.mk (some 31) (.move (.tmp 8)) none,
  .mk (some 32) (.binOp .geq 3 (.tmp 31) (.const (.int .i64 8)) 3) none]
def r70_7 : List PS := [.mk (some 33) (.move (.tmp 8)) none,
  .mk (some 34) (.binOp .geq 3 (.tmp 33) (.const (.int .i64 50)) 3) none]
def r70_8 : List PS := [.mk (some 35) (.move (.tmp 0)) none,
  .mk (some 36) (.move (.tmp 10)) none,
  .mk (some 37) (.call ⟨(.value (.func 88)), #[(.tmp 35), (.tmp 36), (.tmp 9)], #[22, 3, 113]⟩) none,
  .mk (some 10) (.assign (.tmp 37)) none]
def r70_9 : List PS := [.mk (some 38) (.move (.tmp 0)) none,
  .mk (some 39) (.move (.tmp 11)) none,
  .mk (some 40) (.call ⟨(.value (.func 88)), #[(.tmp 38), (.tmp 39), (.tmp 9)], #[22, 3, 113]⟩) none,
  .mk (some 11) (.assign (.tmp 40)) none]
def r70_10 : List PS := [.mk (some 41) (.move (.tmp 0)) none,
  .mk (some 42) (.move (.tmp 12)) none,
  .mk (some 43) (.call ⟨(.value (.func 88)), #[(.tmp 41), (.tmp 42), (.tmp 9)], #[22, 3, 113]⟩) none,
  .mk (some 12) (.assign (.tmp 43)) none]
def r70_11 : List PS := [.mk (some 44) (.move (.tmp 0)) none,
  .mk (some 45) (.move (.tmp 10)) none,
  .mk (some 46) (.move (.tmp 11)) none,
  .mk (some 47) (.move (.tmp 12)) none,
  .mk (some 48) (.call ⟨(.value (.func 89)), #[(.tmp 44), (.tmp 45), (.tmp 46), (.tmp 47), (.tmp 9)], #[22, 3, 3, 3, 113]⟩) none,
  .mk (some 11) (.assign (.tmp 48)) none]
def r70_12 : List PS := [.mk (some 49) (.load 3 (.tmp 9)) none]
def r70_13 : List PS := [.mk (some 52) (.binOp .eql 3 (.tmp 49) (.const (.int .i64 0)) 3) none,
  .mk (some 51) (.assign (.tmp 52)) none]
def r70_14 : List PS := [.mk (some 53) (.move (.tmp 11)) none,
  .mk (some 6) (.assign (.tmp 53)) none,
  .mk (some 7) (.assign (.const (.int .i64 1))) none]
def r70_15 : List PS := [.mk (some 55) (.binOp .eql 3 (.tmp 49) (.const (.int .i64 12)) 3) none,
  .mk (some 54) (.assign (.tmp 55)) none]
def r70_16 : List PS := [.mk (some 56) (.move (.tmp 11)) none,
  .mk (some 6) (.assign (.tmp 56)) none,
  .mk (some 7) (.assign (.const (.int .i64 2))) none]
def r70_17 : List PS := [.mk (some 50) (.move (.tmp 11)) none,
  .mk (some 6) (.assign (.tmp 50)) none,
  .mk (some 7) (.assign (.const (.int .i64 0))) none]
def c70 : PC := (.seq (.reg false r70_0) (.seq (.reg false r70_1) (.seq (.reg false r70_2) (.seq (.reg false r70_3) (.seq (.reg false r70_4) (.seq (.reg false r70_5) (.seq (.seq (.reg false r70_6) (.cond (.tmp 32) (.seq (.seq (.reg false r70_7) (.cond (.tmp 34) (.seq (.reg false r70_8) (.seq (.reg false r70_9) (.reg false r70_10))) .skip)) (.reg false r70_11)) .skip)) (.seq (.reg false r70_12) (.block 0 (.seq (.reg false r70_13) (.cond (.tmp 51) (.seq (.reg false r70_14) .ret) (.seq (.reg false r70_15) (.cond (.tmp 54) (.seq (.reg false r70_16) .ret) (.seq (.reg false r70_17) .ret))))))))))))))
theorem e70 {args : List PV} {h : Heap} {K : PV → Heap → Prop} (hl : args.length = 3) (s : pwp Try.prog [9] c70 (fin Try.prog [.tmp 6, .tmp 7] h K) (slots0 (olds args)) h) : CanP Try.prog 70 args h K :=
  can_of2 (n := 57) mixed Try.func70 rfl (by kernel_rfl) (by rw [hl]; kernel_rfl) rfl (by kernel_rfl) s
/-! ### slices.reverseRangeOrdered[int]: function 71 -/
def r71_0 : List PS := [.mk (some 8) (.move (.tmp 1)) none,
  .mk (some 6) (.assign (.tmp 8)) none]
def r71_1 : List PS := [.mk (some 9) (.move (.tmp 2)) none,
  .mk (some 10) (.binOp .sub 3 (.tmp 9) (.const (.int .i64 1)) 3) none,
  .mk (some 7) (.assign (.tmp 10)) none]
def r71_2 : List PS := [.mk (some 11) (.move (.tmp 6)) none,
  .mk (some 12) (.move (.tmp 7)) none,
  .mk (some 13) (.binOp .lss 3 (.tmp 11) (.tmp 12) 3) none]
def r71_3 : List PS := [.mk (some 14) (.move (.tmp 0)) none,
  .mk (some 15) (.move (.tmp 6)) none,
  .mk (some 16) (.move (.tmp 0)) none,
  .mk (some 17) (.move (.tmp 7)) none,
  .mk (some 18) (.move (.tmp 0)) none,
  .mk (some 19) (.move (.tmp 7)) none,
  .mk (some 20) (.indexAddr 22 (.tmp 18) (.tmp 19)) none,
  .mk (some 21) (.load 3 (.tmp 20)) none,
  .mk (some 22) (.move (.tmp 0)) none,
  .mk (some 23) (.move (.tmp 6)) none,
  .mk (some 24) (.indexAddr 22 (.tmp 22) (.tmp 23)) none,
  .mk (some 25) (.load 3 (.tmp 24)) none,
  .mk (some 26) (.indexAddr 22 (.tmp 14) (.tmp 15)) none,
  .mk none (.store 3 (.tmp 26) (.tmp 21)) none,
  .mk (some 27) (.indexAddr 22 (.tmp 16) (.tmp 17)) none,
  .mk none (.store 3 (.tmp 27) (.tmp 25)) none]
def r71_4 : List PS := [.mk (some 28) (.move (.tmp 6)) none,
  .mk (some 29) (.binOp .add 3 (.tmp 28) (.const (.int .i64 1)) 3) none,
  .mk (some 6) (.assign (.tmp 29)) none]
def r71_5 : List PS := [.mk (some 30) (.move (.tmp 7)) none,
  .mk (some 31) (.binOp .sub 3 (.tmp 30) (.const (.int .i64 1)) 3) none,
  .mk (some 7) (.assign (.tmp 31)) none]
def c71 : PC := (.seq (.reg false r71_0) (.seq (.reg false r71_1) (.block 0 (.loop (.seq (.seq (.reg false r71_2) (.cond (.tmp 13) .skip (.exit 0))) (.block 1 (.seq (.reg true r71_3) (.seq (.reg false r71_4) (.reg false r71_5)))))))))
theorem e71 {args : List PV} {h : Heap} {K : PV → Heap → Prop} (hl : args.length = 3) (s : pwp Try.prog [] c71 (fin Try.prog [] h K) (slots0 (olds args)) h) : CanP Try.prog 71 args h K :=
  can_of2 (n := 32) mixed Try.func71 rfl (by kernel_rfl) (by rw [hl]; kernel_rfl) rfl (by kernel_rfl) s
/-! ### slices.partialInsertionSortOrdered[int]: function 72 -/
def r72_0 : List PS := [.mk (some 6) (.assign (.const (.bool false))) none]
def r72_1 : List PS := [.mk (some 11) (.move (.tmp 1)) none,
  .mk (some 12) (.binOp .add 3 (.tmp 11) (.const (.int .i64 1)) 3) none,
  .mk (some 7) (.assign (.tmp 12)) none]
def r72_2 : List PS := [.mk (some 8) (.assign (.const (.int .i64 0))) none]
def r72_3 : List PS := [.mk (some 13) (.move (.tmp 8)) none,
  .mk (some 14) (.binOp .lss 3 (.tmp 13) (.const (.int .i64 5)) 3) none]
def r72_4 : List PS := [.mk (some 17) (.move (.tmp 7)) none,
  .mk (some 18) (.move (.tmp 2)) none,
  .mk (some 19) (.binOp .lss 3 (.tmp 17) (.tmp 18) 3) none,
  .mk (some 20) (.move (.tmp 19)) none,
  .mk (some 21) (.move (.tmp 0)) (some (20, true)),
  .mk (some 22) (.move (.tmp 7)) (some (20, true)),
  .mk (some 23) (.indexAddr 22 (.tmp 21) (.tmp 22)) (some (20, true)),
  .mk (some 24) (.load 3 (.tmp 23)) (some (20, true)),
  .mk (some 25) (.move (.tmp 0)) (some (20, true)),
  .mk (some 26) (.move (.tmp 7)) (some (20, true)),
  .mk (some 27) (.binOp .sub 3 (.tmp 26) (.const (.int .i64 1)) 3) (some (20, true)),
  .mk (some 28) (.indexAddr 22 (.tmp 25) (.tmp 27)) (some (20, true)),
  .mk (some 29) (.load 3 (.tmp 28)) (some (20, true)),
  .mk (some 30) (.call ⟨(.value (.func 73)), #[(.tmp 24), (.tmp 29)], #[3, 3]⟩) (some (20, true)),
  .mk (some 31) (.unOp .not 4 (.tmp 30)) (some (20, true)),
  .mk (some 32) (.pick (.tmp 20) (.tmp 31) (.const (.bool false))) none]
def r72_5 : List PS := [.mk (some 33) (.move (.tmp 7)) none,
  .mk (some 34) (.binOp .add 3 (.tmp 33) (.const (.int .i64 1)) 3) none,
  .mk (some 7) (.assign (.tmp 34)) none]
def r72_6 : List PS := [.mk (some 35) (.move (.tmp 7)) none,
  .mk (some 36) (.move (.tmp 2)) none,
  .mk (some 37) (.binOp .eql 3 (.tmp 35) (.tmp 36) 3) none]
def r72_7 : List PS := [.mk (some 6) (.assign (.const (.bool true))) none]
def r72_8 : List PS := [.mk (some 38) (.move (.tmp 2)) none,
  .mk (some 39) (.move (.tmp 1)) none,
  .mk (some 40) (.binOp .sub 3 (.tmp 38) (.tmp 39) 3) none,
  .mk (some 41) (.binOp .lss 3 (.tmp 40) (.const (.int .i64 50)) 3) none]
def r72_9 : List PS := [.mk (some 6) (.assign (.const (.bool false))) none]
def r72_10 : List PS := [.mk (some 42) (.move (.tmp 0)) none,
  .mk (some 43) (.move (.tmp 7)) none,
  .mk (some 44) (.move (.tmp 0)) none,
  .mk (some 45) (.move (.tmp 7)) none,
  .mk (some 46) (.binOp .sub 3 (.tmp 45) (.const (.int .i64 1)) 3) none,
  .mk (some 47) (.move (.tmp 0)) none,
  .mk (some 48) (.move (.tmp 7)) none,
  .mk (some 49) (.binOp .sub 3 (.tmp 48) (.const (.int .i64 1)) 3) none,
  .mk (some 50) (.indexAddr 22 (.tmp 47) (.tmp 49)) none,
  .mk (some 51) (.load 3 (.tmp 50)) none,
  .mk (some 52) (.move (.tmp 0)) none,
  .mk (some 53) (.move (.tmp 7)) none,
  .mk (some 54) (.indexAddr 22 (.tmp 52) (.tmp 53)) none,
  .mk (some 55) (.load 3 (.tmp 54)) none,
  .mk (some 56) (.indexAddr 22 (.tmp 42) (.tmp 43)) none,
  .mk none (.store 3 (.tmp 56) (.tmp 51)) none,
  .mk (some 57) (.indexAddr 22 (.tmp 44) (.tmp 46)) none,
  .mk none (.store 3 (.tmp 57) (.tmp 55)) none]
def r72_11 : List PS := [.mk (some 58) (.move (.tmp 7)) none,
  .mk (some 59) (.move (.tmp 1)) none,
  .mk (some 60) (.binOp .sub 3 (.tmp 58) (.tmp 59) 3) none,
  .mk (some 61) (.binOp .geq 3 (.tmp 60) (.const (.int .i64 2)) 3) none]
def r72_12 : List PS := [.mk (some 62) (.move (.tmp 7)) none,
  .mk (some 63) (.binOp .sub 3 (.tmp 62) (.const (.int .i64 1)) 3) none,
  .mk (some 9) (.assign (.tmp 63)) none]
def r72_13 : List PS := [.mk (some 64) (.move (.tmp 9)) none,
  .mk (some 65) (.binOp .geq 3 (.tmp 64) (.const (.int .i64 1)) 3) none]
def r72_14 : List PS := [.mk (some 68) (.move (.tmp 0)) none,
  .mk (some 69) (.move (.tmp 9)) none,
  .mk (some 70) (.indexAddr 22 (.tmp 68) (.tmp 69)) none,
  .mk (some 71) (.load 3 (.tmp 70)) none,
  .mk (some 72) (.move (.tmp 0)) none,
  .mk (some 73) (.move (.tmp 9)) none,
  .mk (some 74) (.binOp .sub 3 (.tmp 73) (.const (.int .i64 1)) 3) none,
  .mk (some 75) (.indexAddr 22 (.tmp 72) (.tmp 74)) none,
  .mk (some 76) (.load 3 (.tmp 75)) none,
  .mk (some 77) (.call ⟨(.value (.func 73)), #[(.tmp 71), (.tmp 76)], #[3, 3]⟩) none,
  .mk (some 78) (.unOp .not 4 (.tmp 77)) none]
def r72_15 : List PS := [.mk (some 79) (.move (.tmp 0)) none,
  .mk (some 80) (.move (.tmp 9)) none,
  .mk (some 81) (.move (.tmp 0)) none,
  .mk (some 82) (.move (.tmp 9)) none,
  .mk (some 83) (.binOp .sub 3 (.tmp 82) (.const (.int .i64 1)) 3) none,
  .mk (some 84) (.move (.tmp 0)) none,
  .mk (some 85) (.move (.tmp 9)) none,
  .mk (some 86) (.binOp .sub 3 (.tmp 85) (.const (.int .i64 1)) 3) none,
  .mk (some 87) (.indexAddr 22 (.tmp 84) (.tmp 86)) none,
  .mk (some 88) (.load 3 (.tmp 87)) none,
  .mk (some 89) (.move (.tmp 0)) none,
  .mk (some 90) (.move (.tmp 9)) none,
  .mk (some 91) (.indexAddr 22 (.tmp 89) (.tmp 90)) none,
  .mk (some 92) (.load 3 (.tmp 91)) none,
  .mk (some 93) (.indexAddr 22 (.tmp 79) (.tmp 80)) none,
  .mk none (.store 3 (.tmp 93) (.tmp 88)) none,
  .mk (some 94) (.indexAddr 22 (.tmp 81) (.tmp 83)) none,
  .mk none (.store 3 (.tmp 94) (.tmp 92)) none]
def r72_16 : List PS := [.mk (some 66) (.move (.tmp 9)) none,
  .mk (some 67) (.binOp .sub 3 (.tmp 66) (.const (.int .i64 1)) 3) none,
  .mk (some 9) (.assign (.tmp 67)) none]
def r72_17 : List PS := [.mk (some 95) (.move (.tmp 2)) none,
  .mk (some 96) (.move (.tmp 7)) none,
  .mk (some 97) (.binOp .sub 3 (.tmp 95) (.tmp 96) 3) none,
  .mk (some 98) (.binOp .geq 3 (.tmp 97) (.const (.int .i64 2)) 3) none]
def r72_18 : List PS := [.mk (some 99) (.move (.tmp 7)) none,
  .mk (some 100) (.binOp .add 3 (.tmp 99) (.const (.int .i64 1)) 3) none,
  .mk (some 10) (.assign (.tmp 100)) none]
def r72_19 : List PS := [.mk (some 101) (.move (.tmp 10)) none,
  .mk (some 102) (.move (.tmp 2)) none,
  .mk (some 103) (.binOp .lss 3 (.tmp 101) (.tmp 102) 3) none]
def r72_20 : List PS := [.mk (some 106) (.move (.tmp 0)) none,
  .mk (some 107) (.move (.tmp 10)) none,
  .mk (some 108) (.indexAddr 22 (.tmp 106) (.tmp 107)) none,
  .mk (some 109) (.load 3 (.tmp 108)) none,
  .mk (some 110) (.move (.tmp 0)) none,
  .mk (some 111) (.move (.tmp 10)) none,
  .mk (some 112) (.binOp .sub 3 (.tmp 111) (.const (.int .i64 1)) 3) none,
  .mk (some 113) (.indexAddr 22 (.tmp 110) (.tmp 112)) none,
  .mk (some 114) (.load 3 (.tmp 113)) none,
  .mk (some 115) (.call ⟨(.value (.func 73)), #[(.tmp 109), (.tmp 114)], #[3, 3]⟩) none,
  .mk (some 116) (.unOp .not 4 (.tmp 115)) none]
def r72_21 : List PS := [.mk (some 117) (.move (.tmp 0)) none,
  .mk (some 118) (.move (.tmp 10)) none,
  .mk (some 119) (.move (.tmp 0)) none,
  .mk (some 120) (.move (.tmp 10)) none,
  .mk (some 121) (.binOp .sub 3 (.tmp 120) (.const (.int .i64 1)) 3) none,
  .mk (some 122) (.move (.tmp 0)) none,
  .mk (some 123) (.move (.tmp 10)) none,
  .mk (some 124) (.binOp .sub 3 (.tmp 123) (.const (.int .i64 1)) 3) none,
  .mk (some 125) (.indexAddr 22 (.tmp 122) (.tmp 124)) none,
  .mk (some 126) (.load 3 (.tmp 125)) none,
  .mk (some 127) (.move (.tmp 0)) none,
  .mk (some 128) (.move (.tmp 10)) none,
  .mk (some 129) (.indexAddr 22 (.tmp 127) (.tmp 128)) none,
  .mk (some 130) (.load 3 (.tmp 129)) none,
  .mk (some 131) (.indexAddr 22 (.tmp 117) (.tmp 118)) none,
  .mk none (.store 3 (.tmp 131) (.tmp 126)) none,
  .mk (some 132) (.indexAddr 22 (.tmp 119) (.tmp 121)) none,
  .mk none (.store 3 (.tmp 132) (.tmp 130)) none]
def r72_22 : List PS := [.mk (some 104) (.move (.tmp 10)) none,
  .mk (some 105) (.binOp .add 3 (.tmp 104) (.const (.int .i64 1)) 3) none,
  .mk (some 10) (.assign (.tmp 105)) none]
def r72_23 : List PS := [.mk (some 15) (.move (.tmp 8)) none,
  .mk (some 16) (.binOp .add 3 (.tmp 15) (.const (.int .i64 1)) 3) none,
  .mk (some 8) (.assign (.tmp 16)) none]
def r72_24 : List PS := [.mk (some 6) (.assign (.const (.bool false))) none]
def c72 : PC := (.seq (.reg false r72_0) (.seq (.reg false r72_1) (.seq (.seq (.reg false r72_2) (.block 0 (.loop (.seq (.seq (.reg false r72_3) (.cond (.tmp 14) .skip (.exit 0))) (.seq (.block 1 (.seq (.block 2 (.loop (.seq (.seq (.reg true r72_4) (.cond (.tmp 32) .skip (.exit 2))) (.block 3 (.reg false r72_5))))) (.seq (.seq (.reg false r72_6) (.cond (.tmp 37) (.seq (.reg false r72_7) .ret) .skip)) (.seq (.seq (.reg false r72_8) (.cond (.tmp 41) (.seq (.reg false r72_9) .ret) .skip)) (.seq (.reg true r72_10) (.seq (.seq (.reg false r72_11) (.cond (.tmp 61) (.seq (.reg false r72_12) (.block 4 (.loop (.seq (.seq (.reg false r72_13) (.cond (.tmp 65) .skip (.exit 4))) (.seq (.block 5 (.seq (.seq (.reg true r72_14) (.cond (.tmp 78) (.exit 4) .skip)) (.reg true r72_15))) (.reg false r72_16)))))) .skip)) (.seq (.reg false r72_17) (.cond (.tmp 98) (.seq (.reg false r72_18) (.block 6 (.loop (.seq (.seq (.reg false r72_19) (.cond (.tmp 103) .skip (.exit 6))) (.seq (.block 7 (.seq (.seq (.reg true r72_20) (.cond (.tmp 116) (.exit 6) .skip)) (.reg true r72_21))) (.reg false r72_22)))))) .skip)))))))) (.reg false r72_23)))))) (.seq (.reg false r72_24) .ret))))
theorem e72 {args : List PV} {h : Heap} {K : PV → Heap → Prop} (hl : args.length = 3) (s : pwp Try.prog [] c72 (fin Try.prog [.tmp 6] h K) (slots0 (olds args)) h) : CanP Try.prog 72 args h K :=
  can_of2 (n := 133) mixed Try.func72 rfl (by kernel_rfl) (by rw [hl]; kernel_rfl) rfl (by kernel_rfl) s
/-! ### slices.partitionEqualOrdered[int]: function 74 -/
def r74_0 : List PS := [.mk (some 8) (.assign (.const (.int .i64 0))) none]
def r74_1 : List PS := [.mk (some 11) (.move (.tmp 0)) none,
  .mk (some 12) (.move (.tmp 1)) none,
  .mk (some 13) (.move (.tmp 0)) none,
  .mk (some 14) (.move (.tmp 3)) none,
  .mk (some 15) (.move (.tmp 0)) none,
  .mk (some 16) (.move (.tmp 3)) none,
  .mk (some 17) (.indexAddr 22 (.tmp 15) (.tmp 16)) none,
  .mk (some 18) (.load 3 (.tmp 17)) none,
  .mk (some 19) (.move (.tmp 0)) none,
  .mk (some 20) (.move (.tmp 1)) none,
  .mk (some 21) (.indexAddr 22 (.tmp 19) (.tmp 20)) none,
  .mk (some 22) (.load 3 (.tmp 21)) none,
  .mk (some 23) (.indexAddr 22 (.tmp 11) (.tmp 12)) none,
  .mk none (.store 3 (.tmp 23) (.tmp 18)) none,
  .mk (some 24) (.indexAddr 22 (.tmp 13) (.tmp 14)) none,
  .mk none (.store 3 (.tmp 24) (.tmp 22)) none]
def r74_2 : List PS := [.mk (some 25) (.move (.tmp 1)) none,
  .mk (some 26) (.binOp .add 3 (.tmp 25) (.const (.int .i64 1)) 3) none,
  .mk (some 27) (.move (.tmp 2)) none,
  .mk (some 28) (.binOp .sub 3 (.tmp 27) (.const (.int .i64 1)) 3) none,
  .mk (some 9) (.assign (.tmp 26)) none,
  .mk (some 10) (.assign (.tmp 28)) none]
def r74_3 : List PS := [.mk (some 29) (.move (.tmp 9)) none,
  .mk (some 30) (.move (.tmp 10)) none,
  .mk (some 31) (.binOp .leq 3 (.tmp 29) (.tmp 30) 3) none,
  .mk (some 32) (.move (.tmp 31)) none,
  .mk (some 33) (.move (.tmp 0)) (some (32, true)),
  .mk (some 34) (.move (.tmp 1)) (some (32, true)),
  .mk (some 35) (.indexAddr 22 (.tmp 33) (.tmp 34)) (some (32, true)),
  .mk (some 36) (.load 3 (.tmp 35)) (some (32, true)),
  .mk (some 37) (.move (.tmp 0)) (some (32, true)),
  .mk (some 38) (.move (.tmp 9)) (some (32, true)),
  .mk (some 39) (.indexAddr 22 (.tmp 37) (.tmp 38)) (some (32, true)),
  .mk (some 40) (.load 3 (.tmp 39)) (some (32, true)),
  .mk (some 41) (.call ⟨(.value (.func 73)), #[(.tmp 36), (.tmp 40)], #[3, 3]⟩) (some (32, true)),
  .mk (some 42) (.unOp .not 4 (.tmp 41)) (some (32, true)),
  .mk (some 43) (.pick (.tmp 32) (.tmp 42) (.const (.bool false))) none]
def r74_4 : List PS := [.mk (some 44) (.move (.tmp 9)) none,
  .mk (some 45) (.binOp .add 3 (.tmp 44) (.const (.int .i64 1)) 3) none,
  .mk (some 9) (.assign (.tmp 45)) none]
def r74_5 : List PS := [.mk (some 46) (.move (.tmp 9)) none,
  .mk (some 47) (.move (.tmp 10)) none,
  .mk (some 48) (.binOp .leq 3 (.tmp 46) (.tmp 47) 3) none,
  .mk (some 49) (.move (.tmp 48)) none,
  .mk (some 50) (.move (.tmp 0)) (some (49, true)),
  .mk (some 51) (.move (.tmp 1)) (some (49, true)),
  .mk (some 52) (.indexAddr 22 (.tmp 50) (.tmp 51)) (some (49, true)),
  .mk (some 53) (.load 3 (.tmp 52)) (some (49, true)),
  .mk (some 54) (.move (.tmp 0)) (some (49, true)),
  .mk (some 55) (.move (.tmp 10)) (some (49, true)),
  .mk (some 56) (.indexAddr 22 (.tmp 54) (.tmp 55)) (some (49, true)),
  .mk (some 57) (.load 3 (.tmp 56)) (some (49, true)),
  .mk (some 58) (.call ⟨(.value (.func 73)), #[(.tmp 53), (.tmp 57)], #[3, 3]⟩) (some (49, true)),
  .mk (some 59) (.pick (.tmp 49) (.tmp 58) (.const (.bool false))) none]
def r74_6 : List PS := [.mk (some 60) (.move (.tmp 10)) none,
  .mk (some 61) (.binOp .sub 3 (.tmp 60) (.const (.int .i64 1)) 3) none,
  .mk (some 10) (.assign (.tmp 61)) none]
def r74_7 : List PS := [.mk (some 62) (.move (.tmp 9)) none,
  .mk (some 63) (.move (.tmp 10)) none,
  .mk (some 64) (.binOp .gtr 3 (.tmp 62) (.tmp 63) 3) none]
def r74_8 : List PS := [.mk (some 65) (.move (.tmp 0)) none,
  .mk (some 66) (.move (.tmp 9)) none,
  .mk (some 67) (.move (.tmp 0)) none,
  .mk (some 68) (.move (.tmp 10)) none,
  .mk (some 69) (.move (.tmp 0)) none,
  .mk (some 70) (.move (.tmp 10)) none,
  .mk (some 71) (.indexAddr 22 (.tmp 69) (.tmp 70)) none,
  .mk (some 72) (.load 3 (.tmp 71)) none,
  .mk (some 73) (.move (.tmp 0)) none,
  .mk (some 74) (.move (.tmp 9)) none,
  .mk (some 75) (.indexAddr 22 (.tmp 73) (.tmp 74)) none,
  .mk (some 76) (.load 3 (.tmp 75)) none,
  .mk (some 77) (.indexAddr 22 (.tmp 65) (.tmp 66)) none,
  .mk none (.store 3 (.tmp 77) (.tmp 72)) none,
  .mk (some 78) (.indexAddr 22 (.tmp 67) (.tmp 68)) none,
  .mk none (.store 3 (.tmp 78) (.tmp 76)) none]
def r74_9 : List PS := [.mk (some 79) (.move (.tmp 9)) none,
  .mk (some 80) (.binOp .add 3 (.tmp 79) (.const (.int .i64 1)) 3) none,
  .mk (some 9) (.assign (.tmp 80)) none]
def r74_10 : List PS := [.mk (some 81) (.move (.tmp 10)) none,
  .mk (some 82) (.binOp .sub 3 (.tmp 81) (.const (.int .i64 1)) 3) none,
  .mk (some 10) (.assign (.tmp 82)) none]
def r74_11 : List PS := [.mk (some 83) (.move (.tmp 9)) none,
  .mk (some 8) (.assign (.tmp 83)) none]
def c74 : PC := (.seq (.reg false r74_0) (.seq (.reg true r74_1) (.seq (.reg false r74_2) (.seq (.block 0 (.loop (.block 1 (.seq (.block 2 (.loop (.seq (.seq (.reg true r74_3) (.cond (.tmp 43) .skip (.exit 2))) (.block 3 (.reg false r74_4))))) (.seq (.block 4 (.loop (.seq (.seq (.reg true r74_5) (.cond (.tmp 59) .skip (.exit 4))) (.block 5 (.reg false r74_6))))) (.seq (.seq (.reg false r74_7) (.cond (.tmp 64) (.exit 0) .skip)) (.seq (.reg true r74_8) (.seq (.reg false r74_9) (.reg false r74_10))))))))) (.seq (.reg false r74_11) .ret)))))
theorem e74 {args : List PV} {h : Heap} {K : PV → Heap → Prop} (hl : args.length = 4) (s : pwp Try.prog [] c74 (fin Try.prog [.tmp 8] h K) (slots0 (olds args)) h) : CanP Try.prog 74 args h K :=
  can_of2 (n := 84) mixed Try.func74 rfl (by kernel_rfl) (by rw [hl]; kernel_rfl) rfl (by kernel_rfl) s
/-! ### slices.partitionOrdered[int]: function 75 -/
def r75_0 : List PS := [.mk (some 8) (.assign (.const (.int .i64 0))) none,
  .mk (some 9) (.assign (.const (.bool false))) none]
def r75_1 : List PS := [.mk (some 12) (.move (.tmp 0)) none,
  .mk (some 13) (.move (.tmp 1)) none,
  .mk (some 14) (.move (.tmp 0)) none,
  .mk (some 15) (.move (.tmp 3)) none,
  .mk (some 16) (.move (.tmp 0)) none,
  .mk (some 17) (.move (.tmp 3)) none,
  .mk (some 18) (.indexAddr 22 (.tmp 16) (.tmp 17)) none,
  .mk (some 19) (.load 3 (.tmp 18)) none,
  .mk (some 20) (.move (.tmp 0)) none,
  .mk (some 21) (.move (.tmp 1)) none,
  .mk (some 22) (.indexAddr 22 (.tmp 20) (.tmp 21)) none,
  .mk (some 23) (.load 3 (.tmp 22)) none,
  .mk (some 24) (.indexAddr 22 (.tmp 12) (.tmp 13)) none,
  .mk none (.store 3 (.tmp 24) (.tmp 19)) none,
  .mk (some 25) (.indexAddr 22 (.tmp 14) (.tmp 15)) none,
  .mk none (.store 3 (.tmp 25) (.tmp 23)) none]
def r75_2 : List PS := [.mk (some 26) (.move (.tmp 1)) none,
  .mk (some 27) (.binOp .add 3 (.tmp 26) (.const (.int .i64 1)) 3) none,
  .mk (some 28) (.move (.tmp 2)) none,
  .mk (some 29) (.binOp .sub 3 (.tmp 28) (.const (.int .i64 1)) 3) none,
  .mk (some 10) (.assign (.tmp 27)) none,
  .mk (some 11) (.assign (.tmp 29)) none]
def r75_3 : List PS := [.mk (some 30) (.move (.tmp 10)) none,
  .mk (some 31) (.move (.tmp 11)) none,
  .mk (some 32) (.binOp .leq 3 (.tmp 30) (.tmp 31) 3) none,
  .mk (some 33) (.move (.tmp 32)) none,
  .mk (some 34) (.move (.tmp 0)) (some (33, true)),
  .mk (some 35) (.move (.tmp 10)) (some (33, true)),
  .mk (some 36) (.indexAddr 22 (.tmp 34) (.tmp 35)) (some (33, true)),
  .mk (some 37) (.load 3 (.tmp 36)) (some (33, true)),
  .mk (some 38) (.move (.tmp 0)) (some (33, true)),
  .mk (some 39) (.move (.tmp 1)) (some (33, true)),
  .mk (some 40) (.indexAddr 22 (.tmp 38) (.tmp 39)) (some (33, true)),
  .mk (some 41) (.load 3 (.tmp 40)) (some (33, true)),
  .mk (some 42) (.call ⟨(.value (.func 73)), #[(.tmp 37), (.tmp 41)], #[3, 3]⟩) (some (33, true)),
  .mk (some 43) (.pick (.tmp 33) (.tmp 42) (.const (.bool false))) none]
def r75_4 : List PS := [.mk (some 44) (.move (.tmp 10)) none,
  .mk (some 45) (.binOp .add 3 (.tmp 44) (.const (.int .i64 1)) 3) none,
  .mk (some 10) (.assign (.tmp 45)) none]
def r75_5 : List PS := [.mk (some 46) (.move (.tmp 10)) none,
  .mk (some 47) (.move (.tmp 11)) none,
  .mk (some 48) (.binOp .leq 3 (.tmp 46) (.tmp 47) 3) none,
  .mk (some 49) (.move (.tmp 48)) none,
  .mk (some 50) (.move (.tmp 0)) (some (49, true)),
  .mk (some 51) (.move (.tmp 11)) (some (49, true)),
  .mk (some 52) (.indexAddr 22 (.tmp 50) (.tmp 51)) (some (49, true)),
  .mk (some 53) (.load 3 (.tmp 52)) (some (49, true)),
  .mk (some 54) (.move (.tmp 0)) (some (49, true)),
  .mk (some 55) (.move (.tmp 1)) (some (49, true)),
  .mk (some 56) (.indexAddr 22 (.tmp 54) (.tmp 55)) (some (49, true)),
  .mk (some 57) (.load 3 (.tmp 56)) (some (49, true)),
  .mk (some 58) (.call ⟨(.value (.func 73)), #[(.tmp 53), (.tmp 57)], #[3, 3]⟩) (some (49, true)),
  .mk (some 59) (.unOp .not 4 (.tmp 58)) (some (49, true)),
  .mk (some 60) (.pick (.tmp 49) (.tmp 59) (.const (.bool false))) none]
def r75_6 : List PS := [.mk (some 61) (.move (.tmp 11)) none,
  .mk (some 62) (.binOp .sub 3 (.tmp 61) (.const (.int .i64 1)) 3) none,
  .mk (some 11) (.assign (.tmp 62)) none]
def r75_7 : List PS := [.mk (some 63) (.move (.tmp 10)) none,
  .mk (some 64) (.move (.tmp 11)) none,
  .mk (some 65) (.binOp .gtr 3 (.tmp 63) (.tmp 64) 3) none]
def r75_8 : List PS := [.mk (some 66) (.move (.tmp 0)) none,
  .mk (some 67) (.move (.tmp 11)) none,
  .mk (some 68) (.move (.tmp 0)) none,
  .mk (some 69) (.move (.tmp 1)) none,
  .mk (some 70) (.move (.tmp 0)) none,
  .mk (some 71) (.move (.tmp 1)) none,
  .mk (some 72) (.indexAddr 22 (.tmp 70) (.tmp 71)) none,
  .mk (some 73) (.load 3 (.tmp 72)) none,
  .mk (some 74) (.move (.tmp 0)) none,
  .mk (some 75) (.move (.tmp 11)) none,
  .mk (some 76) (.indexAddr 22 (.tmp 74) (.tmp 75)) none,
  .mk (some 77) (.load 3 (.tmp 76)) none,
  .mk (some 78) (.indexAddr 22 (.tmp 66) (.tmp 67)) none,
  .mk none (.store 3 (.tmp 78) (.tmp 73)) none,
  .mk (some 79) (.indexAddr 22 (.tmp 68) (.tmp 69)) none,
  .mk none (.store 3 (.tmp 79) (.tmp 77)) none]
def r75_9 : List PS := [.mk (some 80) (.move (.tmp 11)) none,
  .mk (some 8) (.assign (.tmp 80)) none,
  .mk (some 9) (.assign (.const (.bool true))) none]
def r75_10 : List PS := [.mk (some 81) (.move (.tmp 0)) none,
  .mk (some 82) (.move (.tmp 10)) none,
  .mk (some 83) (.move (.tmp 0)) none,
  .mk (some 84) (.move (.tmp 11)) none,
  .mk (some 85) (.move (.tmp 0)) none,
  .mk (some 86) (.move (.tmp 11)) none,
  .mk (some 87) (.indexAddr 22 (.tmp 85) (.tmp 86)) none,
  .mk (some 88) (.load 3 (.tmp 87)) none,
  .mk (some 89) (.move (.tmp 0)) none,
  .mk (some 90) (.move (.tmp 10)) none,
  .mk (some 91) (.indexAddr 22 (.tmp 89) (.tmp 90)) none,
  .mk (some 92) (.load 3 (.tmp 91)) none,
  .mk (some 93) (.indexAddr 22 (.tmp 81) (.tmp 82)) none,
  .mk none (.store 3 (.tmp 93) (.tmp 88)) none,
  .mk (some 94) (.indexAddr 22 (.tmp 83) (.tmp 84)) none,
  .mk none (.store 3 (.tmp 94) (.tmp 92)) none]
def r75_11 : List PS := [.mk (some 95) (.move (.tmp 10)) none,
  .mk (some 96) (.binOp .add 3 (.tmp 95) (.const (.int .i64 1)) 3) none,
  .mk (some 10) (.assign (.tmp 96)) none]
def r75_12 : List PS := [.mk (some 97) (.move (.tmp 11)) none,
  .mk (some 98) (.binOp .sub 3 (.tmp 97) (.const (.int .i64 1)) 3) none,
  .mk (some 11) (.assign (.tmp 98)) none]
def r75_13 : List PS := [.mk (some 99) (.move (.tmp 10)) none,
  .mk (some 100) (.move (.tmp 11)) none,
  .mk (some 101) (.binOp .leq 3 (.tmp 99) (.tmp 100) 3) none,
  .mk (some 102) (.move (.tmp 101)) none,
  .mk (some 103) (.move (.tmp 0)) (some (102, true)),
  .mk (some 104) (.move (.tmp 10)) (some (102, true)),
  .mk (some 105) (.indexAddr 22 (.tmp 103) (.tmp 104)) (some (102, true)),
  .mk (some 106) (.load 3 (.tmp 105)) (some (102, true)),
  .mk (some 107) (.move (.tmp 0)) (some (102, true)),
  .mk (some 108) (.move (.tmp 1)) (some (102, true)),
  .mk (some 109) (.indexAddr 22 (.tmp 107) (.tmp 108)) (some (102, true)),
  .mk (some 110) (.load 3 (.tmp 109)) (some (102, true)),
  .mk (some 111) (.call ⟨(.value (.func 73)), #[(.tmp 106), (.tmp 110)], #[3, 3]⟩) (some (102, true)),
  .mk (some 112) (.pick (.tmp 102) (.tmp 111) (.const (.bool false))) none]
def r75_14 : List PS := [.mk (some 113) (.move (.tmp 10)) none,
  .mk (some 114) (.binOp .add 3 (.tmp 113) (.const (.int .i64 1)) 3) none,
  .mk (some 10) (.assign (.tmp 114)) none]
def r75_15 : List PS := [.mk (some 115) (.move (.tmp 10)) none,
  .mk (some 116) (.move (.tmp 11)) none,
  .mk (some 117) (.binOp .leq 3 (.tmp 115) (.tmp 116) 3) none,
  .mk (some 118) (.move (.tmp 117)) none,
  .mk (some 119) (.move (.tmp 0)) (some (118, true)),
  .mk (some 120) (.move (.tmp 11)) (some (118, true)),
  .mk (some 121) (.indexAddr 22 (.tmp 119) (.tmp 120)) (some (118, true)),
  .mk (some 122) (.load 3 (.tmp 121)) (some (118, true)),
  .mk (some 123) (.move (.tmp 0)) (some (118, true)),
  .mk (some 124) (.move (.tmp 1)) (some (118, true)),
  .mk (some 125) (.indexAddr 22 (.tmp 123) (.tmp 124)) (some (118, true)),
  .mk (some 126) (.load 3 (.tmp 125)) (some (118, true)),
  .mk (some 127) (.call ⟨(.value (.func 73)), #[(.tmp 122), (.tmp 126)], #[3, 3]⟩) (some (118, true)),
  .mk (some 128) (.unOp .not 4 (.tmp 127)) (some (118, true)),
  .mk (some 129) (.pick (.tmp 118) (.tmp 128) (.const (.bool false))) none]
def r75_16 : List PS := [.mk (some 130) (.move (.tmp 11)) none,
  .mk (some 131) (.binOp .sub 3 (.tmp 130) (.const (.int .i64 1)) 3) none,
  .mk (some 11) (.assign (.tmp 131)) none]
def r75_17 : List PS := [.mk (some 132) (.move (.tmp 10)) none,
  .mk (some 133) (.move (.tmp 11)) none,
  .mk (some 134) (.binOp .gtr 3 (.tmp 132) (.tmp 133) 3) none]
def r75_18 : List PS := [.mk (some 135) (.move (.tmp 0)) none,
  .mk (some 136) (.move (.tmp 10)) none,
  .mk (some 137) (.move (.tmp 0)) none,
  .mk (some 138) (.move (.tmp 11)) none,
  .mk (some 139) (.move (.tmp 0)) none,
  .mk (some 140) (.move (.tmp 11)) none,
  .mk (some 141) (.indexAddr 22 (.tmp 139) (.tmp 140)) none,
  .mk (some 142) (.load 3 (.tmp 141)) none,
  .mk (some 143) (.move (.tmp 0)) none,
  .mk (some 144) (.move (.tmp 10)) none,
  .mk (some 145) (.indexAddr 22 (.tmp 143) (.tmp 144)) none,
  .mk (some 146) (.load 3 (.tmp 145)) none,
  .mk (some 147) (.indexAddr 22 (.tmp 135) (.tmp 136)) none,
  .mk none (.store 3 (.tmp 147) (.tmp 142)) none,
  .mk (some 148) (.indexAddr 22 (.tmp 137) (.tmp 138)) none,
  .mk none (.store 3 (.tmp 148) (.tmp 146)) none]
def r75_19 : List PS := [.mk (some 149) (.move (.tmp 10)) none,
  .mk (some 150) (.binOp .add 3 (.tmp 149) (.const (.int .i64 1)) 3) none,
  .mk (some 10) (.assign (.tmp 150)) none]
def r75_20 : List PS := [.mk (some 151) (.move (.tmp 11)) none,
  .mk (some 152) (.binOp .sub 3 (.tmp 151) (.const (.int .i64 1)) 3) none,
  .mk (some 11) (.assign (.tmp 152)) none]
def r75_21 : List PS := [.mk (some 153) (.move (.tmp 0)) none,
  .mk (some 154) (.move (.tmp 11)) none,
  .mk (some 155) (.move (.tmp 0)) none,
  .mk (some 156) (.move (.tmp 1)) none,
  .mk (some 157) (.move (.tmp 0)) none,
  .mk (some 158) (.move (.tmp 1)) none,
  .mk (some 159) (.indexAddr 22 (.tmp 157) (.tmp 158)) none,
  .mk (some 160) (.load 3 (.tmp 159)) none,
  .mk (some 161) (.move (.tmp 0)) none,
  .mk (some 162) (.move (.tmp 11)) none,
  .mk (some 163) (.indexAddr 22 (.tmp 161) (.tmp 162)) none,
  .mk (some 164) (.load 3 (.tmp 163)) none,
  .mk (some 165) (.indexAddr 22 (.tmp 153) (.tmp 154)) none,
  .mk none (.store 3 (.tmp 165) (.tmp 160)) none,
  .mk (some 166) (.indexAddr 22 (.tmp 155) (.tmp 156)) none,
  .mk none (.store 3 (.tmp 166) (.tmp 164)) none]
def r75_22 : List PS := [.mk (some 167) (.move (.tmp 11)) none,
  .mk (some 8) (.assign (.tmp 167)) none,
  .mk (some 9) (.assign (.const (.bool false))) none]
def c75 : PC := (.seq (.reg false r75_0) (.seq (.reg true r75_1) (.seq (.reg false r75_2) (.seq (.block 0 (.loop (.seq (.seq (.reg true r75_3) (.cond (.tmp 43) .skip (.exit 0))) (.block 1 (.reg false r75_4))))) (.seq (.block 2 (.loop (.seq (.seq (.reg true r75_5) (.cond (.tmp 60) .skip (.exit 2))) (.block 3 (.reg false r75_6))))) (.seq (.seq (.reg false r75_7) (.cond (.tmp 65) (.seq (.reg true r75_8) (.seq (.reg false r75_9) .ret)) .skip)) (.seq (.reg true r75_10) (.seq (.reg false r75_11) (.seq (.reg false r75_12) (.seq (.block 4 (.loop (.block 5 (.seq (.block 6 (.loop (.seq (.seq (.reg true r75_13) (.cond (.tmp 112) .skip (.exit 6))) (.block 7 (.reg false r75_14))))) (.seq (.block 8 (.loop (.seq (.seq (.reg true r75_15) (.cond (.tmp 129) .skip (.exit 8))) (.block 9 (.reg false r75_16))))) (.seq (.seq (.reg false r75_17) (.cond (.tmp 134) (.exit 4) .skip)) (.seq (.reg true r75_18) (.seq (.reg false r75_19) (.reg false r75_20))))))))) (.seq (.reg true r75_21) (.seq (.reg false r75_22) .ret))))))))))))
theorem e75 {args : List PV} {h : Heap} {K : PV → Heap → Prop} (hl : args.length = 4) (s : pwp Try.prog [] c75 (fin Try.prog [.tmp 8, .tmp 9] h K) (slots0 (olds args)) h) : CanP Try.prog 75 args h K :=
  can_of2 (n := 168) mixed Try.func75 rfl (by kernel_rfl) (by rw [hl]; kernel_rfl) rfl (by kernel_rfl) s
/-! ### slices.pdqsortOrdered[int]: function 46 -/
def r46_0 : List PS := [.mk (some 8) (.assign (.const (.bool true))) none]
def r46_1 : List PS := [.mk (some 9) (.assign (.const (.bool true))) none]
def r46_2 : List PS := [.mk (some 19) (.move (.tmp 2)) none,
  .mk (some 20) (.move (.tmp 1)) none,
  .mk (some 21) (.binOp .sub 3 (.tmp 19) (.tmp 20) 3) none,
  .mk (some 10) (.assign (.tmp 21)) none]
def r46_3 : List PS := [.mk (some 22) (.move (.tmp 10)) none,
  .mk (some 23) (.binOp .leq 3 (.tmp 22) (.const (.int .i64 12)) 3) none]
def r46_4 : List PS := [.mk (some 24) (.move (.tmp 0)) none,
  .mk (some 25) (.move (.tmp 1)) none,
  .mk (some 26) (.move (.tmp 2)) none,
  .mk (some 27) (.call ⟨(.value (.func 67)), #[(.tmp 24), (.tmp 25), (.tmp 26)], #[22, 3, 3]⟩) none]
def r46_5 : List PS := [.mk (some 28) (.move (.tmp 3)) none,
  .mk (some 29) (.binOp .eql 3 (.tmp 28) (.const (.int .i64 0)) 3) none]
def r46_6 : List PS := [.mk (some 30) (.move (.tmp 0)) none,
  .mk (some 31) (.move (.tmp 1)) none,
  .mk (some 32) (.move (.tmp 2)) none,
  .mk (some 33) (.call ⟨(.value (.func 68)), #[(.tmp 30), (.tmp 31), (.tmp 32)], #[22, 3, 3]⟩) none]
def r46_7 : List PS := [.mk (some 34) (.move (.tmp 8)) none,
  .mk (some 35) (.unOp .not 4 (.tmp 34)) none]
def r46_8 : List PS := [.mk (some 36) (.move (.tmp 0)) none,
  .mk (some 37) (.move (.tmp 1)) none,
  .mk (some 38) (.move (.tmp 2)) none,
  .mk (some 39) (.call ⟨(.value (.func 69)), #[(.tmp 36), (.tmp 37), (.tmp 38)], #[22, 3, 3]⟩) none]
def r46_9 : List PS := [.mk (some 40) (.move (.tmp 3)) none,
  .mk (some 41) (.binOp .sub 3 (.tmp 40) (.const (.int .i64 1)) 3) none,
  .mk (some 3) (.assign (.tmp 41)) none]
def r46_10 : List PS := [.mk (some 43) (.move (.tmp 0)) none,
  .mk (some 44) (.move (.tmp 1)) none,
  .mk (some 45) (.move (.tmp 2)) none,
  .mk (some 46) (.call ⟨(.value (.func 70)), #[(.tmp 43), (.tmp 44), (.tmp 45)], #[22, 3, 3]⟩) none,
  .mk (some 42) (.move (.tmp 46)) none,
  .mk (some 47) (.extract (.tmp 42) 0) none,
  .mk (some 48) (.extract (.tmp 42) 1) none,
  .mk (some 11) (.assign (.tmp 47)) none,
  .mk (some 12) (.assign (.tmp 48)) none]
def r46_11 : List PS := [.mk (some 49) (.move (.tmp 12)) none,
  .mk (some 50) (.binOp .eql 94 (.tmp 49) (.const (.int .i64 2)) 94) none]
def r46_12 : List PS := [.mk (some 51) (.move (.tmp 0)) none,
  .mk (some 52) (.move (.tmp 1)) none,
  .mk (some 53) (.move (.tmp 2)) none,
  .mk (some 54) (.call ⟨(.value (.func 71)), #[(.tmp 51), (.tmp 52), (.tmp 53)], #[22, 3, 3]⟩) none]
def r46_13 : List PS := [.mk (some 55) (.move (.tmp 2)) none,
  .mk (some 56) (.binOp .sub 3 (.tmp 55) (.const (.int .i64 1)) 3) none,
  .mk (some 57) (.move (.tmp 11)) none,
  .mk (some 58) (.move (.tmp 1)) none,
  .mk (some 59) (.binOp .sub 3 (.tmp 57) (.tmp 58) 3) none,
  .mk (some 60) (.binOp .sub 3 (.tmp 56) (.tmp 59) 3) none,
  .mk (some 11) (.assign (.tmp 60)) none]
def r46_14 : List PS := [.mk (some 12) (.assign (.const (.int .i64 1))) none]
def r46_15 : List PS := [.mk (some 61) (.move (.tmp 8)) none,
  .mk (some 62) (.move (.tmp 61)) none,
  .mk (some 63) (.move (.tmp 9)) (some (62, true)),
  .mk (some 64) (.pick (.tmp 62) (.tmp 63) (.const (.bool false))) none,
  .mk (some 65) (.move (.tmp 64)) none,
  .mk (some 66) (.move (.tmp 12)) (some (65, true)),
  .mk (some 67) (.binOp .eql 94 (.tmp 66) (.const (.int .i64 1)) 94) (some (65, true)),
  .mk (some 68) (.pick (.tmp 65) (.tmp 67) (.const (.bool false))) none]
def r46_16 : List PS := [.mk (some 69) (.move (.tmp 0)) none,
  .mk (some 70) (.move (.tmp 1)) none,
  .mk (some 71) (.move (.tmp 2)) none,
  .mk (some 72) (.call ⟨(.value (.func 72)), #[(.tmp 69), (.tmp 70), (.tmp 71)], #[22, 3, 3]⟩) none]
def r46_17 : List PS := [.mk (some 73) (.move (.tmp 1)) none,
  .mk (some 74) (.binOp .gtr 3 (.tmp 73) (.const (.int .i64 0)) 3) none,
  .mk (some 75) (.move (.tmp 74)) none,
  .mk (some 76) (.move (.tmp 0)) (some (75, true)),
  .mk (some 77) (.move (.tmp 1)) (some (75, true)),
  .mk (some 78) (.binOp .sub 3 (.tmp 77) (.const (.int .i64 1)) 3) (some (75, true)),
  .mk (some 79) (.indexAddr 22 (.tmp 76) (.tmp 78)) (some (75, true)),
  .mk (some 80) (.load 3 (.tmp 79)) (some (75, true)),
  .mk (some 81) (.move (.tmp 0)) (some (75, true)),
  .mk (some 82) (.move (.tmp 11)) (some (75, true)),
  .mk (some 83) (.indexAddr 22 (.tmp 81) (.tmp 82)) (some (75, true)),
  .mk (some 84) (.load 3 (.tmp 83)) (some (75, true)),
  .mk (some 85) (.call ⟨(.value (.func 73)), #[(.tmp 80), (.tmp 84)], #[3, 3]⟩) (some (75, true)),
  .mk (some 86) (.unOp .not 4 (.tmp 85)) (some (75, true)),
  .mk (some 87) (.pick (.tmp 75) (.tmp 86) (.const (.bool false))) none]
def r46_18 : List PS := [.mk (some 88) (.move (.tmp 0)) none,
  .mk (some 89) (.move (.tmp 1)) none,
  .mk (some 90) (.move (.tmp 2)) none,
  .mk (some 91) (.move (.tmp 11)) none,
  .mk (some 92) (.call ⟨(.value (.func 74)), #[(.tmp 88), (.tmp 89), (.tmp 90), (.tmp 91)], #[22, 3, 3, 3]⟩) none,
  .mk (some 13) (.assign (.tmp 92)) none]
def r46_19 : List PS := [.mk (some 93) (.move (.tmp 13)) none,
  .mk (some 1) (.assign (.tmp 93)) none]
def r46_20 : List PS := [.mk (some 95) (.move (.tmp 0)) none,
  .mk (some 96) (.move (.tmp 1)) none,
  .mk (some 97) (.move (.tmp 2)) none,
  .mk (some 98) (.move (.tmp 11)) none,
  .mk (some 99) (.call ⟨(.value (.func 75)), #[(.tmp 95), (.tmp 96), (.tmp 97), (.tmp 98)], #[22, 3, 3, 3]⟩) none,
  .mk (some 94) (.move (.tmp 99)) none,
  .mk (some 100) (.extract (.tmp 94) 0) none,
  .mk (some 101) (.extract (.tmp 94) 1) none,
  .mk (some 14) (.assign (.tmp 100)) none,
  .mk (some 15) (.assign (.tmp 101)) none]
def r46_21 : List PS := [.mk (some 102) (.move (.tmp 15)) none,
  .mk (some 9) (.assign (.tmp 102)) none]
def r46_22 : List PS := [.mk (some 103) (.move (.tmp 14)) none,
  .mk (some 104) (.move (.tmp 1)) none,
  .mk (some 105) (.binOp .sub 3 (.tmp 103) (.tmp 104) 3) none,
  .mk (some 106) (.move (.tmp 2)) none,
  .mk (some 107) (.move (.tmp 14)) none,
  .mk (some 108) (.binOp .sub 3 (.tmp 106) (.tmp 107) 3) none,
  .mk (some 16) (.assign (.tmp 105)) none,
  .mk (some 17) (.assign (.tmp 108)) none]
def r46_23 : List PS := [.mk (some 109) (.move (.tmp 10)) none,
  .mk (some 110) (.binOp .quo 3 (.tmp 109) (.const (.int .i64 8)) 3) none,
  .mk (some 18) (.assign (.tmp 110)) none]
def r46_24 : List PS := [.mk (some 111) (.move (.tmp 16)) none,
  .mk (some 112) (.move (.tmp 17)) none,
  .mk (some 113) (.binOp .lss 3 (.tmp 111) (.tmp 112) 3) none]
def r46_25 : List PS := [.mk (some 114) (.move (.tmp 16)) none,
  .mk (some 115) (.move (.tmp 18)) none,
  .mk (some 116) (.binOp .geq 3 (.tmp 114) (.tmp 115) 3) none,
  .mk (some 8) (.assign (.tmp 116)) none]
def r46_26 : List PS := [.mk (some 117) (.move (.tmp 0)) none,
  .mk (some 118) (.move (.tmp 1)) none,
  .mk (some 119) (.move (.tmp 14)) none,
  .mk (some 120) (.move (.tmp 3)) none,
  .mk (some 121) (.call ⟨(.value (.func 46)), #[(.tmp 117), (.tmp 118), (.tmp 119), (.tmp 120)], #[22, 3, 3, 3]⟩) none]
def r46_27 : List PS := [.mk (some 122) (.move (.tmp 14)) none,
  .mk (some 123) (.binOp .add 3 (.tmp 122) (.const (.int .i64 1)) 3) none,
  .mk (some 1) (.assign (.tmp 123)) none]
def r46_28 : List PS := [.mk (some 124) (.move (.tmp 17)) none,
  .mk (some 125) (.move (.tmp 18)) none,
  .mk (some 126) (.binOp .geq 3 (.tmp 124) (.tmp 125) 3) none,
  .mk (some 8) (.assign (.tmp 126)) none]
def r46_29 : List PS := [.mk (some 127) (.move (.tmp 0)) none,
  .mk (some 128) (.move (.tmp 14)) none,
  .mk (some 129) (.binOp .add 3 (.tmp 128) (.const (.int .i64 1)) 3) none,
  .mk (some 130) (.move (.tmp 2)) none,
  .mk (some 131) (.move (.tmp 3)) none,
  .mk (some 132) (.call ⟨(.value (.func 46)), #[(.tmp 127), (.tmp 129), (.tmp 130), (.tmp 131)], #[22, 3, 3, 3]⟩) none]
def r46_30 : List PS := [.mk (some 133) (.move (.tmp 14)) none,
  .mk (some 2) (.assign (.tmp 133)) none]
def c46 : PC := (.seq (.reg false r46_0) (.seq (.reg false r46_1) (.block 0 (.loop (.block 1 (.seq (.reg false r46_2) (.seq (.seq (.reg false r46_3) (.cond (.tmp 23) (.seq (.reg false r46_4) .ret) .skip)) (.seq (.seq (.reg false r46_5) (.cond (.tmp 29) (.seq (.reg false r46_6) .ret) .skip)) (.seq (.seq (.reg false r46_7) (.cond (.tmp 35) (.seq (.reg false r46_8) (.reg false r46_9)) .skip)) (.seq (.reg false r46_10) (.seq (.seq (.reg false r46_11) (.cond (.tmp 50) (.seq (.reg false r46_12) (.seq (.reg false r46_13) (.reg false r46_14))) .skip)) (.seq (.seq (.reg false r46_15) (.cond (.tmp 68) (.seq (.reg false r46_16) (.cond (.tmp 72) .ret .skip)) .skip)) (.seq (.seq (.reg true r46_17) (.cond (.tmp 87) (.seq (.reg false r46_18) (.seq (.reg false r46_19) (.exit 1))) .skip)) (.seq (.reg false r46_20) (.seq (.reg false r46_21) (.seq (.reg false r46_22) (.seq (.reg false r46_23) (.seq (.reg false r46_24) (.cond (.tmp 113) (.seq (.reg false r46_25) (.seq (.reg false r46_26) (.reg false r46_27))) (.seq (.reg false r46_28) (.seq (.reg false r46_29) (.reg false r46_30))))))))))))))))))))))
theorem e46 {args : List PV} {h : Heap} {K : PV → Heap → Prop} (hl : args.length = 4) (s : pwp Try.prog [] c46 (fin Try.prog [] h K) (slots0 (olds args)) h) : CanP Try.prog 46 args h K :=
  can_of2 (n := 134) mixed Try.func46 rfl (by kernel_rfl) (by rw [hl]; kernel_rfl) rfl (by kernel_rfl) s
/-! ### slices.Sort[[]int,int]: function 24 -/
def r24_0 : List PS := [.mk (some 3) (.move (.tmp 0)) none,
  .mk (some 4) (.call ⟨(.builtin .len), #[(.tmp 3)], #[22]⟩) none,
  .mk (some 2) (.assign (.tmp 4)) none]
def r24_1 : List PS := [.mk (some 5) (.move (.tmp 0)) none,
  .mk (some 6) (.move (.tmp 2)) none,
  .mk (some 7) (.move (.tmp 2)) none,
  .mk (some 8) (.convert 3 67 (.tmp 7)) none,
  .mk (some 9) (.call ⟨(.value (.func 47)), #[(.tmp 8)], #[67]⟩) none,
  .mk (some 10) (.call ⟨(.value (.func 46)), #[(.tmp 5), (.const (.int .i64 0)), (.tmp 6), (.tmp 9)], #[22, 3, 3, 3]⟩) none]
def c24 : PC := (.seq (.reg false r24_0) (.reg false r24_1))
theorem e24 {args : List PV} {h : Heap} {K : PV → Heap → Prop} (hl : args.length = 1) (s : pwp Try.prog [] c24 (fin Try.prog [] h K) (slots0 (olds args)) h) : CanP Try.prog 24 args h K :=
  can_of2 (n := 11) mixed Try.func24 rfl (by kernel_rfl) (by rw [hl]; kernel_rfl) rfl (by kernel_rfl) s
/-! ### naskh.balance.Open: function 9 -/
def r9_0 : List PS := [.mk (some 2) (.assign (.const (.slice none 0 0))) none]
def r9_1 : List PS := [.mk (some 5) (.move (.tmp 0)) none,
  .mk (some 6) (.call ⟨(.value (.func 22)), #[(.tmp 5)], #[22]⟩) none,
  .mk (some 3) (.assign (.tmp 6)) none]
def r9_2 : List PS := [.mk (some 7) (.move (.tmp 3)) none,
  .mk (some 8) (.nilCheck (.tmp 7)) none,
  .mk (some 9) (.fieldAddr 39 (.tmp 8) 1) none,
  .mk (some 10) (.load 22 (.tmp 9)) none,
  .mk (some 11) (.move (.tmp 3)) none,
  .mk (some 12) (.nilCheck (.tmp 11)) none,
  .mk (some 13) (.fieldAddr 39 (.tmp 12) 2) none,
  .mk (some 14) (.load 22 (.tmp 13)) none,
  .mk (some 15) (.buildSlice 63 2 #[(0, (.tmp 10)), (1, (.tmp 14))]) none,
  .mk (some 16) (.call ⟨(.value (.func 23)), #[(.tmp 15)], #[63]⟩) none,
  .mk (some 4) (.assign (.tmp 16)) none]
def r9_3 : List PS := [.mk (some 17) (.move (.tmp 4)) none,
  .mk (some 18) (.call ⟨(.value (.func 24)), #[(.tmp 17)], #[22]⟩) none]
def r9_4 : List PS := [.mk (some 19) (.move (.tmp 4)) none,
  .mk (some 2) (.assign (.tmp 19)) none]
def c9 : PC := (.seq (.reg false r9_0) (.seq (.reg false r9_1) (.seq (.reg true r9_2) (.seq (.reg false r9_3) (.seq (.reg false r9_4) .ret)))))
theorem e9 {args : List PV} {h : Heap} {K : PV → Heap → Prop} (hl : args.length = 1) (s : pwp Try.prog [16] c9 (fin Try.prog [.tmp 2] h K) (slots0 (olds args)) h) : CanP Try.prog 9 args h K :=
  can_of2 (n := 20) mixed Try.func9 rfl (by kernel_rfl) (by rw [hl]; kernel_rfl) rfl (by kernel_rfl) s
/-! ### slices.Backward[[]int,int]$1: function 78 -/
def r78_0 : List PS := [.mk (some 4) (.load 22 (.tmp 1)) none,
  .mk (some 5) (.call ⟨(.builtin .len), #[(.tmp 4)], #[22]⟩) none,
  .mk (some 6) (.binOp .sub 3 (.tmp 5) (.const (.int .i64 1)) 3) none,
  .mk (some 3) (.assign (.tmp 6)) none]
def r78_1 : List PS := [.mk (some 7) (.move (.tmp 3)) none,
  .mk (some 8) (.binOp .geq 3 (.tmp 7) (.const (.int .i64 0)) 3) none]
def r78_2 : List PS := [.mk (some 11) (.move (.tmp 0)) none,
  .mk (some 12) (.move (.tmp 3)) none,
  .mk (some 13) (.load 22 (.tmp 1)) none,
  .mk (some 14) (.move (.tmp 3)) none,
  .mk (some 15) (.indexAddr 22 (.tmp 13) (.tmp 14)) none,
  .mk (some 16) (.load 3 (.tmp 15)) none,
  .mk (some 17) (.call ⟨(.value (.tmp 11)), #[(.tmp 12), (.tmp 16)], #[3, 3]⟩) none,
  .mk (some 18) (.unOp .not 4 (.tmp 17)) none]
def r78_3 : List PS := [.mk (some 9) (.move (.tmp 3)) none,
  .mk (some 10) (.binOp .sub 3 (.tmp 9) (.const (.int .i64 1)) 3) none,
  .mk (some 3) (.assign (.tmp 10)) none]
def c78 : PC := (.seq (.reg false r78_0) (.block 0 (.loop (.seq (.seq (.reg false r78_1) (.cond (.tmp 8) .skip (.exit 0))) (.seq (.block 1 (.seq (.reg false r78_2) (.cond (.tmp 18) .ret .skip))) (.reg false r78_3))))))
theorem e78 {args : List PV} {h : Heap} {K : PV → Heap → Prop} (hl : args.length = 2) (s : pwp Try.prog [] c78 (fin Try.prog [] h K) (slots0 (olds args)) h) : CanP Try.prog 78 args h K :=
  can_of2 (n := 19) mixed Try.func78 rfl (by kernel_rfl) (by rw [hl]; kernel_rfl) rfl (by kernel_rfl) s
/-! ### slices.Backward[[]int,int]: function 49 -/
def r49_0 : List PS := [.mk (some 1) (.box 22 (.tmp 0)) none,
  .mk (some 2) (.assign (.const .nilFunc)) none]
def r49_1 : List PS := [.mk (some 3) (.makeFunc (.func 78) #[] #[(.tmp 1)]) none,
  .mk (some 2) (.assign (.tmp 3)) none]
def c49 : PC := (.seq (.reg false r49_0) (.seq (.reg false r49_1) .ret))
theorem e49 {args : List PV} {h : Heap} {K : PV → Heap → Prop} (hl : args.length = 1) (s : pwp Try.prog [] c49 (fin Try.prog [.tmp 2] h K) (slots0 (olds args)) h) : CanP Try.prog 49 args h K :=
  can_of2 (n := 4) mixed Try.func49 rfl (by kernel_rfl) (by rw [hl]; kernel_rfl) rfl (by kernel_rfl) s
/-! ### naskh.balance.Close: function 13 -/
def r13_0 : List PS := [.mk (some 2) (.assign (.const (.slice none 0 0))) none]
def r13_1 : List PS := [.mk (some 3) (.move (.tmp 0)) none,
  .mk (some 4) (.call ⟨(.value (.func 22)), #[(.tmp 3)], #[22]⟩) none,
  .mk (some 5) (.call ⟨(.value (.func 27)), #[(.tmp 4)], #[35]⟩) none,
  .mk (some 2) (.assign (.tmp 5)) none]
def c13 : PC := (.seq (.reg false r13_0) (.seq (.reg false r13_1) .ret))
theorem e13 {args : List PV} {h : Heap} {K : PV → Heap → Prop} (hl : args.length = 1) (s : pwp Try.prog [] c13 (fin Try.prog [.tmp 2] h K) (slots0 (olds args)) h) : CanP Try.prog 13 args h K :=
  can_of2 (n := 6) mixed Try.func13 rfl (by kernel_rfl) (by rw [hl]; kernel_rfl) rfl (by kernel_rfl) s
/-! ### naskh.trie.may: function 50 -/
def r50_0 : List PS := [.mk (some 2) (.assign (.const (.int .i64 0))) none]
def r50_1 : List PS := [.mk (some 6) (.move (.tmp 0)) none,
  .mk (some 7) (.call ⟨(.builtin .len), #[(.tmp 6)], #[49]⟩) none,
  .mk (some 8) (.binOp .gtr 3 (.tmp 7) (.const (.int .i64 4096)) 3) none]
def r50_2 : List PS := [.mk (some 2) (.assign (.const (.int .i64 6))) none]
def r50_3 : List PS := [.mk (some 3) (.assign (.const (.int .i64 (-1)))) none]
def r50_4 : List PS := [.mk (some 9) (.move (.tmp 0)) none,
  .mk (some 10) (.call ⟨(.builtin .len), #[(.tmp 9)], #[49]⟩) none,
  .mk (some 11) (.move (.const (.int .i64 0))) none]
def r50_5 : List PS := [.mk (some 12) (.binOp .lss 3 (.tmp 11) (.tmp 10) 3) none]
def r50_6 : List PS := [.mk (some 13) (.indexAddr 49 (.tmp 9) (.tmp 11)) none,
  .mk (some 14) (.load 83 (.tmp 13)) none,
  .mk (some 5) (.alloc 83) none,
  .mk none (.store 83 (.tmp 5) (.tmp 14)) none,
  .frz 5]
def r50_7 : List PS := [.mk (some 15) (.fieldAddr 83 (.tmp 5) 0) none,
  .mk (some 16) (.load 3 (.tmp 15)) none,
  .mk (some 17) (.move (.tmp 3)) none,
  .mk (some 18) (.binOp .leq 3 (.tmp 16) (.tmp 17) 3) none,
  .mk (some 19) (.move (.tmp 18)) none,
  .mk (some 20) (.fieldAddr 83 (.tmp 5) 1) (some (19, false)),
  .mk (some 21) (.load 3 (.tmp 20)) (some (19, false)),
  .mk (some 22) (.fieldAddr 83 (.tmp 5) 0) (some (19, false)),
  .mk (some 23) (.load 3 (.tmp 22)) (some (19, false)),
  .mk (some 24) (.binOp .lss 3 (.tmp 21) (.tmp 23) 3) (some (19, false)),
  .mk (some 25) (.pick (.tmp 19) (.const (.bool true)) (.tmp 24)) none,
  .mk (some 26) (.move (.tmp 25)) none,
  .mk (some 27) (.fieldAddr 83 (.tmp 5) 1) (some (26, false)),
  .mk (some 28) (.load 3 (.tmp 27)) (some (26, false)),
  .mk (some 29) (.binOp .gtr 3 (.tmp 28) (.const (.int .i64 1114111)) 3) (some (26, false)),
  .mk (some 30) (.pick (.tmp 26) (.const (.bool true)) (.tmp 29)) none]
def r50_8 : List PS := [.mk (some 2) (.assign (.const (.int .i64 10))) none]
def r50_9 : List PS := [.mk (some 31) (.fieldAddr 83 (.tmp 5) 1) none,
  .mk (some 32) (.load 3 (.tmp 31)) none,
  .mk (some 3) (.assign (.tmp 32)) none]
def r50_10 : List PS := [.mk (some 33) (.binOp .add 3 (.tmp 11) (.const (.int .i64 1)) 3) none,
  .mk (some 11) (.move (.tmp 33)) none]
def r50_11 : List PS := [.mk (some 2) (.assign (.const (.int .i64 0))) none]
def c50 : PC := (.seq (.reg false r50_0) (.seq (.seq (.reg false r50_1) (.cond (.tmp 8) (.seq (.reg false r50_2) .ret) .skip)) (.seq (.reg false r50_3) (.seq (.seq (.reg false r50_4) (.block 0 (.loop (.seq (.reg false r50_5) (.seq (.cond (.tmp 12) .skip (.exit 0)) (.seq (.block 1 (.seq (.reg false r50_6) (.seq (.seq (.reg false r50_7) (.cond (.tmp 30) (.seq (.reg false r50_8) .ret) .skip)) (.reg false r50_9)))) (.reg false r50_10))))))) (.seq (.reg false r50_11) .ret)))))
theorem e50 {args : List PV} {h : Heap} {K : PV → Heap → Prop} (hl : args.length = 1) (s : pwp Try.prog [5] c50 (fin Try.prog [.tmp 2] h K) (slots0 (olds args)) h) : CanP Try.prog 50 args h K :=
  can_of2 (n := 34) mixed Try.func50 rfl (by kernel_rfl) (by rw [hl]; kernel_rfl) rfl (by kernel_rfl) s
/-! ### naskh.trie.even: function 79 -/
def r79_0 : List PS := [.mk (some 2) (.alloc 78) none]
def r79_1 : List PS := [.mk (some 3) (.alloc 78) none]
def r79_2 : List PS := [.mk (some 5) (.move (.const (.int .i64 0))) none]
def r79_3 : List PS := [.mk (some 6) (.binOp .lss 3 (.tmp 5) (.const (.int .i64 128)) 3) none]
def r79_4 : List PS := [.mk (some 7) (.move (.tmp 5)) none,
  .mk (some 4) (.assign (.tmp 7)) none]
def r79_5 : List PS := [.mk (some 8) (.move (.tmp 4)) none,
  .mk (some 9) (.move (.tmp 0)) none,
  .mk (some 10) (.indexAddr 78 (.tmp 3) (.tmp 8)) none,
  .mk none (.store 3 (.tmp 10) (.tmp 9)) none]
def r79_6 : List PS := [.mk (some 11) (.binOp .add 3 (.tmp 5) (.const (.int .i64 1)) 3) none,
  .mk (some 5) (.move (.tmp 11)) none]
def r79_7 : List PS := [.mk (some 12) (.load 78 (.tmp 3)) none,
  .mk none (.store 78 (.tmp 2) (.tmp 12)) none]
def c79 : PC := (.seq (.reg false r79_0) (.seq (.reg false r79_1) (.seq (.seq (.reg false r79_2) (.block 0 (.loop (.seq (.reg false r79_3) (.seq (.cond (.tmp 6) .skip (.exit 0)) (.seq (.block 1 (.seq (.reg false r79_4) (.reg false r79_5))) (.reg false r79_6))))))) (.seq (.reg false r79_7) .ret))))
theorem e79 {args : List PV} {h : Heap} {K : PV → Heap → Prop} (hl : args.length = 1) (s : pwp Try.prog [2, 3] c79 (fin Try.prog [.cell 2 78] h K) (slots0 (olds args)) h) : CanP Try.prog 79 args h K :=
  can_of2 (n := 13) mixed Try.func79 rfl (by kernel_rfl) (by rw [hl]; kernel_rfl) rfl (by kernel_rfl) s
/-! ### naskh.trie.filled: function 51 -/
def r51_0 : List PS := [.mk (some 8) (.alloc 78) none,
  .mk (some 9) (.assign (.const (.int .i64 0))) none]
def r51_1 : List PS := [.mk (some 14) (.move (.tmp 3)) none,
  .mk (some 15) (.call ⟨(.value (.func 79)), #[(.tmp 14)], #[3]⟩) none,
  .mk (some 10) (.alloc 78) none,
  .mk none (.store 78 (.tmp 10) (.tmp 15)) none]
def r51_2 : List PS := [.mk (some 16) (.move (.tmp 1)) none,
  .mk (some 17) (.binOp .mul 3 (.tmp 16) (.const (.int .i64 128)) 3) none,
  .mk (some 11) (.assign (.tmp 17)) none]
def r51_3 : List PS := [.mk (some 18) (.move (.tmp 2)) none,
  .mk (some 19) (.move (.tmp 0)) none,
  .mk (some 20) (.call ⟨(.builtin .len), #[(.tmp 19)], #[49]⟩) none,
  .mk (some 21) (.binOp .lss 3 (.tmp 18) (.tmp 20) 3) none,
  .mk (some 22) (.move (.tmp 21)) none,
  .mk (some 23) (.move (.tmp 0)) (some (22, true)),
  .mk (some 24) (.move (.tmp 2)) (some (22, true)),
  .mk (some 25) (.indexAddr 49 (.tmp 23) (.tmp 24)) (some (22, true)),
  .mk (some 26) (.fieldAddr 83 (.tmp 25) 0) (some (22, true)),
  .mk (some 27) (.load 3 (.tmp 26)) (some (22, true)),
  .mk (some 28) (.move (.tmp 11)) (some (22, true)),
  .mk (some 29) (.binOp .add 3 (.tmp 28) (.const (.int .i64 128)) 3) (some (22, true)),
  .mk (some 30) (.binOp .lss 3 (.tmp 27) (.tmp 29) 3) (some (22, true)),
  .mk (some 31) (.pick (.tmp 22) (.tmp 30) (.const (.bool false))) none]
def r51_4 : List PS := [.mk (some 34) (.move (.tmp 0)) none,
  .mk (some 35) (.move (.tmp 2)) none,
  .mk (some 36) (.indexAddr 49 (.tmp 34) (.tmp 35)) none,
  .mk (some 37) (.load 83 (.tmp 36)) none,
  .mk (some 12) (.alloc 83) none,
  .mk none (.store 83 (.tmp 12) (.tmp 37)) none,
  .frz 12]
def r51_5 : List PS := [.mk (some 38) (.fieldAddr 83 (.tmp 12) 0) none,
  .mk (some 39) (.load 3 (.tmp 38)) none,
  .mk (some 40) (.move (.tmp 11)) none,
  .mk (some 41) (.call ⟨(.builtin .max), #[(.tmp 39), (.tmp 40)], #[3, 3]⟩) none,
  .mk (some 13) (.assign (.tmp 41)) none]
def r51_6 : List PS := [.mk (some 42) (.move (.tmp 13)) none,
  .mk (some 43) (.fieldAddr 83 (.tmp 12) 1) none,
  .mk (some 44) (.load 3 (.tmp 43)) none,
  .mk (some 45) (.move (.tmp 11)) none,
  .mk (some 46) (.binOp .add 3 (.tmp 45) (.const (.int .i64 128)) 3) none,
  .mk (some 47) (.binOp .sub 3 (.tmp 46) (.const (.int .i64 1)) 3) none,
  .mk (some 48) (.call ⟨(.builtin .min), #[(.tmp 44), (.tmp 47)], #[3, 3]⟩) none,
  .mk (some 49) (.binOp .leq 3 (.tmp 42) (.tmp 48) 3) none]
def r51_7 : List PS := [.mk (some 52) (.move (.tmp 13)) none,
  .mk (some 53) (.move (.tmp 11)) none,
  .mk (some 54) (.binOp .sub 3 (.tmp 52) (.tmp 53) 3) none,
  .mk (some 55) (.fieldAddr 83 (.tmp 12) 2) none,
  .mk (some 56) (.load 3 (.tmp 55)) none,
  .mk (some 57) (.indexAddr 78 (.tmp 10) (.tmp 54)) none,
  .mk none (.store 3 (.tmp 57) (.tmp 56)) none]
def r51_8 : List PS := [.mk (some 50) (.move (.tmp 13)) none,
  .mk (some 51) (.binOp .add 3 (.tmp 50) (.const (.int .i64 1)) 3) none,
  .mk (some 13) (.assign (.tmp 51)) none]
def r51_9 : List PS := [.mk (some 58) (.fieldAddr 83 (.tmp 12) 1) none,
  .mk (some 59) (.load 3 (.tmp 58)) none,
  .mk (some 60) (.move (.tmp 11)) none,
  .mk (some 61) (.binOp .add 3 (.tmp 60) (.const (.int .i64 128)) 3) none,
  .mk (some 62) (.binOp .geq 3 (.tmp 59) (.tmp 61) 3) none]
def r51_10 : List PS := [.mk (some 32) (.move (.tmp 2)) none,
  .mk (some 33) (.binOp .add 3 (.tmp 32) (.const (.int .i64 1)) 3) none,
  .mk (some 2) (.assign (.tmp 33)) none]
def r51_11 : List PS := [.mk (some 63) (.load 78 (.tmp 10)) none,
  .mk (some 64) (.move (.tmp 2)) none,
  .mk none (.store 78 (.tmp 8) (.tmp 63)) none,
  .mk (some 9) (.assign (.tmp 64)) none]
def c51 : PC := (.seq (.reg false r51_0) (.seq (.reg false r51_1) (.seq (.reg false r51_2) (.seq (.block 0 (.loop (.seq (.seq (.reg false r51_3) (.cond (.tmp 31) .skip (.exit 0))) (.seq (.block 1 (.seq (.reg false r51_4) (.seq (.seq (.reg false r51_5) (.block 2 (.loop (.seq (.seq (.reg false r51_6) (.cond (.tmp 49) .skip (.exit 2))) (.seq (.block 3 (.reg false r51_7)) (.reg false r51_8)))))) (.seq (.reg false r51_9) (.cond (.tmp 62) (.exit 0) .skip))))) (.reg false r51_10))))) (.seq (.reg false r51_11) .ret)))))
theorem e51 {args : List PV} {h : Heap} {K : PV → Heap → Prop} (hl : args.length = 4) (s : pwp Try.prog [8, 10, 12] c51 (fin Try.prog [.cell 8 78, .tmp 9] h K) (slots0 (olds args)) h) : CanP Try.prog 51 args h K :=
  can_of2 (n := 65) mixed Try.func51 rfl (by kernel_rfl) (by rw [hl]; kernel_rfl) rfl (by kernel_rfl) s
/-! ### (*naskh.trie.stages).add: function 52 -/
def r52_0 : List PS := [.mk (some 3) (.box 78 (.tmp 1)) none,
  .mk (some 4) (.assign (.const (.int .i64 0))) none]
def r52_1 : List PS := [.mk (some 6) (.move (.tmp 0)) none,
  .mk (some 7) (.nilCheck (.tmp 6)) none,
  .mk (some 8) (.fieldAddr 74 (.tmp 7) 1) none,
  .mk (some 9) (.load 72 (.tmp 8)) none,
  .mk (some 10) (.call ⟨(.builtin .len), #[(.tmp 9)], #[72]⟩) none,
  .mk (some 11) (.move (.const (.int .i64 0))) none]
def r52_2 : List PS := [.mk (some 12) (.binOp .lss 3 (.tmp 11) (.tmp 10) 3) none]
def r52_3 : List PS := [.mk (some 13) (.move (.tmp 11)) none,
  .mk (some 5) (.assign (.tmp 13)) none]
def r52_4 : List PS := [.mk (some 14) (.move (.tmp 0)) none,
  .mk (some 15) (.nilCheck (.tmp 14)) none,
  .mk (some 16) (.fieldAddr 74 (.tmp 15) 1) none,
  .mk (some 17) (.load 72 (.tmp 16)) none,
  .mk (some 18) (.move (.tmp 5)) none,
  .mk (some 19) (.indexAddr 72 (.tmp 17) (.tmp 18)) none,
  .mk (some 20) (.load 78 (.tmp 19)) none,
  .mk (some 21) (.load 78 (.tmp 3)) none,
  .mk (some 22) (.binOp .eql 78 (.tmp 20) (.tmp 21) 78) none]
def r52_5 : List PS := [.mk (some 23) (.move (.tmp 5)) none,
  .mk (some 4) (.assign (.tmp 23)) none]
def r52_6 : List PS := [.mk (some 24) (.binOp .add 3 (.tmp 11) (.const (.int .i64 1)) 3) none,
  .mk (some 11) (.move (.tmp 24)) none]
def r52_7 : List PS := [.mk (some 25) (.move (.tmp 0)) none,
  .mk (some 26) (.move (.tmp 0)) none,
  .mk (some 27) (.nilCheck (.tmp 26)) none,
  .mk (some 28) (.fieldAddr 74 (.tmp 27) 1) none,
  .mk (some 29) (.load 72 (.tmp 28)) none,
  .mk (some 30) (.load 78 (.tmp 3)) none,
  .mk (some 31) (.buildSlice 72 1 #[(0, (.tmp 30))]) none,
  .mk (some 32) (.call ⟨(.builtin .append), #[(.tmp 29), (.tmp 31)], #[72, 72]⟩) none,
  .mk (some 33) (.nilCheck (.tmp 25)) none,
  .mk (some 34) (.fieldAddr 74 (.tmp 33) 1) none,
  .mk none (.store 72 (.tmp 34) (.tmp 32)) none]
def r52_8 : List PS := [.mk (some 35) (.move (.tmp 0)) none,
  .mk (some 36) (.nilCheck (.tmp 35)) none,
  .mk (some 37) (.fieldAddr 74 (.tmp 36) 1) none,
  .mk (some 38) (.load 72 (.tmp 37)) none,
  .mk (some 39) (.call ⟨(.builtin .len), #[(.tmp 38)], #[72]⟩) none,
  .mk (some 40) (.binOp .sub 3 (.tmp 39) (.const (.int .i64 1)) 3) none,
  .mk (some 4) (.assign (.tmp 40)) none]
def c52 : PC := (.seq (.reg false r52_0) (.seq (.seq (.reg false r52_1) (.block 0 (.loop (.seq (.reg false r52_2) (.seq (.cond (.tmp 12) .skip (.exit 0)) (.seq (.block 1 (.seq (.reg false r52_3) (.seq (.reg true r52_4) (.cond (.tmp 22) (.seq (.reg false r52_5) .ret) .skip)))) (.reg false r52_6))))))) (.seq (.reg true r52_7) (.seq (.reg false r52_8) .ret))))
theorem e52 {args : List PV} {h : Heap} {K : PV → Heap → Prop} (hl : args.length = 2) (s : pwp Try.prog [] c52 (fin Try.prog [.tmp 4] h K) (slots0 (olds args)) h) : CanP Try.prog 52 args h K :=
  can_of2 (n := 41) mixed Try.func52 rfl (by kernel_rfl) (by rw [hl]; kernel_rfl) rfl (by kernel_rfl) s
/-! ### naskh.trie.Build: function 29 -/
def r29_0 : List PS := [.mk (some 4) (.assign (.const (.pointer none))) none,
  .mk (some 5) (.assign (.const (.int .i64 0))) none]
def r29_1 : List PS := [.mk (some 13) (.move (.tmp 0)) none,
  .mk (some 14) (.call ⟨(.value (.func 50)), #[(.tmp 13)], #[49]⟩) none,
  .mk (some 6) (.assign (.tmp 14)) none]
def r29_2 : List PS := [.mk (some 15) (.move (.tmp 6)) none,
  .mk (some 16) (.binOp .neq 46 (.tmp 15) (.const (.int .i64 0)) 46) none]
def r29_3 : List PS := [.mk (some 17) (.move (.tmp 6)) none,
  .mk (some 4) (.assign (.const (.pointer none))) none,
  .mk (some 5) (.assign (.tmp 17)) none]
def r29_4 : List PS := [.mk (some 18) (.move (.tmp 1)) none,
  .mk (some 19) (.build 76 #[(1, (.tmp 18)), (2, (.const (.bool true)))]) none,
  .mk (some 20) (.box 76 (.tmp 19)) none,
  .mk (some 7) (.assign (.tmp 20)) none]
def r29_5 : List PS := [.mk (some 21) (.move (.tmp 7)) none,
  .mk (some 22) (.makeSlice 22 (.const (.int .i64 8704)) (.const (.int .i64 8704))) none,
  .mk (some 23) (.nilCheck (.tmp 21)) none,
  .mk (some 24) (.fieldAddr 76 (.tmp 23) 0) none,
  .mk (some 25) (.fieldAddr 74 (.tmp 24) 0) none,
  .mk none (.store 22 (.tmp 25) (.tmp 22)) none]
def r29_6 : List PS := [.mk (some 8) (.assign (.const (.int .i64 0))) none]
def r29_7 : List PS := [.mk (some 26) (.build 78 #[]) none,
  .mk (some 9) (.alloc 78) none,
  .mk none (.store 78 (.tmp 9) (.tmp 26)) none,
  .mk (some 10) (.assign (.const (.int .i64 (-1)))) none]
def r29_8 : List PS := [.mk (some 27) (.move (.const (.int .i64 0))) none]
def r29_9 : List PS := [.mk (some 28) (.binOp .lss 3 (.tmp 27) (.const (.int .i64 8704)) 3) none]
def r29_10 : List PS := [.mk (some 29) (.move (.tmp 27)) none,
  .mk (some 11) (.assign (.tmp 29)) none]
def r29_11 : List PS := [.mk (some 12) (.alloc 78) none]
def r29_12 : List PS := [.mk (some 31) (.move (.tmp 0)) none,
  .mk (some 32) (.move (.tmp 11)) none,
  .mk (some 33) (.move (.tmp 8)) none,
  .mk (some 34) (.move (.tmp 1)) none,
  .mk (some 35) (.call ⟨(.value (.func 51)), #[(.tmp 31), (.tmp 32), (.tmp 33), (.tmp 34)], #[49, 3, 3, 3]⟩) none,
  .mk (some 30) (.move (.tmp 35)) none,
  .mk (some 36) (.extract (.tmp 30) 0) none,
  .mk (some 37) (.extract (.tmp 30) 1) none,
  .mk none (.store 78 (.tmp 12) (.tmp 36)) none,
  .frz 12,
  .mk (some 8) (.assign (.tmp 37)) none]
def r29_13 : List PS := [.mk (some 38) (.move (.tmp 10)) none,
  .mk (some 39) (.binOp .lss 3 (.tmp 38) (.const (.int .i64 0)) 3) none,
  .mk (some 40) (.move (.tmp 39)) none,
  .mk (some 41) (.load 78 (.tmp 12)) (some (40, false)),
  .mk (some 42) (.load 78 (.tmp 9)) (some (40, false)),
  .mk (some 43) (.binOp .neq 78 (.tmp 41) (.tmp 42) 78) (some (40, false)),
  .mk (some 44) (.pick (.tmp 40) (.const (.bool true)) (.tmp 43)) none]
def r29_14 : List PS := [.mk (some 45) (.load 78 (.tmp 12)) none,
  .mk (some 46) (.move (.tmp 7)) none,
  .mk (some 47) (.nilCheck (.tmp 46)) none,
  .mk (some 48) (.fieldAddr 76 (.tmp 47) 0) none,
  .mk (some 49) (.load 78 (.tmp 12)) none,
  .mk (some 50) (.call ⟨(.value (.func 52)), #[(.tmp 48), (.tmp 49)], #[74, 78]⟩) none,
  .mk none (.store 78 (.tmp 9) (.tmp 45)) none,
  .mk (some 10) (.assign (.tmp 50)) none]
def r29_15 : List PS := [.mk (some 51) (.move (.tmp 7)) none,
  .mk (some 52) (.nilCheck (.tmp 51)) none,
  .mk (some 53) (.fieldAddr 76 (.tmp 52) 0) none,
  .mk (some 54) (.fieldAddr 74 (.tmp 53) 0) none,
  .mk (some 55) (.load 22 (.tmp 54)) none,
  .mk (some 56) (.move (.tmp 11)) none,
  .mk (some 57) (.move (.tmp 10)) none,
  .mk (some 58) (.indexAddr 22 (.tmp 55) (.tmp 56)) none,
  .mk none (.store 3 (.tmp 58) (.tmp 57)) none]
def r29_16 : List PS := [.mk (some 59) (.binOp .add 3 (.tmp 27) (.const (.int .i64 1)) 3) none,
  .mk (some 27) (.move (.tmp 59)) none]
def r29_17 : List PS := [.frzc 7 0,
  .frzc 7 1,
  .mk (some 60) (.move (.tmp 7)) none,
  .mk (some 4) (.assign (.tmp 60)) none,
  .mk (some 5) (.assign (.const (.int .i64 0))) none]
def c29 : PC := (.seq (.reg false r29_0) (.seq (.seq (.reg false r29_1) (.seq (.reg false r29_2) (.cond (.tmp 16) (.seq (.reg false r29_3) .ret) .skip))) (.seq (.reg false r29_4) (.seq (.reg false r29_5) (.seq (.reg false r29_6) (.seq (.reg false r29_7) (.seq (.seq (.reg false r29_8) (.block 0 (.loop (.seq (.reg false r29_9) (.seq (.cond (.tmp 28) .skip (.exit 0)) (.seq (.block 1 (.seq (.reg false r29_10) (.seq (.reg false r29_11) (.seq (.reg false r29_12) (.seq (.seq (.reg false r29_13) (.cond (.tmp 44) (.reg true r29_14) .skip)) (.reg false r29_15)))))) (.reg false r29_16))))))) (.seq (.reg false r29_17) .ret))))))))
theorem e29 {args : List PV} {h : Heap} {K : PV → Heap → Prop} (hl : args.length = 2) (s : pwp Try.prog [9, 12, 20, 45, 50] c29 (fin Try.prog [.tmp 4, .tmp 5] h K) (slots0 (olds args)) h) : CanP Try.prog 29 args h K :=
  can_of2 (n := 61) mixed Try.func29 rfl (by kernel_rfl) (by rw [hl]; kernel_rfl) rfl (by kernel_rfl) s
/-! ### naskh.api.BidiRanges: function 30 -/
def r30_0 : List PS := [.mk (some 0) (.assign (.const (.slice none 0 0))) none]
def r30_1 : List PS := [.mk (some 1) (.build 83 #[(0, (.const (.int .i64 0))), (1, (.const (.int .i64 8))), (2, (.const (.int .i64 9)))]) none,
  .mk (some 2) (.build 83 #[(0, (.const (.int .i64 9))), (1, (.const (.int .i64 9))), (2, (.const (.int .i64 11)))]) none,
  .mk (some 3) (.build 83 #[(0, (.const (.int .i64 10))), (1, (.const (.int .i64 10))), (2, (.const (.int .i64 10)))]) none,
  .mk (some 4) (.build 83 #[(0, (.const (.int .i64 11))), (1, (.const (.int .i64 11))), (2, (.const (.int .i64 11)))]) none,
  .mk (some 5) (.build 83 #[(0, (.const (.int .i64 12))), (1, (.const (.int .i64 12))), (2, (.const (.int .i64 12)))]) none,
  .mk (some 6) (.build 83 #[(0, (.const (.int .i64 13))), (1, (.const (.int .i64 13))), (2, (.const (.int .i64 10)))]) none,
  .mk (some 7) (.build 83 #[(0, (.const (.int .i64 14))), (1, (.const (.int .i64 27))), (2, (.const (.int .i64 9)))]) none,
  .mk (some 8) (.build 83 #[(0, (.const (.int .i64 28))), (1, (.const (.int .i64 30))), (2, (.const (.int .i64 10)))]) none,
  .mk (some 9) (.build 83 #[(0, (.const (.int .i64 31))), (1, (.const (.int .i64 31))), (2, (.const (.int .i64 11)))]) none,
  .mk (some 10) (.build 83 #[(0, (.const (.int .i64 32))), (1, (.const (.int .i64 32))), (2, (.const (.int .i64 12)))]) none,
  .mk (some 11) (.build 83 #[(0, (.const (.int .i64 33))), (1, (.const (.int .i64 34))), (2, (.const (.int .i64 13)))]) none,
  .mk (some 12) (.build 83 #[(0, (.const (.int .i64 35))), (1, (.const (.int .i64 37))), (2, (.const (.int .i64 5)))]) none,
  .mk (some 13) (.build 83 #[(0, (.const (.int .i64 38))), (1, (.const (.int .i64 42))), (2, (.const (.int .i64 13)))]) none,
  .mk (some 14) (.build 83 #[(0, (.const (.int .i64 43))), (1, (.const (.int .i64 43))), (2, (.const (.int .i64 4)))]) none,
  .mk (some 15) (.build 83 #[(0, (.const (.int .i64 44))), (1, (.const (.int .i64 44))), (2, (.const (.int .i64 7)))]) none,
  .mk (some 16) (.build 83 #[(0, (.const (.int .i64 45))), (1, (.const (.int .i64 45))), (2, (.const (.int .i64 4)))]) none,
  .mk (some 17) (.build 83 #[(0, (.const (.int .i64 46))), (1, (.const (.int .i64 47))), (2, (.const (.int .i64 7)))]) none,
  .mk (some 18) (.build 83 #[(0, (.const (.int .i64 48))), (1, (.const (.int .i64 57))), (2, (.const (.int .i64 3)))]) none,
  .mk (some 19) (.build 83 #[(0, (.const (.int .i64 58))), (1, (.const (.int .i64 58))), (2, (.const (.int .i64 7)))]) none,
  .mk (some 20) (.build 83 #[(0, (.const (.int .i64 59))), (1, (.const (.int .i64 64))), (2, (.const (.int .i64 13)))]) none,
  .mk (some 21) (.build 83 #[(0, (.const (.int .i64 91))), (1, (.const (.int .i64 96))), (2, (.const (.int .i64 13)))]) none,
  .mk (some 22) (.build 83 #[(0, (.const (.int .i64 123))), (1, (.const (.int .i64 126))), (2, (.const (.int .i64 13)))]) none,
  .mk (some 23) (.build 83 #[(0, (.const (.int .i64 127))), (1, (.const (.int .i64 132))), (2, (.const (.int .i64 9)))]) none,
  .mk (some 24) (.build 83 #[(0, (.const (.int .i64 133))), (1, (.const (.int .i64 133))), (2, (.const (.int .i64 10)))]) none,
  .mk (some 25) (.build 83 #[(0, (.const (.int .i64 134))), (1, (.const (.int .i64 159))), (2, (.const (.int .i64 9)))]) none,
  .mk (some 26) (.build 83 #[(0, (.const (.int .i64 160))), (1, (.const (.int .i64 160))), (2, (.const (.int .i64 7)))]) none,
  .mk (some 27) (.build 83 #[(0, (.const (.int .i64 161))), (1, (.const (.int .i64 161))), (2, (.const (.int .i64 13)))]) none,
  .mk (some 28) (.build 83 #[(0, (.const (.int .i64 162))), (1, (.const (.int .i64 165))), (2, (.const (.int .i64 5)))]) none,
  .mk (some 29) (.build 83 #[(0, (.const (.int .i64 166))), (1, (.const (.int .i64 169))), (2, (.const (.int .i64 13)))]) none,
  .mk (some 30) (.build 83 #[(0, (.const (.int .i64 171))), (1, (.const (.int .i64 172))), (2, (.const (.int .i64 13)))]) none,
  .mk (some 31) (.build 83 #[(0, (.const (.int .i64 173))), (1, (.const (.int .i64 173))), (2, (.const (.int .i64 9)))]) none,
  .mk (some 32) (.build 83 #[(0, (.const (.int .i64 174))), (1, (.const (.int .i64 175))), (2, (.const (.int .i64 13)))]) none,
  .mk (some 33) (.build 83 #[(0, (.const (.int .i64 176))), (1, (.const (.int .i64 177))), (2, (.const (.int .i64 5)))]) none,
  .mk (some 34) (.build 83 #[(0, (.const (.int .i64 178))), (1, (.const (.int .i64 179))), (2, (.const (.int .i64 3)))]) none,
  .mk (some 35) (.build 83 #[(0, (.const (.int .i64 180))), (1, (.const (.int .i64 180))), (2, (.const (.int .i64 13)))]) none,
  .mk (some 36) (.build 83 #[(0, (.const (.int .i64 182))), (1, (.const (.int .i64 184))), (2, (.const (.int .i64 13)))]) none,
  .mk (some 37) (.build 83 #[(0, (.const (.int .i64 185))), (1, (.const (.int .i64 185))), (2, (.const (.int .i64 3)))]) none,
  .mk (some 38) (.build 83 #[(0, (.const (.int .i64 187))), (1, (.const (.int .i64 191))), (2, (.const (.int .i64 13)))]) none,
  .mk (some 39) (.build 83 #[(0, (.const (.int .i64 215))), (1, (.const (.int .i64 215))), (2, (.const (.int .i64 13)))]) none,
  .mk (some 40) (.build 83 #[(0, (.const (.int .i64 247))), (1, (.const (.int .i64 247))), (2, (.const (.int .i64 13)))]) none,
  .mk (some 41) (.build 83 #[(0, (.const (.int .i64 697))), (1, (.const (.int .i64 698))), (2, (.const (.int .i64 13)))]) none,
  .mk (some 42) (.build 83 #[(0, (.const (.int .i64 706))), (1, (.const (.int .i64 719))), (2, (.const (.int .i64 13)))]) none,
  .mk (some 43) (.build 83 #[(0, (.const (.int .i64 722))), (1, (.const (.int .i64 735))), (2, (.const (.int .i64 13)))]) none,
  .mk (some 44) (.build 83 #[(0, (.const (.int .i64 768))), (1, (.const (.int .i64 879))), (2, (.const (.int .i64 8)))]) none,
  .mk (some 45) (.build 83 #[(0, (.const (.int .i64 1424))), (1, (.const (.int .i64 1424))), (2, (.const (.int .i64 1)))]) none,
  .mk (some 46) (.build 83 #[(0, (.const (.int .i64 1425))), (1, (.const (.int .i64 1469))), (2, (.const (.int .i64 8)))]) none,
  .mk (some 47) (.build 83 #[(0, (.const (.int .i64 1470))), (1, (.const (.int .i64 1470))), (2, (.const (.int .i64 1)))]) none,
  .mk (some 48) (.build 83 #[(0, (.const (.int .i64 1471))), (1, (.const (.int .i64 1471))), (2, (.const (.int .i64 8)))]) none,
  .mk (some 49) (.build 83 #[(0, (.const (.int .i64 1472))), (1, (.const (.int .i64 1472))), (2, (.const (.int .i64 1)))]) none,
  .mk (some 50) (.build 83 #[(0, (.const (.int .i64 1473))), (1, (.const (.int .i64 1474))), (2, (.const (.int .i64 8)))]) none,
  .mk (some 51) (.build 83 #[(0, (.const (.int .i64 1475))), (1, (.const (.int .i64 1475))), (2, (.const (.int .i64 1)))]) none,
  .mk (some 52) (.build 83 #[(0, (.const (.int .i64 1476))), (1, (.const (.int .i64 1477))), (2, (.const (.int .i64 8)))]) none,
  .mk (some 53) (.build 83 #[(0, (.const (.int .i64 1478))), (1, (.const (.int .i64 1478))), (2, (.const (.int .i64 1)))]) none,
  .mk (some 54) (.build 83 #[(0, (.const (.int .i64 1479))), (1, (.const (.int .i64 1479))), (2, (.const (.int .i64 8)))]) none,
  .mk (some 55) (.build 83 #[(0, (.const (.int .i64 1480))), (1, (.const (.int .i64 1535))), (2, (.const (.int .i64 1)))]) none,
  .mk (some 56) (.build 83 #[(0, (.const (.int .i64 1536))), (1, (.const (.int .i64 1541))), (2, (.const (.int .i64 6)))]) none,
  .mk (some 57) (.build 83 #[(0, (.const (.int .i64 1542))), (1, (.const (.int .i64 1543))), (2, (.const (.int .i64 13)))]) none,
  .mk (some 58) (.build 83 #[(0, (.const (.int .i64 1544))), (1, (.const (.int .i64 1544))), (2, (.const (.int .i64 2)))]) none,
  .mk (some 59) (.build 83 #[(0, (.const (.int .i64 1545))), (1, (.const (.int .i64 1546))), (2, (.const (.int .i64 5)))]) none,
  .mk (some 60) (.build 83 #[(0, (.const (.int .i64 1547))), (1, (.const (.int .i64 1547))), (2, (.const (.int .i64 2)))]) none,
  .mk (some 61) (.build 83 #[(0, (.const (.int .i64 1548))), (1, (.const (.int .i64 1548))), (2, (.const (.int .i64 7)))]) none,
  .mk (some 62) (.build 83 #[(0, (.const (.int .i64 1549))), (1, (.const (.int .i64 1549))), (2, (.const (.int .i64 2)))]) none,
  .mk (some 63) (.build 83 #[(0, (.const (.int .i64 1550))), (1, (.const (.int .i64 1551))), (2, (.const (.int .i64 13)))]) none,
  .mk (some 64) (.build 83 #[(0, (.const (.int .i64 1552))), (1, (.const (.int .i64 1562))), (2, (.const (.int .i64 8)))]) none,
  .mk (some 65) (.build 83 #[(0, (.const (.int .i64 1563))), (1, (.const (.int .i64 1610))), (2, (.const (.int .i64 2)))]) none,
  .mk (some 66) (.build 83 #[(0, (.const (.int .i64 1611))), (1, (.const (.int .i64 1631))), (2, (.const (.int .i64 8)))]) none,
  .mk (some 67) (.build 83 #[(0, (.const (.int .i64 1632))), (1, (.const (.int .i64 1641))), (2, (.const (.int .i64 6)))]) none,
  .mk (some 68) (.build 83 #[(0, (.const (.int .i64 1642))), (1, (.const (.int .i64 1642))), (2, (.const (.int .i64 5)))]) none,
  .mk (some 69) (.build 83 #[(0, (.const (.int .i64 1643))), (1, (.const (.int .i64 1644))), (2, (.const (.int .i64 6)))]) none,
  .mk (some 70) (.build 83 #[(0, (.const (.int .i64 1645))), (1, (.const (.int .i64 1647))), (2, (.const (.int .i64 2)))]) none,
  .mk (some 71) (.build 83 #[(0, (.const (.int .i64 1648))), (1, (.const (.int .i64 1648))), (2, (.const (.int .i64 8)))]) none,
  .mk (some 72) (.build 83 #[(0, (.const (.int .i64 1649))), (1, (.const (.int .i64 1749))), (2, (.const (.int .i64 2)))]) none,
  .mk (some 73) (.build 83 #[(0, (.const (.int .i64 1750))), (1, (.const (.int .i64 1756))), (2, (.const (.int .i64 8)))]) none,
  .mk (some 74) (.build 83 #[(0, (.const (.int .i64 1757))), (1, (.const (.int .i64 1757))), (2, (.const (.int .i64 6)))]) none,
  .mk (some 75) (.build 83 #[(0, (.const (.int .i64 1758))), (1, (.const (.int .i64 1758))), (2, (.const (.int .i64 13)))]) none,
  .mk (some 76) (.build 83 #[(0, (.const (.int .i64 1759))), (1, (.const (.int .i64 1764))), (2, (.const (.int .i64 8)))]) none,
  .mk (some 77) (.build 83 #[(0, (.const (.int .i64 1765))), (1, (.const (.int .i64 1766))), (2, (.const (.int .i64 2)))]) none,
  .mk (some 78) (.build 83 #[(0, (.const (.int .i64 1767))), (1, (.const (.int .i64 1768))), (2, (.const (.int .i64 8)))]) none,
  .mk (some 79) (.build 83 #[(0, (.const (.int .i64 1769))), (1, (.const (.int .i64 1769))), (2, (.const (.int .i64 13)))]) none,
  .mk (some 80) (.build 83 #[(0, (.const (.int .i64 1770))), (1, (.const (.int .i64 1773))), (2, (.const (.int .i64 8)))]) none,
  .mk (some 81) (.build 83 #[(0, (.const (.int .i64 1774))), (1, (.const (.int .i64 1775))), (2, (.const (.int .i64 2)))]) none,
  .mk (some 82) (.build 83 #[(0, (.const (.int .i64 1776))), (1, (.const (.int .i64 1785))), (2, (.const (.int .i64 3)))]) none,
  .mk (some 83) (.build 83 #[(0, (.const (.int .i64 1786))), (1, (.const (.int .i64 1808))), (2, (.const (.int .i64 2)))]) none,
  .mk (some 84) (.build 83 #[(0, (.const (.int .i64 1809))), (1, (.const (.int .i64 1809))), (2, (.const (.int .i64 8)))]) none,
  .mk (some 85) (.build 83 #[(0, (.const (.int .i64 1810))), (1, (.const (.int .i64 1839))), (2, (.const (.int .i64 2)))]) none,
  .mk (some 86) (.build 83 #[(0, (.const (.int .i64 1840))), (1, (.const (.int .i64 1866))), (2, (.const (.int .i64 8)))]) none,
  .mk (some 87) (.build 83 #[(0, (.const (.int .i64 1867))), (1, (.const (.int .i64 1957))), (2, (.const (.int .i64 2)))]) none,
  .mk (some 88) (.build 83 #[(0, (.const (.int .i64 1958))), (1, (.const (.int .i64 1968))), (2, (.const (.int .i64 8)))]) none,
  .mk (some 89) (.build 83 #[(0, (.const (.int .i64 1969))), (1, (.const (.int .i64 1983))), (2, (.const (.int .i64 2)))]) none,
  .mk (some 90) (.build 83 #[(0, (.const (.int .i64 1984))), (1, (.const (.int .i64 2026))), (2, (.const (.int .i64 1)))]) none,
  .mk (some 91) (.build 83 #[(0, (.const (.int .i64 2027))), (1, (.const (.int .i64 2035))), (2, (.const (.int .i64 8)))]) none,
  .mk (some 92) (.build 83 #[(0, (.const (.int .i64 2036))), (1, (.const (.int .i64 2037))), (2, (.const (.int .i64 1)))]) none,
  .mk (some 93) (.build 83 #[(0, (.const (.int .i64 2038))), (1, (.const (.int .i64 2041))), (2, (.const (.int .i64 13)))]) none,
  .mk (some 94) (.build 83 #[(0, (.const (.int .i64 2042))), (1, (.const (.int .i64 2044))), (2, (.const (.int .i64 1)))]) none,
  .mk (some 95) (.build 83 #[(0, (.const (.int .i64 2045))), (1, (.const (.int .i64 2045))), (2, (.const (.int .i64 8)))]) none,
  .mk (some 96) (.build 83 #[(0, (.const (.int .i64 2046))), (1, (.const (.int .i64 2069))), (2, (.const (.int .i64 1)))]) none,
  .mk (some 97) (.build 83 #[(0, (.const (.int .i64 2070))), (1, (.const (.int .i64 2073))), (2, (.const (.int .i64 8)))]) none,
  .mk (some 98) (.build 83 #[(0, (.const (.int .i64 2074))), (1, (.const (.int .i64 2074))), (2, (.const (.int .i64 1)))]) none,
  .mk (some 99) (.build 83 #[(0, (.const (.int .i64 2075))), (1, (.const (.int .i64 2083))), (2, (.const (.int .i64 8)))]) none,
  .mk (some 100) (.build 83 #[(0, (.const (.int .i64 2084))), (1, (.const (.int .i64 2084))), (2, (.const (.int .i64 1)))]) none,
  .mk (some 101) (.build 83 #[(0, (.const (.int .i64 2085))), (1, (.const (.int .i64 2087))), (2, (.const (.int .i64 8)))]) none,
  .mk (some 102) (.build 83 #[(0, (.const (.int .i64 2088))), (1, (.const (.int .i64 2088))), (2, (.const (.int .i64 1)))]) none,
  .mk (some 103) (.build 83 #[(0, (.const (.int .i64 2089))), (1, (.const (.int .i64 2093))), (2, (.const (.int .i64 8)))]) none,
  .mk (some 104) (.build 83 #[(0, (.const (.int .i64 2094))), (1, (.const (.int .i64 2136))), (2, (.const (.int .i64 1)))]) none,
  .mk (some 105) (.build 83 #[(0, (.const (.int .i64 2137))), (1, (.const (.int .i64 2139))), (2, (.const (.int .i64 8)))]) none,
  .mk (some 106) (.build 83 #[(0, (.const (.int .i64 2140))), (1, (.const (.int .i64 2143))), (2, (.const (.int .i64 1)))]) none,
  .mk (some 107) (.build 83 #[(0, (.const (.int .i64 2144))), (1, (.const (.int .i64 2191))), (2, (.const (.int .i64 2)))]) none,
  .mk (some 108) (.build 83 #[(0, (.const (.int .i64 2192))), (1, (.const (.int .i64 2193))), (2, (.const (.int .i64 6)))]) none,
  .mk (some 109) (.build 83 #[(0, (.const (.int .i64 2194))), (1, (.const (.int .i64 2199))), (2, (.const (.int .i64 2)))]) none,
  .mk (some 110) (.build 83 #[(0, (.const (.int .i64 2200))), (1, (.const (.int .i64 2207))), (2, (.const (.int .i64 8)))]) none,
  .mk (some 111) (.build 83 #[(0, (.const (.int .i64 2208))), (1, (.const (.int .i64 2249))), (2, (.const (.int .i64 2)))]) none,
  .mk (some 112) (.build 83 #[(0, (.const (.int .i64 2250))), (1, (.const (.int .i64 2273))), (2, (.const (.int .i64 8)))]) none,
  .mk (some 113) (.build 83 #[(0, (.const (.int .i64 2274))), (1, (.const (.int .i64 2274))), (2, (.const (.int .i64 6)))]) none,
  .mk (some 114) (.build 83 #[(0, (.const (.int .i64 2275))), (1, (.const (.int .i64 2306))), (2, (.const (.int .i64 8)))]) none,
  .mk (some 115) (.build 83 #[(0, (.const (.int .i64 8192))), (1, (.const (.int .i64 8202))), (2, (.const (.int .i64 12)))]) none,
  .mk (some 116) (.build 83 #[(0, (.const (.int .i64 8203))), (1, (.const (.int .i64 8205))), (2, (.const (.int .i64 9)))]) none,
  .mk (some 117) (.build 83 #[(0, (.const (.int .i64 8207))), (1, (.const (.int .i64 8207))), (2, (.const (.int .i64 1)))]) none,
  .mk (some 118) (.build 83 #[(0, (.const (.int .i64 8208))), (1, (.const (.int .i64 8231))), (2, (.const (.int .i64 13)))]) none,
  .mk (some 119) (.build 83 #[(0, (.const (.int .i64 8232))), (1, (.const (.int .i64 8232))), (2, (.const (.int .i64 12)))]) none,
  .mk (some 120) (.build 83 #[(0, (.const (.int .i64 8233))), (1, (.const (.int .i64 8233))), (2, (.const (.int .i64 10)))]) none,
  .mk (some 121) (.build 83 #[(0, (.const (.int .i64 8234))), (1, (.const (.int .i64 8234))), (2, (.const (.int .i64 14)))]) none,
  .mk (some 122) (.build 83 #[(0, (.const (.int .i64 8235))), (1, (.const (.int .i64 8235))), (2, (.const (.int .i64 16)))]) none,
  .mk (some 123) (.build 83 #[(0, (.const (.int .i64 8236))), (1, (.const (.int .i64 8236))), (2, (.const (.int .i64 18)))]) none,
  .mk (some 124) (.build 83 #[(0, (.const (.int .i64 8237))), (1, (.const (.int .i64 8237))), (2, (.const (.int .i64 15)))]) none,
  .mk (some 125) (.build 83 #[(0, (.const (.int .i64 8238))), (1, (.const (.int .i64 8238))), (2, (.const (.int .i64 17)))]) none,
  .mk (some 126) (.build 83 #[(0, (.const (.int .i64 8239))), (1, (.const (.int .i64 8239))), (2, (.const (.int .i64 7)))]) none,
  .mk (some 127) (.build 83 #[(0, (.const (.int .i64 8240))), (1, (.const (.int .i64 8244))), (2, (.const (.int .i64 5)))]) none,
  .mk (some 128) (.build 83 #[(0, (.const (.int .i64 8245))), (1, (.const (.int .i64 8259))), (2, (.const (.int .i64 13)))]) none,
  .mk (some 129) (.build 83 #[(0, (.const (.int .i64 8260))), (1, (.const (.int .i64 8260))), (2, (.const (.int .i64 7)))]) none,
  .mk (some 130) (.build 83 #[(0, (.const (.int .i64 8261))), (1, (.const (.int .i64 8286))), (2, (.const (.int .i64 13)))]) none,
  .mk (some 131) (.build 83 #[(0, (.const (.int .i64 8287))), (1, (.const (.int .i64 8287))), (2, (.const (.int .i64 12)))]) none,
  .mk (some 132) (.build 83 #[(0, (.const (.int .i64 8288))), (1, (.const (.int .i64 8293))), (2, (.const (.int .i64 9)))]) none,
  .mk (some 133) (.build 83 #[(0, (.const (.int .i64 8294))), (1, (.const (.int .i64 8294))), (2, (.const (.int .i64 19)))]) none,
  .mk (some 134) (.build 83 #[(0, (.const (.int .i64 8295))), (1, (.const (.int .i64 8295))), (2, (.const (.int .i64 20)))]) none,
  .mk (some 135) (.build 83 #[(0, (.const (.int .i64 8296))), (1, (.const (.int .i64 8296))), (2, (.const (.int .i64 21)))]) none,
  .mk (some 136) (.build 83 #[(0, (.const (.int .i64 8297))), (1, (.const (.int .i64 8297))), (2, (.const (.int .i64 22)))]) none,
  .mk (some 137) (.build 83 #[(0, (.const (.int .i64 8298))), (1, (.const (.int .i64 8303))), (2, (.const (.int .i64 9)))]) none,
  .mk (some 138) (.build 83 #[(0, (.const (.int .i64 8304))), (1, (.const (.int .i64 8304))), (2, (.const (.int .i64 3)))]) none,
  .mk (some 139) (.build 83 #[(0, (.const (.int .i64 8308))), (1, (.const (.int .i64 8313))), (2, (.const (.int .i64 3)))]) none,
  .mk (some 140) (.build 83 #[(0, (.const (.int .i64 8314))), (1, (.const (.int .i64 8315))), (2, (.const (.int .i64 4)))]) none,
  .mk (some 141) (.build 83 #[(0, (.const (.int .i64 8316))), (1, (.const (.int .i64 8318))), (2, (.const (.int .i64 13)))]) none,
  .mk (some 142) (.build 83 #[(0, (.const (.int .i64 8320))), (1, (.const (.int .i64 8329))), (2, (.const (.int .i64 3)))]) none,
  .mk (some 143) (.build 83 #[(0, (.const (.int .i64 8330))), (1, (.const (.int .i64 8331))), (2, (.const (.int .i64 4)))]) none,
  .mk (some 144) (.build 83 #[(0, (.const (.int .i64 8332))), (1, (.const (.int .i64 8334))), (2, (.const (.int .i64 13)))]) none,
  .mk (some 145) (.build 83 #[(0, (.const (.int .i64 8352))), (1, (.const (.int .i64 8399))), (2, (.const (.int .i64 5)))]) none,
  .mk (some 146) (.build 83 #[(0, (.const (.int .i64 8400))), (1, (.const (.int .i64 8432))), (2, (.const (.int .i64 8)))]) none,
  .mk (some 147) (.build 83 #[(0, (.const (.int .i64 8592))), (1, (.const (.int .i64 8721))), (2, (.const (.int .i64 13)))]) none,
  .mk (some 148) (.build 83 #[(0, (.const (.int .i64 8722))), (1, (.const (.int .i64 8722))), (2, (.const (.int .i64 4)))]) none,
  .mk (some 149) (.build 83 #[(0, (.const (.int .i64 8723))), (1, (.const (.int .i64 8723))), (2, (.const (.int .i64 5)))]) none,
  .mk (some 150) (.build 83 #[(0, (.const (.int .i64 8724))), (1, (.const (.int .i64 9013))), (2, (.const (.int .i64 13)))]) none,
  .mk (some 151) (.build 83 #[(0, (.const (.int .i64 9083))), (1, (.const (.int .i64 9108))), (2, (.const (.int .i64 13)))]) none,
  .mk (some 152) (.build 83 #[(0, (.const (.int .i64 9110))), (1, (.const (.int .i64 9254))), (2, (.const (.int .i64 13)))]) none,
  .mk (some 153) (.build 83 #[(0, (.const (.int .i64 9280))), (1, (.const (.int .i64 9290))), (2, (.const (.int .i64 13)))]) none,
  .mk (some 154) (.build 83 #[(0, (.const (.int .i64 9312))), (1, (.const (.int .i64 9351))), (2, (.const (.int .i64 13)))]) none,
  .mk (some 155) (.build 83 #[(0, (.const (.int .i64 9352))), (1, (.const (.int .i64 9371))), (2, (.const (.int .i64 3)))]) none,
  .mk (some 156) (.build 83 #[(0, (.const (.int .i64 9450))), (1, (.const (.int .i64 9899))), (2, (.const (.int .i64 13)))]) none,
  .mk (some 157) (.build 83 #[(0, (.const (.int .i64 9901))), (1, (.const (.int .i64 10239))), (2, (.const (.int .i64 13)))]) none,
  .mk (some 158) (.build 83 #[(0, (.const (.int .i64 10496))), (1, (.const (.int .i64 11123))), (2, (.const (.int .i64 13)))]) none,
  .mk (some 159) (.build 83 #[(0, (.const (.int .i64 11776))), (1, (.const (.int .i64 11869))), (2, (.const (.int .i64 13)))]) none,
  .mk (some 160) (.build 83 #[(0, (.const (.int .i64 12288))), (1, (.const (.int .i64 12288))), (2, (.const (.int .i64 12)))]) none,
  .mk (some 161) (.build 83 #[(0, (.const (.int .i64 12289))), (1, (.const (.int .i64 12292))), (2, (.const (.int .i64 13)))]) none,
  .mk (some 162) (.build 83 #[(0, (.const (.int .i64 12296))), (1, (.const (.int .i64 12320))), (2, (.const (.int .i64 13)))]) none,
  .mk (some 163) (.build 83 #[(0, (.const (.int .i64 12330))), (1, (.const (.int .i64 12333))), (2, (.const (.int .i64 8)))]) none,
  .mk (some 164) (.build 83 #[(0, (.const (.int .i64 12336))), (1, (.const (.int .i64 12336))), (2, (.const (.int .i64 13)))]) none,
  .mk (some 165) (.build 83 #[(0, (.const (.int .i64 64285))), (1, (.const (.int .i64 64285))), (2, (.const (.int .i64 1)))]) none,
  .mk (some 166) (.build 83 #[(0, (.const (.int .i64 64286))), (1, (.const (.int .i64 64286))), (2, (.const (.int .i64 8)))]) none,
  .mk (some 167) (.build 83 #[(0, (.const (.int .i64 64287))), (1, (.const (.int .i64 64296))), (2, (.const (.int .i64 1)))]) none,
  .mk (some 168) (.build 83 #[(0, (.const (.int .i64 64297))), (1, (.const (.int .i64 64297))), (2, (.const (.int .i64 4)))]) none,
  .mk (some 169) (.build 83 #[(0, (.const (.int .i64 64298))), (1, (.const (.int .i64 64335))), (2, (.const (.int .i64 1)))]) none,
  .mk (some 170) (.build 83 #[(0, (.const (.int .i64 64336))), (1, (.const (.int .i64 64829))), (2, (.const (.int .i64 2)))]) none,
  .mk (some 171) (.build 83 #[(0, (.const (.int .i64 64830))), (1, (.const (.int .i64 64847))), (2, (.const (.int .i64 13)))]) none,
  .mk (some 172) (.build 83 #[(0, (.const (.int .i64 64848))), (1, (.const (.int .i64 64974))), (2, (.const (.int .i64 2)))]) none,
  .mk (some 173) (.build 83 #[(0, (.const (.int .i64 64975))), (1, (.const (.int .i64 64975))), (2, (.const (.int .i64 13)))]) none,
  .mk (some 174) (.build 83 #[(0, (.const (.int .i64 64976))), (1, (.const (.int .i64 65007))), (2, (.const (.int .i64 9)))]) none,
  .mk (some 175) (.build 83 #[(0, (.const (.int .i64 65008))), (1, (.const (.int .i64 65020))), (2, (.const (.int .i64 2)))]) none,
  .mk (some 176) (.build 83 #[(0, (.const (.int .i64 65021))), (1, (.const (.int .i64 65023))), (2, (.const (.int .i64 13)))]) none,
  .mk (some 177) (.build 83 #[(0, (.const (.int .i64 65024))), (1, (.const (.int .i64 65039))), (2, (.const (.int .i64 8)))]) none,
  .mk (some 178) (.build 83 #[(0, (.const (.int .i64 65040))), (1, (.const (.int .i64 65049))), (2, (.const (.int .i64 13)))]) none,
  .mk (some 179) (.build 83 #[(0, (.const (.int .i64 65056))), (1, (.const (.int .i64 65071))), (2, (.const (.int .i64 8)))]) none,
  .mk (some 180) (.build 83 #[(0, (.const (.int .i64 65072))), (1, (.const (.int .i64 65103))), (2, (.const (.int .i64 13)))]) none,
  .mk (some 181) (.build 83 #[(0, (.const (.int .i64 65104))), (1, (.const (.int .i64 65104))), (2, (.const (.int .i64 7)))]) none,
  .mk (some 182) (.build 83 #[(0, (.const (.int .i64 65105))), (1, (.const (.int .i64 65105))), (2, (.const (.int .i64 13)))]) none,
  .mk (some 183) (.build 83 #[(0, (.const (.int .i64 65106))), (1, (.const (.int .i64 65106))), (2, (.const (.int .i64 7)))]) none,
  .mk (some 184) (.build 83 #[(0, (.const (.int .i64 65108))), (1, (.const (.int .i64 65108))), (2, (.const (.int .i64 13)))]) none,
  .mk (some 185) (.build 83 #[(0, (.const (.int .i64 65109))), (1, (.const (.int .i64 65109))), (2, (.const (.int .i64 7)))]) none,
  .mk (some 186) (.build 83 #[(0, (.const (.int .i64 65110))), (1, (.const (.int .i64 65118))), (2, (.const (.int .i64 13)))]) none,
  .mk (some 187) (.build 83 #[(0, (.const (.int .i64 65119))), (1, (.const (.int .i64 65119))), (2, (.const (.int .i64 5)))]) none,
  .mk (some 188) (.build 83 #[(0, (.const (.int .i64 65120))), (1, (.const (.int .i64 65121))), (2, (.const (.int .i64 13)))]) none,
  .mk (some 189) (.build 83 #[(0, (.const (.int .i64 65122))), (1, (.const (.int .i64 65123))), (2, (.const (.int .i64 4)))]) none,
  .mk (some 190) (.build 83 #[(0, (.const (.int .i64 65124))), (1, (.const (.int .i64 65126))), (2, (.const (.int .i64 13)))]) none,
  .mk (some 191) (.build 83 #[(0, (.const (.int .i64 65128))), (1, (.const (.int .i64 65128))), (2, (.const (.int .i64 13)))]) none,
  .mk (some 192) (.build 83 #[(0, (.const (.int .i64 65129))), (1, (.const (.int .i64 65130))), (2, (.const (.int .i64 5)))]) none,
  .mk (some 193) (.build 83 #[(0, (.const (.int .i64 65131))), (1, (.const (.int .i64 65131))), (2, (.const (.int .i64 13)))]) none,
  .mk (some 194) (.build 83 #[(0, (.const (.int .i64 65136))), (1, (.const (.int .i64 65278))), (2, (.const (.int .i64 2)))]) none,
  .mk (some 195) (.build 83 #[(0, (.const (.int .i64 65279))), (1, (.const (.int .i64 65279))), (2, (.const (.int .i64 9)))]) none,
  .mk (some 196) (.build 83 #[(0, (.const (.int .i64 65281))), (1, (.const (.int .i64 65282))), (2, (.const (.int .i64 13)))]) none,
  .mk (some 197) (.build 83 #[(0, (.const (.int .i64 65283))), (1, (.const (.int .i64 65285))), (2, (.const (.int .i64 5)))]) none,
  .mk (some 198) (.build 83 #[(0, (.const (.int .i64 65286))), (1, (.const (.int .i64 65290))), (2, (.const (.int .i64 13)))]) none,
  .mk (some 199) (.build 83 #[(0, (.const (.int .i64 65291))), (1, (.const (.int .i64 65291))), (2, (.const (.int .i64 4)))]) none,
  .mk (some 200) (.build 83 #[(0, (.const (.int .i64 65292))), (1, (.const (.int .i64 65292))), (2, (.const (.int .i64 7)))]) none,
  .mk (some 201) (.build 83 #[(0, (.const (.int .i64 65293))), (1, (.const (.int .i64 65293))), (2, (.const (.int .i64 4)))]) none,
  .mk (some 202) (.build 83 #[(0, (.const (.int .i64 65294))), (1, (.const (.int .i64 65295))), (2, (.const (.int .i64 7)))]) none,
  .mk (some 203) (.build 83 #[(0, (.const (.int .i64 65296))), (1, (.const (.int .i64 65305))), (2, (.const (.int .i64 3)))]) none,
  .mk (some 204) (.build 83 #[(0, (.const (.int .i64 65306))), (1, (.const (.int .i64 65306))), (2, (.const (.int .i64 7)))]) none,
  .mk (some 205) (.build 83 #[(0, (.const (.int .i64 65307))), (1, (.const (.int .i64 65312))), (2, (.const (.int .i64 13)))]) none,
  .mk (some 206) (.build 83 #[(0, (.const (.int .i64 65339))), (1, (.const (.int .i64 65344))), (2, (.const (.int .i64 13)))]) none,
  .mk (some 207) (.build 83 #[(0, (.const (.int .i64 65371))), (1, (.const (.int .i64 65381))), (2, (.const (.int .i64 13)))]) none,
  .mk (some 208) (.build 83 #[(0, (.const (.int .i64 65504))), (1, (.const (.int .i64 65505))), (2, (.const (.int .i64 5)))]) none,
  .mk (some 209) (.build 83 #[(0, (.const (.int .i64 65506))), (1, (.const (.int .i64 65508))), (2, (.const (.int .i64 13)))]) none,
  .mk (some 210) (.build 83 #[(0, (.const (.int .i64 65509))), (1, (.const (.int .i64 65510))), (2, (.const (.int .i64 5)))]) none,
  .mk (some 211) (.build 83 #[(0, (.const (.int .i64 65520))), (1, (.const (.int .i64 65528))), (2, (.const (.int .i64 9)))]) none,
  .mk (some 212) (.build 83 #[(0, (.const (.int .i64 65529))), (1, (.const (.int .i64 65533))), (2, (.const (.int .i64 13)))]) none,
  .mk (some 213) (.build 83 #[(0, (.const (.int .i64 65534))), (1, (.const (.int .i64 65535))), (2, (.const (.int .i64 9)))]) none,
  .mk (some 214) (.build 83 #[(0, (.const (.int .i64 67584))), (1, (.const (.int .i64 68863))), (2, (.const (.int .i64 1)))]) none,
  .mk (some 215) (.build 83 #[(0, (.const (.int .i64 68864))), (1, (.const (.int .i64 68927))), (2, (.const (.int .i64 2)))]) none,
  .mk (some 216) (.build 83 #[(0, (.const (.int .i64 68928))), (1, (.const (.int .i64 69631))), (2, (.const (.int .i64 1)))]) none,
  .mk (some 217) (.build 83 #[(0, (.const (.int .i64 120782))), (1, (.const (.int .i64 120831))), (2, (.const (.int .i64 3)))]) none,
  .mk (some 218) (.build 83 #[(0, (.const (.int .i64 124928))), (1, (.const (.int .i64 126063))), (2, (.const (.int .i64 1)))]) none,
  .mk (some 219) (.build 83 #[(0, (.const (.int .i64 126064))), (1, (.const (.int .i64 126143))), (2, (.const (.int .i64 2)))]) none,
  .mk (some 220) (.build 83 #[(0, (.const (.int .i64 126144))), (1, (.const (.int .i64 126207))), (2, (.const (.int .i64 1)))]) none,
  .mk (some 221) (.build 83 #[(0, (.const (.int .i64 126208))), (1, (.const (.int .i64 126287))), (2, (.const (.int .i64 2)))]) none,
  .mk (some 222) (.build 83 #[(0, (.const (.int .i64 126288))), (1, (.const (.int .i64 126463))), (2, (.const (.int .i64 1)))]) none,
  .mk (some 223) (.build 83 #[(0, (.const (.int .i64 126464))), (1, (.const (.int .i64 126719))), (2, (.const (.int .i64 2)))]) none,
  .mk (some 224) (.build 83 #[(0, (.const (.int .i64 126720))), (1, (.const (.int .i64 126975))), (2, (.const (.int .i64 1)))]) none,
  .mk (some 225) (.build 83 #[(0, (.const (.int .i64 126976))), (1, (.const (.int .i64 127231))), (2, (.const (.int .i64 13)))]) none,
  .mk (some 226) (.build 83 #[(0, (.const (.int .i64 127232))), (1, (.const (.int .i64 127242))), (2, (.const (.int .i64 3)))]) none,
  .mk (some 227) (.build 83 #[(0, (.const (.int .i64 127744))), (1, (.const (.int .i64 128727))), (2, (.const (.int .i64 13)))]) none,
  .mk (some 228) (.build 83 #[(0, (.const (.int .i64 917504))), (1, (.const (.int .i64 917759))), (2, (.const (.int .i64 9)))]) none,
  .mk (some 229) (.build 83 #[(0, (.const (.int .i64 917760))), (1, (.const (.int .i64 917999))), (2, (.const (.int .i64 8)))]) none,
  .mk (some 230) (.build 83 #[(0, (.const (.int .i64 918000))), (1, (.const (.int .i64 921599))), (2, (.const (.int .i64 9)))]) none,
  .mk (some 231) (.buildSlice 49 230 #[(0, (.tmp 1)), (1, (.tmp 2)), (2, (.tmp 3)), (3, (.tmp 4)), (4, (.tmp 5)), (5, (.tmp 6)), (6, (.tmp 7)), (7, (.tmp 8)), (8, (.tmp 9)), (9, (.tmp 10)), (10, (.tmp 11)), (11, (.tmp 12)), (12, (.tmp 13)), (13, (.tmp 14)), (14, (.tmp 15)), (15, (.tmp 16)), (16, (.tmp 17)), (17, (.tmp 18)), (18, (.tmp 19)), (19, (.tmp 20)), (20, (.tmp 21)), (21, (.tmp 22)), (22, (.tmp 23)), (23, (.tmp 24)), (24, (.tmp 25)), (25, (.tmp 26)), (26, (.tmp 27)), (27, (.tmp 28)), (28, (.tmp 29)), (29, (.tmp 30)), (30, (.tmp 31)), (31, (.tmp 32)), (32, (.tmp 33)), (33, (.tmp 34)), (34, (.tmp 35)), (35, (.tmp 36)), (36, (.tmp 37)), (37, (.tmp 38)), (38, (.tmp 39)), (39, (.tmp 40)), (40, (.tmp 41)), (41, (.tmp 42)), (42, (.tmp 43)), (43, (.tmp 44)), (44, (.tmp 45)), (45, (.tmp 46)), (46, (.tmp 47)), (47, (.tmp 48)), (48, (.tmp 49)), (49, (.tmp 50)), (50, (.tmp 51)), (51, (.tmp 52)), (52, (.tmp 53)), (53, (.tmp 54)), (54, (.tmp 55)), (55, (.tmp 56)), (56, (.tmp 57)), (57, (.tmp 58)), (58, (.tmp 59)), (59, (.tmp 60)), (60, (.tmp 61)), (61, (.tmp 62)), (62, (.tmp 63)), (63, (.tmp 64)), (64, (.tmp 65)), (65, (.tmp 66)), (66, (.tmp 67)), (67, (.tmp 68)), (68, (.tmp 69)), (69, (.tmp 70)), (70, (.tmp 71)), (71, (.tmp 72)), (72, (.tmp 73)), (73, (.tmp 74)), (74, (.tmp 75)), (75, (.tmp 76)), (76, (.tmp 77)), (77, (.tmp 78)), (78, (.tmp 79)), (79, (.tmp 80)), (80, (.tmp 81)), (81, (.tmp 82)), (82, (.tmp 83)), (83, (.tmp 84)), (84, (.tmp 85)), (85, (.tmp 86)), (86, (.tmp 87)), (87, (.tmp 88)), (88, (.tmp 89)), (89, (.tmp 90)), (90, (.tmp 91)), (91, (.tmp 92)), (92, (.tmp 93)), (93, (.tmp 94)), (94, (.tmp 95)), (95, (.tmp 96)), (96, (.tmp 97)), (97, (.tmp 98)), (98, (.tmp 99)), (99, (.tmp 100)), (100, (.tmp 101)), (101, (.tmp 102)), (102, (.tmp 103)), (103, (.tmp 104)), (104, (.tmp 105)), (105, (.tmp 106)), (106, (.tmp 107)), (107, (.tmp 108)), (108, (.tmp 109)), (109, (.tmp 110)), (110, (.tmp 111)), (111, (.tmp 112)), (112, (.tmp 113)), (113, (.tmp 114)), (114, (.tmp 115)), (115, (.tmp 116)), (116, (.tmp 117)), (117, (.tmp 118)), (118, (.tmp 119)), (119, (.tmp 120)), (120, (.tmp 121)), (121, (.tmp 122)), (122, (.tmp 123)), (123, (.tmp 124)), (124, (.tmp 125)), (125, (.tmp 126)), (126, (.tmp 127)), (127, (.tmp 128)), (128, (.tmp 129)), (129, (.tmp 130)), (130, (.tmp 131)), (131, (.tmp 132)), (132, (.tmp 133)), (133, (.tmp 134)), (134, (.tmp 135)), (135, (.tmp 136)), (136, (.tmp 137)), (137, (.tmp 138)), (138, (.tmp 139)), (139, (.tmp 140)), (140, (.tmp 141)), (141, (.tmp 142)), (142, (.tmp 143)), (143, (.tmp 144)), (144, (.tmp 145)), (145, (.tmp 146)), (146, (.tmp 147)), (147, (.tmp 148)), (148, (.tmp 149)), (149, (.tmp 150)), (150, (.tmp 151)), (151, (.tmp 152)), (152, (.tmp 153)), (153, (.tmp 154)), (154, (.tmp 155)), (155, (.tmp 156)), (156, (.tmp 157)), (157, (.tmp 158)), (158, (.tmp 159)), (159, (.tmp 160)), (160, (.tmp 161)), (161, (.tmp 162)), (162, (.tmp 163)), (163, (.tmp 164)), (164, (.tmp 165)), (165, (.tmp 166)), (166, (.tmp 167)), (167, (.tmp 168)), (168, (.tmp 169)), (169, (.tmp 170)), (170, (.tmp 171)), (171, (.tmp 172)), (172, (.tmp 173)), (173, (.tmp 174)), (174, (.tmp 175)), (175, (.tmp 176)), (176, (.tmp 177)), (177, (.tmp 178)), (178, (.tmp 179)), (179, (.tmp 180)), (180, (.tmp 181)), (181, (.tmp 182)), (182, (.tmp 183)), (183, (.tmp 184)), (184, (.tmp 185)), (185, (.tmp 186)), (186, (.tmp 187)), (187, (.tmp 188)), (188, (.tmp 189)), (189, (.tmp 190)), (190, (.tmp 191)), (191, (.tmp 192)), (192, (.tmp 193)), (193, (.tmp 194)), (194, (.tmp 195)), (195, (.tmp 196)), (196, (.tmp 197)), (197, (.tmp 198)), (198, (.tmp 199)), (199, (.tmp 200)), (200, (.tmp 201)), (201, (.tmp 202)), (202, (.tmp 203)), (203, (.tmp 204)), (204, (.tmp 205)), (205, (.tmp 206)), (206, (.tmp 207)), (207, (.tmp 208)), (208, (.tmp 209)), (209, (.tmp 210)), (210, (.tmp 211)), (211, (.tmp 212)), (212, (.tmp 213)), (213, (.tmp 214)), (214, (.tmp 215)), (215, (.tmp 216)), (216, (.tmp 217)), (217, (.tmp 218)), (218, (.tmp 219)), (219, (.tmp 220)), (220, (.tmp 221)), (221, (.tmp 222)), (222, (.tmp 223)), (223, (.tmp 224)), (224, (.tmp 225)), (225, (.tmp 226)), (226, (.tmp 227)), (227, (.tmp 228)), (228, (.tmp 229)), (229, (.tmp 230))]) none,
  .mk (some 0) (.assign (.tmp 231)) none]
def c30 : PC := (.seq (.reg false r30_0) (.seq (.reg false r30_1) .ret))
theorem e30 {args : List PV} {h : Heap} {K : PV → Heap → Prop} (hl : args.length = 0) (s : pwp Try.prog [] c30 (fin Try.prog [.tmp 0] h K) (slots0 (olds args)) h) : CanP Try.prog 30 args h K :=
  can_of2 (n := 232) mixed Try.func30 rfl (by kernel_rfl) (by rw [hl]; kernel_rfl) rfl (by kernel_rfl) s
/-! ### naskh.api.JoinRanges: function 31 -/
def r31_0 : List PS := [.mk (some 0) (.assign (.const (.slice none 0 0))) none]
def r31_1 : List PS := [.mk (some 1) (.build 83 #[(0, (.const (.int .i64 768))), (1, (.const (.int .i64 879))), (2, (.const (.int .i64 1)))]) none,
  .mk (some 2) (.build 83 #[(0, (.const (.int .i64 1155))), (1, (.const (.int .i64 1161))), (2, (.const (.int .i64 1)))]) none,
  .mk (some 3) (.build 83 #[(0, (.const (.int .i64 1425))), (1, (.const (.int .i64 1469))), (2, (.const (.int .i64 1)))]) none,
  .mk (some 4) (.build 83 #[(0, (.const (.int .i64 1471))), (1, (.const (.int .i64 1471))), (2, (.const (.int .i64 1)))]) none,
  .mk (some 5) (.build 83 #[(0, (.const (.int .i64 1473))), (1, (.const (.int .i64 1474))), (2, (.const (.int .i64 1)))]) none,
  .mk (some 6) (.build 83 #[(0, (.const (.int .i64 1476))), (1, (.const (.int .i64 1477))), (2, (.const (.int .i64 1)))]) none,
  .mk (some 7) (.build 83 #[(0, (.const (.int .i64 1479))), (1, (.const (.int .i64 1479))), (2, (.const (.int .i64 1)))]) none,
  .mk (some 8) (.build 83 #[(0, (.const (.int .i64 1552))), (1, (.const (.int .i64 1562))), (2, (.const (.int .i64 1)))]) none,
  .mk (some 9) (.build 83 #[(0, (.const (.int .i64 1564))), (1, (.const (.int .i64 1564))), (2, (.const (.int .i64 1)))]) none,
  .mk (some 10) (.build 83 #[(0, (.const (.int .i64 1568))), (1, (.const (.int .i64 1568))), (2, (.const (.int .i64 3)))]) none,
  .mk (some 11) (.build 83 #[(0, (.const (.int .i64 1570))), (1, (.const (.int .i64 1573))), (2, (.const (.int .i64 2)))]) none,
  .mk (some 12) (.build 83 #[(0, (.const (.int .i64 1574))), (1, (.const (.int .i64 1574))), (2, (.const (.int .i64 3)))]) none,
  .mk (some 13) (.build 83 #[(0, (.const (.int .i64 1575))), (1, (.const (.int .i64 1575))), (2, (.const (.int .i64 2)))]) none,
  .mk (some 14) (.build 83 #[(0, (.const (.int .i64 1576))), (1, (.const (.int .i64 1576))), (2, (.const (.int .i64 3)))]) none,
  .mk (some 15) (.build 83 #[(0, (.const (.int .i64 1577))), (1, (.const (.int .i64 1577))), (2, (.const (.int .i64 2)))]) none,
  .mk (some 16) (.build 83 #[(0, (.const (.int .i64 1578))), (1, (.const (.int .i64 1582))), (2, (.const (.int .i64 3)))]) none,
  .mk (some 17) (.build 83 #[(0, (.const (.int .i64 1583))), (1, (.const (.int .i64 1586))), (2, (.const (.int .i64 2)))]) none,
  .mk (some 18) (.build 83 #[(0, (.const (.int .i64 1587))), (1, (.const (.int .i64 1599))), (2, (.const (.int .i64 3)))]) none,
  .mk (some 19) (.build 83 #[(0, (.const (.int .i64 1600))), (1, (.const (.int .i64 1600))), (2, (.const (.int .i64 5)))]) none,
  .mk (some 20) (.build 83 #[(0, (.const (.int .i64 1601))), (1, (.const (.int .i64 1607))), (2, (.const (.int .i64 3)))]) none,
  .mk (some 21) (.build 83 #[(0, (.const (.int .i64 1608))), (1, (.const (.int .i64 1608))), (2, (.const (.int .i64 2)))]) none,
  .mk (some 22) (.build 83 #[(0, (.const (.int .i64 1609))), (1, (.const (.int .i64 1610))), (2, (.const (.int .i64 3)))]) none,
  .mk (some 23) (.build 83 #[(0, (.const (.int .i64 1611))), (1, (.const (.int .i64 1631))), (2, (.const (.int .i64 1)))]) none,
  .mk (some 24) (.build 83 #[(0, (.const (.int .i64 1646))), (1, (.const (.int .i64 1647))), (2, (.const (.int .i64 3)))]) none,
  .mk (some 25) (.build 83 #[(0, (.const (.int .i64 1648))), (1, (.const (.int .i64 1648))), (2, (.const (.int .i64 1)))]) none,
  .mk (some 26) (.build 83 #[(0, (.const (.int .i64 1649))), (1, (.const (.int .i64 1651))), (2, (.const (.int .i64 2)))]) none,
  .mk (some 27) (.build 83 #[(0, (.const (.int .i64 1653))), (1, (.const (.int .i64 1655))), (2, (.const (.int .i64 2)))]) none,
  .mk (some 28) (.build 83 #[(0, (.const (.int .i64 1656))), (1, (.const (.int .i64 1671))), (2, (.const (.int .i64 3)))]) none,
  .mk (some 29) (.build 83 #[(0, (.const (.int .i64 1672))), (1, (.const (.int .i64 1689))), (2, (.const (.int .i64 2)))]) none,
  .mk (some 30) (.build 83 #[(0, (.const (.int .i64 1690))), (1, (.const (.int .i64 1727))), (2, (.const (.int .i64 3)))]) none,
  .mk (some 31) (.build 83 #[(0, (.const (.int .i64 1728))), (1, (.const (.int .i64 1728))), (2, (.const (.int .i64 2)))]) none,
  .mk (some 32) (.build 83 #[(0, (.const (.int .i64 1729))), (1, (.const (.int .i64 1730))), (2, (.const (.int .i64 3)))]) none,
  .mk (some 33) (.build 83 #[(0, (.const (.int .i64 1731))), (1, (.const (.int .i64 1739))), (2, (.const (.int .i64 2)))]) none,
  .mk (some 34) (.build 83 #[(0, (.const (.int .i64 1740))), (1, (.const (.int .i64 1740))), (2, (.const (.int .i64 3)))]) none,
  .mk (some 35) (.build 83 #[(0, (.const (.int .i64 1741))), (1, (.const (.int .i64 1741))), (2, (.const (.int .i64 2)))]) none,
  .mk (some 36) (.build 83 #[(0, (.const (.int .i64 1742))), (1, (.const (.int .i64 1742))), (2, (.const (.int .i64 3)))]) none,
  .mk (some 37) (.build 83 #[(0, (.const (.int .i64 1743))), (1, (.const (.int .i64 1743))), (2, (.const (.int .i64 2)))]) none,
  .mk (some 38) (.build 83 #[(0, (.const (.int .i64 1744))), (1, (.const (.int .i64 1745))), (2, (.const (.int .i64 3)))]) none,
  .mk (some 39) (.build 83 #[(0, (.const (.int .i64 1746))), (1, (.const (.int .i64 1747))), (2, (.const (.int .i64 2)))]) none,
  .mk (some 40) (.build 83 #[(0, (.const (.int .i64 1749))), (1, (.const (.int .i64 1749))), (2, (.const (.int .i64 2)))]) none,
  .mk (some 41) (.build 83 #[(0, (.const (.int .i64 1750))), (1, (.const (.int .i64 1756))), (2, (.const (.int .i64 1)))]) none,
  .mk (some 42) (.build 83 #[(0, (.const (.int .i64 1759))), (1, (.const (.int .i64 1764))), (2, (.const (.int .i64 1)))]) none,
  .mk (some 43) (.build 83 #[(0, (.const (.int .i64 1767))), (1, (.const (.int .i64 1768))), (2, (.const (.int .i64 1)))]) none,
  .mk (some 44) (.build 83 #[(0, (.const (.int .i64 1770))), (1, (.const (.int .i64 1773))), (2, (.const (.int .i64 1)))]) none,
  .mk (some 45) (.build 83 #[(0, (.const (.int .i64 1774))), (1, (.const (.int .i64 1775))), (2, (.const (.int .i64 2)))]) none,
  .mk (some 46) (.build 83 #[(0, (.const (.int .i64 1786))), (1, (.const (.int .i64 1788))), (2, (.const (.int .i64 3)))]) none,
  .mk (some 47) (.build 83 #[(0, (.const (.int .i64 1791))), (1, (.const (.int .i64 1791))), (2, (.const (.int .i64 3)))]) none,
  .mk (some 48) (.build 83 #[(0, (.const (.int .i64 1840))), (1, (.const (.int .i64 1866))), (2, (.const (.int .i64 1)))]) none,
  .mk (some 49) (.build 83 #[(0, (.const (.int .i64 1958))), (1, (.const (.int .i64 1968))), (2, (.const (.int .i64 1)))]) none,
  .mk (some 50) (.build 83 #[(0, (.const (.int .i64 1994))), (1, (.const (.int .i64 2026))), (2, (.const (.int .i64 3)))]) none,
  .mk (some 51) (.build 83 #[(0, (.const (.int .i64 2027))), (1, (.const (.int .i64 2035))), (2, (.const (.int .i64 1)))]) none,
  .mk (some 52) (.build 83 #[(0, (.const (.int .i64 2042))), (1, (.const (.int .i64 2042))), (2, (.const (.int .i64 5)))]) none,
  .mk (some 53) (.build 83 #[(0, (.const (.int .i64 2200))), (1, (.const (.int .i64 2207))), (2, (.const (.int .i64 1)))]) none,
  .mk (some 54) (.build 83 #[(0, (.const (.int .i64 2250))), (1, (.const (.int .i64 2273))), (2, (.const (.int .i64 1)))]) none,
  .mk (some 55) (.build 83 #[(0, (.const (.int .i64 2275))), (1, (.const (.int .i64 2306))), (2, (.const (.int .i64 1)))]) none,
  .mk (some 56) (.build 83 #[(0, (.const (.int .i64 8203))), (1, (.const (.int .i64 8203))), (2, (.const (.int .i64 1)))]) none,
  .mk (some 57) (.build 83 #[(0, (.const (.int .i64 8205))), (1, (.const (.int .i64 8205))), (2, (.const (.int .i64 5)))]) none,
  .mk (some 58) (.build 83 #[(0, (.const (.int .i64 8206))), (1, (.const (.int .i64 8207))), (2, (.const (.int .i64 1)))]) none,
  .mk (some 59) (.build 83 #[(0, (.const (.int .i64 8234))), (1, (.const (.int .i64 8238))), (2, (.const (.int .i64 1)))]) none,
  .mk (some 60) (.build 83 #[(0, (.const (.int .i64 8288))), (1, (.const (.int .i64 8292))), (2, (.const (.int .i64 1)))]) none,
  .mk (some 61) (.build 83 #[(0, (.const (.int .i64 8298))), (1, (.const (.int .i64 8303))), (2, (.const (.int .i64 1)))]) none,
  .mk (some 62) (.build 83 #[(0, (.const (.int .i64 8400))), (1, (.const (.int .i64 8432))), (2, (.const (.int .i64 1)))]) none,
  .mk (some 63) (.build 83 #[(0, (.const (.int .i64 43072))), (1, (.const (.int .i64 43121))), (2, (.const (.int .i64 3)))]) none,
  .mk (some 64) (.build 83 #[(0, (.const (.int .i64 43122))), (1, (.const (.int .i64 43122))), (2, (.const (.int .i64 4)))]) none,
  .mk (some 65) (.build 83 #[(0, (.const (.int .i64 65024))), (1, (.const (.int .i64 65039))), (2, (.const (.int .i64 1)))]) none,
  .mk (some 66) (.build 83 #[(0, (.const (.int .i64 65056))), (1, (.const (.int .i64 65071))), (2, (.const (.int .i64 1)))]) none,
  .mk (some 67) (.build 83 #[(0, (.const (.int .i64 65279))), (1, (.const (.int .i64 65279))), (2, (.const (.int .i64 1)))]) none,
  .mk (some 68) (.build 83 #[(0, (.const (.int .i64 917760))), (1, (.const (.int .i64 917999))), (2, (.const (.int .i64 1)))]) none,
  .mk (some 69) (.buildSlice 49 68 #[(0, (.tmp 1)), (1, (.tmp 2)), (2, (.tmp 3)), (3, (.tmp 4)), (4, (.tmp 5)), (5, (.tmp 6)), (6, (.tmp 7)), (7, (.tmp 8)), (8, (.tmp 9)), (9, (.tmp 10)), (10, (.tmp 11)), (11, (.tmp 12)), (12, (.tmp 13)), (13, (.tmp 14)), (14, (.tmp 15)), (15, (.tmp 16)), (16, (.tmp 17)), (17, (.tmp 18)), (18, (.tmp 19)), (19, (.tmp 20)), (20, (.tmp 21)), (21, (.tmp 22)), (22, (.tmp 23)), (23, (.tmp 24)), (24, (.tmp 25)), (25, (.tmp 26)), (26, (.tmp 27)), (27, (.tmp 28)), (28, (.tmp 29)), (29, (.tmp 30)), (30, (.tmp 31)), (31, (.tmp 32)), (32, (.tmp 33)), (33, (.tmp 34)), (34, (.tmp 35)), (35, (.tmp 36)), (36, (.tmp 37)), (37, (.tmp 38)), (38, (.tmp 39)), (39, (.tmp 40)), (40, (.tmp 41)), (41, (.tmp 42)), (42, (.tmp 43)), (43, (.tmp 44)), (44, (.tmp 45)), (45, (.tmp 46)), (46, (.tmp 47)), (47, (.tmp 48)), (48, (.tmp 49)), (49, (.tmp 50)), (50, (.tmp 51)), (51, (.tmp 52)), (52, (.tmp 53)), (53, (.tmp 54)), (54, (.tmp 55)), (55, (.tmp 56)), (56, (.tmp 57)), (57, (.tmp 58)), (58, (.tmp 59)), (59, (.tmp 60)), (60, (.tmp 61)), (61, (.tmp 62)), (62, (.tmp 63)), (63, (.tmp 64)), (64, (.tmp 65)), (65, (.tmp 66)), (66, (.tmp 67)), (67, (.tmp 68))]) none,
  .mk (some 0) (.assign (.tmp 69)) none]
def c31 : PC := (.seq (.reg false r31_0) (.seq (.reg false r31_1) .ret))
theorem e31 {args : List PV} {h : Heap} {K : PV → Heap → Prop} (hl : args.length = 0) (s : pwp Try.prog [] c31 (fin Try.prog [.tmp 0] h K) (slots0 (olds args)) h) : CanP Try.prog 31 args h K :=
  can_of2 (n := 70) mixed Try.func31 rfl (by kernel_rfl) (by rw [hl]; kernel_rfl) rfl (by kernel_rfl) s
/-! ### naskh.props.New: function 15 -/
def r15_0 : List PS := [.mk (some 0) (.assign (.const (.pointer none))) none]
def r15_1 : List PS := [.mk (some 6) (.call ⟨(.value (.func 30)), #[], #[]⟩) none,
  .mk (some 7) (.call ⟨(.value (.func 29)), #[(.tmp 6), (.const (.int .i64 0))], #[49, 3]⟩) none,
  .mk (some 5) (.move (.tmp 7)) none,
  .mk (some 8) (.extract (.tmp 5) 0) none,
  .mk (some 9) (.extract (.tmp 5) 1) none,
  .mk (some 1) (.assign (.tmp 8)) none,
  .mk (some 2) (.assign (.tmp 9)) none]
def r15_2 : List PS := [.mk (some 11) (.call ⟨(.value (.func 31)), #[], #[]⟩) none,
  .mk (some 12) (.call ⟨(.value (.func 29)), #[(.tmp 11), (.const (.int .i64 0))], #[49, 3]⟩) none,
  .mk (some 10) (.move (.tmp 12)) none,
  .mk (some 13) (.extract (.tmp 10) 0) none,
  .mk (some 14) (.extract (.tmp 10) 1) none,
  .mk (some 3) (.assign (.tmp 13)) none,
  .mk (some 4) (.assign (.tmp 14)) none]
def r15_3 : List PS := [.mk (some 15) (.move (.tmp 2)) none,
  .mk (some 16) (.binOp .neq 46 (.tmp 15) (.const (.int .i64 0)) 46) none,
  .mk (some 17) (.move (.tmp 16)) none,
  .mk (some 18) (.move (.tmp 4)) (some (17, false)),
  .mk (some 19) (.binOp .neq 46 (.tmp 18) (.const (.int .i64 0)) 46) (some (17, false)),
  .mk (some 20) (.pick (.tmp 17) (.const (.bool true)) (.tmp 19)) none]
def r15_4 : List PS := [.mk (some 0) (.assign (.const (.pointer none))) none]
def r15_5 : List PS := [.mk (some 21) (.move (.tmp 1)) none,
  .mk (some 22) (.move (.tmp 3)) none,
  .mk (some 23) (.build 52 #[(0, (.tmp 21)), (1, (.tmp 22))]) none,
  .mk (some 24) (.build 54 #[(0, (.tmp 23))]) none,
  .mk (some 25) (.box 54 (.tmp 24)) none,
  .mk (some 0) (.assign (.tmp 25)) none]
def c15 : PC := (.seq (.reg false r15_0) (.seq (.reg false r15_1) (.seq (.reg false r15_2) (.seq (.seq (.reg false r15_3) (.cond (.tmp 20) (.seq (.reg false r15_4) .ret) .skip)) (.seq (.reg false r15_5) .ret)))))
theorem e15 {args : List PV} {h : Heap} {K : PV → Heap → Prop} (hl : args.length = 0) (s : pwp Try.prog [] c15 (fin Try.prog [.tmp 0] h K) (slots0 (olds args)) h) : CanP Try.prog 15 args h K :=
  can_of2 (n := 26) mixed Try.func15 rfl (by kernel_rfl) (by rw [hl]; kernel_rfl) rfl (by kernel_rfl) s
/-! ### (*naskh.props.Props).made: function 58 -/
def r58_0 : List PS := [.mk (some 2) (.assign (.const (.bool false))) none]
def r58_1 : List PS := [.mk (some 3) (.move (.tmp 0)) none,
  .mk (some 4) (.binOp .neq 27 (.tmp 3) (.const (.pointer none)) 27) none,
  .mk (some 5) (.move (.tmp 4)) none,
  .mk (some 6) (.move (.tmp 0)) (some (5, true)),
  .mk (some 7) (.nilCheck (.tmp 6)) (some (5, true)),
  .mk (some 8) (.fieldAddr 54 (.tmp 7) 0) (some (5, true)),
  .mk (some 9) (.fieldAddr 52 (.tmp 8) 0) (some (5, true)),
  .mk (some 10) (.load 45 (.tmp 9)) (some (5, true)),
  .mk (some 11) (.binOp .neq 45 (.tmp 10) (.const (.pointer none)) 45) (some (5, true)),
  .mk (some 12) (.pick (.tmp 5) (.tmp 11) (.const (.bool false))) none,
  .mk (some 2) (.assign (.tmp 12)) none]
def c58 : PC := (.seq (.reg false r58_0) (.seq (.reg false r58_1) .ret))
theorem e58 {args : List PV} {h : Heap} {K : PV → Heap → Prop} (hl : args.length = 1) (s : pwp Try.prog [] c58 (fin Try.prog [.tmp 2] h K) (slots0 (olds args)) h) : CanP Try.prog 58 args h K :=
  can_of2 (n := 13) mixed Try.func58 rfl (by kernel_rfl) (by rw [hl]; kernel_rfl) rfl (by kernel_rfl) s
/-! ### naskh.props.code: function 59 -/
def r59_0 : List PS := [.mk (some 2) (.assign (.const (.bool false))) none]
def r59_1 : List PS := [.mk (some 3) (.move (.tmp 0)) none,
  .mk (some 4) (.binOp .geq 3 (.tmp 3) (.const (.int .i64 0)) 3) none,
  .mk (some 5) (.move (.tmp 4)) none,
  .mk (some 6) (.move (.tmp 0)) (some (5, true)),
  .mk (some 7) (.binOp .leq 3 (.tmp 6) (.const (.int .i64 1114111)) 3) (some (5, true)),
  .mk (some 8) (.pick (.tmp 5) (.tmp 7) (.const (.bool false))) none,
  .mk (some 2) (.assign (.tmp 8)) none]
def c59 : PC := (.seq (.reg false r59_0) (.seq (.reg false r59_1) .ret))
theorem e59 {args : List PV} {h : Heap} {K : PV → Heap → Prop} (hl : args.length = 1) (s : pwp Try.prog [] c59 (fin Try.prog [.tmp 2] h K) (slots0 (olds args)) h) : CanP Try.prog 59 args h K :=
  can_of2 (n := 9) mixed Try.func59 rfl (by kernel_rfl) (by rw [hl]; kernel_rfl) rfl (by kernel_rfl) s
/-! ### (*naskh.trie.Table).has: function 81 -/
def r81_0 : List PS := [.mk (some 4) (.assign (.const (.bool false))) none]
def r81_1 : List PS := [.mk (some 5) (.move (.tmp 0)) none,
  .mk (some 6) (.binOp .neq 45 (.tmp 5) (.const (.pointer none)) 45) none,
  .mk (some 7) (.move (.tmp 6)) none,
  .mk (some 8) (.move (.tmp 0)) (some (7, true)),
  .mk (some 9) (.nilCheck (.tmp 8)) (some (7, true)),
  .mk (some 10) (.fieldAddr 76 (.tmp 9) 2) (some (7, true)),
  .mk (some 11) (.load 4 (.tmp 10)) (some (7, true)),
  .mk (some 12) (.pick (.tmp 7) (.tmp 11) (.const (.bool false))) none,
  .mk (some 13) (.move (.tmp 12)) none,
  .mk (some 14) (.move (.tmp 1)) (some (13, true)),
  .mk (some 15) (.binOp .geq 3 (.tmp 14) (.const (.int .i64 0)) 3) (some (13, true)),
  .mk (some 16) (.pick (.tmp 13) (.tmp 15) (.const (.bool false))) none,
  .mk (some 17) (.move (.tmp 16)) none,
  .mk (some 18) (.move (.tmp 1)) (some (17, true)),
  .mk (some 19) (.binOp .leq 3 (.tmp 18) (.const (.int .i64 1114111)) 3) (some (17, true)),
  .mk (some 20) (.pick (.tmp 17) (.tmp 19) (.const (.bool false))) none,
  .mk (some 4) (.assign (.tmp 20)) none]
def c81 : PC := (.seq (.reg false r81_0) (.seq (.reg false r81_1) .ret))
theorem e81 {args : List PV} {h : Heap} {K : PV → Heap → Prop} (hl : args.length = 2) (s : pwp Try.prog [] c81 (fin Try.prog [.tmp 4] h K) (slots0 (olds args)) h) : CanP Try.prog 81 args h K :=
  can_of2 (n := 21) mixed Try.func81 rfl (by kernel_rfl) (by rw [hl]; kernel_rfl) rfl (by kernel_rfl) s
/-! ### (*naskh.trie.stages).at: function 82 -/
def r82_0 : List PS := [.mk (some 4) (.assign (.const (.int .i64 0))) none]
def r82_1 : List PS := [.mk (some 5) (.move (.tmp 0)) none,
  .mk (some 6) (.nilCheck (.tmp 5)) none,
  .mk (some 7) (.fieldAddr 74 (.tmp 6) 1) none,
  .mk (some 8) (.load 72 (.tmp 7)) none,
  .mk (some 9) (.move (.tmp 0)) none,
  .mk (some 10) (.nilCheck (.tmp 9)) none,
  .mk (some 11) (.fieldAddr 74 (.tmp 10) 0) none,
  .mk (some 12) (.load 22 (.tmp 11)) none,
  .mk (some 13) (.move (.tmp 1)) none,
  .mk (some 14) (.binOp .shr 3 (.tmp 13) (.const (.int .u64 7)) 67) none,
  .mk (some 15) (.indexAddr 22 (.tmp 12) (.tmp 14)) none,
  .mk (some 16) (.load 3 (.tmp 15)) none,
  .mk (some 17) (.move (.tmp 1)) none,
  .mk (some 18) (.binOp .and 3 (.tmp 17) (.const (.int .i64 127)) 3) none,
  .mk (some 19) (.indexAddr 72 (.tmp 8) (.tmp 16)) none,
  .mk (some 20) (.indexAddr 78 (.tmp 19) (.tmp 18)) none,
  .mk (some 21) (.load 3 (.tmp 20)) none,
  .mk (some 4) (.assign (.tmp 21)) none]
def c82 : PC := (.seq (.reg false r82_0) (.seq (.reg true r82_1) .ret))
theorem e82 {args : List PV} {h : Heap} {K : PV → Heap → Prop} (hl : args.length = 2) (s : pwp Try.prog [] c82 (fin Try.prog [.tmp 4] h K) (slots0 (olds args)) h) : CanP Try.prog 82 args h K :=
  can_of2 (n := 22) mixed Try.func82 rfl (by kernel_rfl) (by rw [hl]; kernel_rfl) rfl (by kernel_rfl) s
/-! ### (*naskh.trie.Table).Get: function 60 -/
def r60_0 : List PS := [.mk (some 4) (.assign (.const (.int .i64 0))) none]
def r60_1 : List PS := [.mk (some 6) (.move (.tmp 0)) none,
  .mk (some 7) (.move (.tmp 1)) none,
  .mk (some 8) (.call ⟨(.value (.func 81)), #[(.tmp 6), (.tmp 7)], #[45, 3]⟩) none,
  .mk (some 5) (.assign (.tmp 8)) none]
def r60_2 : List PS := [.mk (some 9) (.move (.tmp 0)) none,
  .mk (some 10) (.nilCheck (.tmp 9)) none,
  .mk (some 11) (.fieldAddr 76 (.tmp 10) 0) none,
  .mk (some 12) (.move (.tmp 1)) none,
  .mk (some 13) (.call ⟨(.value (.func 82)), #[(.tmp 11), (.tmp 12)], #[74, 3]⟩) none,
  .mk (some 4) (.assign (.tmp 13)) none]
def r60_3 : List PS := [.mk (some 15) (.move (.tmp 0)) none,
  .mk (some 16) (.binOp .eql 45 (.tmp 15) (.const (.pointer none)) 45) none,
  .mk (some 14) (.assign (.tmp 16)) none]
def r60_4 : List PS := [.mk (some 4) (.assign (.const (.int .i64 0))) none]
def r60_5 : List PS := [.mk (some 17) (.move (.tmp 0)) none,
  .mk (some 18) (.nilCheck (.tmp 17)) none,
  .mk (some 19) (.fieldAddr 76 (.tmp 18) 1) none,
  .mk (some 20) (.load 3 (.tmp 19)) none,
  .mk (some 4) (.assign (.tmp 20)) none]
def c60 : PC := (.seq (.reg false r60_0) (.seq (.block 0 (.seq (.reg false r60_1) (.cond (.tmp 5) (.seq (.reg false r60_2) .ret) (.seq (.reg false r60_3) (.cond (.tmp 14) (.seq (.reg false r60_4) .ret) .skip))))) (.seq (.reg false r60_5) .ret)))
theorem e60 {args : List PV} {h : Heap} {K : PV → Heap → Prop} (hl : args.length = 2) (s : pwp Try.prog [] c60 (fin Try.prog [.tmp 4] h K) (slots0 (olds args)) h) : CanP Try.prog 60 args h K :=
  can_of2 (n := 21) mixed Try.func60 rfl (by kernel_rfl) (by rw [hl]; kernel_rfl) rfl (by kernel_rfl) s
/-! ### (*naskh.props.Props).Class: function 39 -/
def r39_0 : List PS := [.mk (some 4) (.assign (.const (.int .i64 0))) none]
def r39_1 : List PS := [.mk (some 5) (.move (.tmp 0)) none,
  .mk (some 6) (.call ⟨(.value (.func 58)), #[(.tmp 5)], #[27]⟩) none,
  .mk (some 7) (.unOp .not 4 (.tmp 6)) none,
  .mk (some 8) (.move (.tmp 7)) none,
  .mk (some 9) (.move (.tmp 1)) (some (8, false)),
  .mk (some 10) (.call ⟨(.value (.func 59)), #[(.tmp 9)], #[3]⟩) (some (8, false)),
  .mk (some 11) (.unOp .not 4 (.tmp 10)) (some (8, false)),
  .mk (some 12) (.pick (.tmp 8) (.const (.bool true)) (.tmp 11)) none]
def r39_2 : List PS := [.mk (some 4) (.assign (.const (.int .i64 13))) none]
def r39_3 : List PS := [.mk (some 13) (.move (.tmp 0)) none,
  .mk (some 14) (.nilCheck (.tmp 13)) none,
  .mk (some 15) (.fieldAddr 54 (.tmp 14) 0) none,
  .mk (some 16) (.fieldAddr 52 (.tmp 15) 0) none,
  .mk (some 17) (.load 45 (.tmp 16)) none,
  .mk (some 18) (.move (.tmp 1)) none,
  .mk (some 19) (.call ⟨(.value (.func 60)), #[(.tmp 17), (.tmp 18)], #[45, 3]⟩) none,
  .mk (some 4) (.assign (.tmp 19)) none]
def c39 : PC := (.seq (.reg false r39_0) (.seq (.seq (.reg false r39_1) (.cond (.tmp 12) (.seq (.reg false r39_2) .ret) .skip)) (.seq (.reg false r39_3) .ret)))
theorem e39 {args : List PV} {h : Heap} {K : PV → Heap → Prop} (hl : args.length = 2) (s : pwp Try.prog [] c39 (fin Try.prog [.tmp 4] h K) (slots0 (olds args)) h) : CanP Try.prog 39 args h K :=
  can_of2 (n := 20) mixed Try.func39 rfl (by kernel_rfl) (by rw [hl]; kernel_rfl) rfl (by kernel_rfl) s
/-! ### naskh.para.Split: function 20 -/
def r20_0 : List PS := [.mk (some 4) (.assign (.const (.slice none 0 0))) none]
def r20_1 : List PS := [.mk (some 5) (.assign (.const (.slice none 0 0))) none]
def r20_2 : List PS := [.mk (some 10) (.build 34 #[]) none,
  .mk (some 6) (.alloc 34) none,
  .mk none (.store 34 (.tmp 6) (.tmp 10)) none]
def r20_3 : List PS := [.mk (some 11) (.move (.tmp 1)) none,
  .mk (some 12) (.call ⟨(.builtin .len), #[(.tmp 11)], #[22]⟩) none,
  .mk (some 13) (.move (.const (.int .i64 0))) none]
def r20_4 : List PS := [.mk (some 14) (.binOp .lss 3 (.tmp 13) (.tmp 12) 3) none]
def r20_5 : List PS := [.mk (some 15) (.move (.tmp 13)) none,
  .mk (some 16) (.indexAddr 22 (.tmp 11) (.tmp 13)) none,
  .mk (some 17) (.load 3 (.tmp 16)) none,
  .mk (some 7) (.assign (.tmp 15)) none,
  .mk (some 8) (.assign (.tmp 17)) none]
def r20_6 : List PS := [.mk (some 18) (.move (.tmp 7)) none,
  .mk (some 19) (.binOp .add 3 (.tmp 18) (.const (.int .i64 1)) 3) none,
  .mk (some 20) (.fieldAddr 34 (.tmp 6) 1) none,
  .mk none (.store 3 (.tmp 20) (.tmp 19)) none]
def r20_7 : List PS := [.mk (some 21) (.move (.tmp 8)) none,
  .mk (some 22) (.binOp .eql 3 (.tmp 21) (.const (.int .i64 13)) 3) none,
  .mk (some 23) (.move (.tmp 22)) none,
  .mk (some 24) (.move (.tmp 7)) (some (23, true)),
  .mk (some 25) (.binOp .add 3 (.tmp 24) (.const (.int .i64 1)) 3) (some (23, true)),
  .mk (some 26) (.move (.tmp 1)) (some (23, true)),
  .mk (some 27) (.call ⟨(.builtin .len), #[(.tmp 26)], #[22]⟩) (some (23, true)),
  .mk (some 28) (.binOp .lss 3 (.tmp 25) (.tmp 27) 3) (some (23, true)),
  .mk (some 29) (.pick (.tmp 23) (.tmp 28) (.const (.bool false))) none,
  .mk (some 30) (.move (.tmp 29)) none,
  .mk (some 31) (.move (.tmp 1)) (some (30, true)),
  .mk (some 32) (.move (.tmp 7)) (some (30, true)),
  .mk (some 33) (.binOp .add 3 (.tmp 32) (.const (.int .i64 1)) 3) (some (30, true)),
  .mk (some 34) (.indexAddr 22 (.tmp 31) (.tmp 33)) (some (30, true)),
  .mk (some 35) (.load 3 (.tmp 34)) (some (30, true)),
  .mk (some 36) (.binOp .eql 3 (.tmp 35) (.const (.int .i64 10)) 3) (some (30, true)),
  .mk (some 37) (.pick (.tmp 30) (.tmp 36) (.const (.bool false))) none,
  .mk (some 9) (.assign (.tmp 37)) none]
def r20_8 : List PS := [.mk (some 38) (.move (.tmp 0)) none,
  .mk (some 39) (.move (.tmp 8)) none,
  .mk (some 40) (.call ⟨(.value (.func 39)), #[(.tmp 38), (.tmp 39)], #[27, 3]⟩) none,
  .mk (some 41) (.binOp .neq 3 (.tmp 40) (.const (.int .i64 10)) 3) none,
  .mk (some 42) (.move (.tmp 41)) none,
  .mk (some 43) (.move (.tmp 9)) (some (42, false)),
  .mk (some 44) (.pick (.tmp 42) (.const (.bool true)) (.tmp 43)) none]
def r20_9 : List PS := [.mk (some 45) (.move (.tmp 5)) none,
  .mk (some 46) (.load 34 (.tmp 6)) none,
  .mk (some 47) (.buildSlice 31 1 #[(0, (.tmp 46))]) none,
  .mk (some 48) (.call ⟨(.builtin .append), #[(.tmp 45), (.tmp 47)], #[31, 31]⟩) none,
  .mk (some 5) (.assign (.tmp 48)) none]
def r20_10 : List PS := [.mk (some 49) (.move (.tmp 7)) none,
  .mk (some 50) (.binOp .add 3 (.tmp 49) (.const (.int .i64 1)) 3) none,
  .mk (some 51) (.build 34 #[(0, (.tmp 50))]) none,
  .mk none (.store 34 (.tmp 6) (.tmp 51)) none]
def r20_11 : List PS := [.mk (some 52) (.binOp .add 3 (.tmp 13) (.const (.int .i64 1)) 3) none,
  .mk (some 13) (.move (.tmp 52)) none]
def r20_12 : List PS := [.mk (some 53) (.fieldAddr 34 (.tmp 6) 1) none,
  .mk (some 54) (.load 3 (.tmp 53)) none,
  .mk (some 55) (.fieldAddr 34 (.tmp 6) 0) none,
  .mk (some 56) (.load 3 (.tmp 55)) none,
  .mk (some 57) (.binOp .gtr 3 (.tmp 54) (.tmp 56) 3) none]
def r20_13 : List PS := [.mk (some 58) (.move (.tmp 5)) none,
  .mk (some 59) (.load 34 (.tmp 6)) none,
  .mk (some 60) (.buildSlice 31 1 #[(0, (.tmp 59))]) none,
  .mk (some 61) (.call ⟨(.builtin .append), #[(.tmp 58), (.tmp 60)], #[31, 31]⟩) none,
  .mk (some 5) (.assign (.tmp 61)) none]
def r20_14 : List PS := [.mk (some 62) (.move (.tmp 5)) none,
  .mk (some 4) (.assign (.tmp 62)) none]
def c20 : PC := (.seq (.reg false r20_0) (.seq (.reg false r20_1) (.seq (.reg false r20_2) (.seq (.seq (.reg false r20_3) (.block 0 (.loop (.seq (.reg false r20_4) (.seq (.cond (.tmp 14) .skip (.exit 0)) (.seq (.block 1 (.seq (.reg false r20_5) (.seq (.reg false r20_6) (.seq (.reg false r20_7) (.seq (.seq (.reg false r20_8) (.cond (.tmp 44) (.exit 1) .skip)) (.seq (.reg false r20_9) (.reg false r20_10))))))) (.reg false r20_11))))))) (.seq (.seq (.reg false r20_12) (.cond (.tmp 57) (.reg false r20_13) .skip)) (.seq (.reg false r20_14) .ret))))))
theorem e20 {args : List PV} {h : Heap} {K : PV → Heap → Prop} (hl : args.length = 2) (s : pwp Try.prog [6] c20 (fin Try.prog [.tmp 4] h K) (slots0 (olds args)) h) : CanP Try.prog 20 args h K :=
  can_of2 (n := 63) mixed Try.func20 rfl (by kernel_rfl) (by rw [hl]; kernel_rfl) rfl (by kernel_rfl) s
/-! ### naskh.props.each: function 56 -/
def r56_0 : List PS := [.mk (some 4) (.assign (.const (.slice none 0 0))) none]
def r56_1 : List PS := [.mk (some 8) (.move (.tmp 0)) none,
  .mk (some 9) (.call ⟨(.builtin .len), #[(.tmp 8)], #[22]⟩) none,
  .mk (some 10) (.makeSlice 22 (.tmp 9) (.tmp 9)) none,
  .mk (some 5) (.assign (.tmp 10)) none]
def r56_2 : List PS := [.mk (some 11) (.move (.tmp 0)) none,
  .mk (some 12) (.call ⟨(.builtin .len), #[(.tmp 11)], #[22]⟩) none,
  .mk (some 13) (.move (.const (.int .i64 0))) none]
def r56_3 : List PS := [.mk (some 14) (.binOp .lss 3 (.tmp 13) (.tmp 12) 3) none]
def r56_4 : List PS := [.mk (some 15) (.move (.tmp 13)) none,
  .mk (some 16) (.indexAddr 22 (.tmp 11) (.tmp 13)) none,
  .mk (some 17) (.load 3 (.tmp 16)) none,
  .mk (some 6) (.assign (.tmp 15)) none,
  .mk (some 7) (.assign (.tmp 17)) none]
def r56_5 : List PS := [.mk (some 18) (.move (.tmp 5)) none,
  .mk (some 19) (.move (.tmp 6)) none,
  .mk (some 20) (.move (.tmp 1)) none,
  .mk (some 21) (.move (.tmp 7)) none,
  .mk (some 22) (.call ⟨(.value (.tmp 20)), #[(.tmp 21)], #[3]⟩) none,
  .mk (some 23) (.indexAddr 22 (.tmp 18) (.tmp 19)) none,
  .mk none (.store 3 (.tmp 23) (.tmp 22)) none]
def r56_6 : List PS := [.mk (some 24) (.binOp .add 3 (.tmp 13) (.const (.int .i64 1)) 3) none,
  .mk (some 13) (.move (.tmp 24)) none]
def r56_7 : List PS := [.mk (some 25) (.move (.tmp 5)) none,
  .mk (some 4) (.assign (.tmp 25)) none]
def c56 : PC := (.seq (.reg false r56_0) (.seq (.reg false r56_1) (.seq (.seq (.reg false r56_2) (.block 0 (.loop (.seq (.reg false r56_3) (.seq (.cond (.tmp 14) .skip (.exit 0)) (.seq (.block 1 (.seq (.reg false r56_4) (.reg false r56_5))) (.reg false r56_6))))))) (.seq (.reg false r56_7) .ret))))
theorem e56 {args : List PV} {h : Heap} {K : PV → Heap → Prop} (hl : args.length = 2) (s : pwp Try.prog [] c56 (fin Try.prog [.tmp 4] h K) (slots0 (olds args)) h) : CanP Try.prog 56 args h K :=
  can_of2 (n := 26) mixed Try.func56 rfl (by kernel_rfl) (by rw [hl]; kernel_rfl) rfl (by kernel_rfl) s
/-! ### (*naskh.props.Props).Classes: function 33 -/
def r33_0 : List PS := [.mk (some 4) (.assign (.const (.slice none 0 0))) none]
def r33_1 : List PS := [.mk (some 5) (.move (.tmp 1)) none,
  .mk (some 6) (.move (.tmp 0)) none,
  .mk (some 7) (.makeFunc (.func 39) #[(.tmp 6)] #[]) none,
  .mk (some 8) (.call ⟨(.value (.func 56)), #[(.tmp 5), (.tmp 7)], #[22, 61]⟩) none,
  .mk (some 4) (.assign (.tmp 8)) none]
def c33 : PC := (.seq (.reg false r33_0) (.seq (.reg false r33_1) .ret))
theorem e33 {args : List PV} {h : Heap} {K : PV → Heap → Prop} (hl : args.length = 2) (s : pwp Try.prog [] c33 (fin Try.prog [.tmp 4] h K) (slots0 (olds args)) h) : CanP Try.prog 33 args h K :=
  can_of2 (n := 9) mixed Try.func33 rfl (by kernel_rfl) (by rw [hl]; kernel_rfl) rfl (by kernel_rfl) s
/-! ### naskh.balance.Level$1: function 37 -/
def r37_0 : List PS := [.mk (some 3) (.box 34 (.tmp 0)) none,
  .mk (some 4) (.assign (.const (.bool false))) none]
def r37_1 : List PS := [.mk (some 6) (.load 27 (.tmp 1)) none,
  .mk (some 7) (.load 22 (.tmp 2)) none,
  .mk (some 8) (.fieldAddr 34 (.tmp 3) 0) none,
  .mk (some 9) (.load 3 (.tmp 8)) none,
  .mk (some 10) (.fieldAddr 34 (.tmp 3) 1) none,
  .mk (some 11) (.load 3 (.tmp 10)) none,
  .mk (some 12) (.slice 22 (.tmp 7) (some (.tmp 9)) (some (.tmp 11)) none) none,
  .mk (some 13) (.call ⟨(.value (.func 33)), #[(.tmp 6), (.tmp 12)], #[27, 22]⟩) none,
  .mk (some 14) (.call ⟨(.value (.func 22)), #[(.tmp 13)], #[22]⟩) none,
  .mk (some 5) (.assign (.tmp 14)) none]
def r37_2 : List PS := [.mk (some 15) (.move (.tmp 5)) none,
  .mk (some 16) (.nilCheck (.tmp 15)) none,
  .mk (some 17) (.fieldAddr 39 (.tmp 16) 1) none,
  .mk (some 18) (.load 22 (.tmp 17)) none,
  .mk (some 19) (.call ⟨(.builtin .len), #[(.tmp 18)], #[22]⟩) none,
  .mk (some 20) (.move (.tmp 5)) none,
  .mk (some 21) (.nilCheck (.tmp 20)) none,
  .mk (some 22) (.fieldAddr 39 (.tmp 21) 2) none,
  .mk (some 23) (.load 22 (.tmp 22)) none,
  .mk (some 24) (.call ⟨(.builtin .len), #[(.tmp 23)], #[22]⟩) none,
  .mk (some 25) (.binOp .add 3 (.tmp 19) (.tmp 24) 3) none,
  .mk (some 26) (.move (.tmp 5)) none,
  .mk (some 27) (.nilCheck (.tmp 26)) none,
  .mk (some 28) (.fieldAddr 39 (.tmp 27) 3) none,
  .mk (some 29) (.load 22 (.tmp 28)) none,
  .mk (some 30) (.call ⟨(.builtin .len), #[(.tmp 29)], #[22]⟩) none,
  .mk (some 31) (.binOp .add 3 (.tmp 25) (.tmp 30) 3) none,
  .mk (some 32) (.binOp .gtr 3 (.tmp 31) (.const (.int .i64 0)) 3) none,
  .mk (some 4) (.assign (.tmp 32)) none]
def c37 : PC := (.seq (.reg false r37_0) (.seq (.reg true r37_1) (.seq (.reg true r37_2) .ret)))
theorem e37 {args : List PV} {h : Heap} {K : PV → Heap → Prop} (hl : args.length = 3) (s : pwp Try.prog [] c37 (fin Try.prog [.tmp 4] h K) (slots0 (olds args)) h) : CanP Try.prog 37 args h K :=
  can_of2 (n := 33) mixed Try.func37 rfl (by kernel_rfl) (by rw [hl]; kernel_rfl) rfl (by kernel_rfl) s
/-! ### slices.IndexFunc[[]naskh.api.Span,naskh.api.Span]: function 57 -/
def r57_0 : List PS := [.mk (some 4) (.assign (.const (.int .i64 0))) none]
def r57_1 : List PS := [.mk (some 6) (.move (.tmp 0)) none,
  .mk (some 7) (.call ⟨(.builtin .len), #[(.tmp 6)], #[31]⟩) none,
  .mk (some 8) (.move (.const (.int .i64 0))) none]
def r57_2 : List PS := [.mk (some 9) (.binOp .lss 3 (.tmp 8) (.tmp 7) 3) none]
def r57_3 : List PS := [.mk (some 10) (.move (.tmp 8)) none,
  .mk (some 5) (.assign (.tmp 10)) none]
def r57_4 : List PS := [.mk (some 11) (.move (.tmp 1)) none,
  .mk (some 12) (.move (.tmp 0)) none,
  .mk (some 13) (.move (.tmp 5)) none,
  .mk (some 14) (.indexAddr 31 (.tmp 12) (.tmp 13)) none,
  .mk (some 15) (.load 34 (.tmp 14)) none,
  .mk (some 16) (.call ⟨(.value (.tmp 11)), #[(.tmp 15)], #[34]⟩) none]
def r57_5 : List PS := [.mk (some 17) (.move (.tmp 5)) none,
  .mk (some 4) (.assign (.tmp 17)) none]
def r57_6 : List PS := [.mk (some 18) (.binOp .add 3 (.tmp 8) (.const (.int .i64 1)) 3) none,
  .mk (some 8) (.move (.tmp 18)) none]
def r57_7 : List PS := [.mk (some 4) (.assign (.const (.int .i64 (-1)))) none]
def c57 : PC := (.seq (.reg false r57_0) (.seq (.seq (.reg false r57_1) (.block 0 (.loop (.seq (.reg false r57_2) (.seq (.cond (.tmp 9) .skip (.exit 0)) (.seq (.block 1 (.seq (.reg false r57_3) (.seq (.reg false r57_4) (.cond (.tmp 16) (.seq (.reg false r57_5) .ret) .skip)))) (.reg false r57_6))))))) (.seq (.reg false r57_7) .ret)))
theorem e57 {args : List PV} {h : Heap} {K : PV → Heap → Prop} (hl : args.length = 2) (s : pwp Try.prog [] c57 (fin Try.prog [.tmp 4] h K) (slots0 (olds args)) h) : CanP Try.prog 57 args h K :=
  can_of2 (n := 19) mixed Try.func57 rfl (by kernel_rfl) (by rw [hl]; kernel_rfl) rfl (by kernel_rfl) s
/-! ### slices.ContainsFunc[[]naskh.api.Span,naskh.api.Span]: function 38 -/
def r38_0 : List PS := [.mk (some 4) (.assign (.const (.bool false))) none]
def r38_1 : List PS := [.mk (some 5) (.move (.tmp 0)) none,
  .mk (some 6) (.move (.tmp 1)) none,
  .mk (some 7) (.call ⟨(.value (.func 57)), #[(.tmp 5), (.tmp 6)], #[31, 59]⟩) none,
  .mk (some 8) (.binOp .geq 3 (.tmp 7) (.const (.int .i64 0)) 3) none,
  .mk (some 4) (.assign (.tmp 8)) none]
def c38 : PC := (.seq (.reg false r38_0) (.seq (.reg false r38_1) .ret))
theorem e38 {args : List PV} {h : Heap} {K : PV → Heap → Prop} (hl : args.length = 2) (s : pwp Try.prog [] c38 (fin Try.prog [.tmp 4] h K) (slots0 (olds args)) h) : CanP Try.prog 38 args h K :=
  can_of2 (n := 9) mixed Try.func38 rfl (by kernel_rfl) (by rw [hl]; kernel_rfl) rfl (by kernel_rfl) s
/-! ### naskh.balance.Level: function 18 -/
def r18_0 : List PS := [.mk (some 2) (.box 27 (.tmp 0)) none,
  .mk (some 3) (.box 22 (.tmp 1)) none,
  .mk (some 4) (.assign (.const (.bool false))) none]
def r18_1 : List PS := [.mk (some 6) (.makeFunc (.func 37) #[] #[(.tmp 2), (.tmp 3)]) none,
  .mk (some 5) (.assign (.tmp 6)) none]
def r18_2 : List PS := [.mk (some 7) (.load 27 (.tmp 2)) none,
  .mk (some 8) (.load 22 (.tmp 3)) none,
  .mk (some 9) (.call ⟨(.value (.func 20)), #[(.tmp 7), (.tmp 8)], #[27, 22]⟩) none,
  .mk (some 10) (.move (.tmp 5)) none,
  .mk (some 11) (.call ⟨(.value (.func 38)), #[(.tmp 9), (.tmp 10)], #[31, 59]⟩) none,
  .mk (some 12) (.unOp .not 4 (.tmp 11)) none,
  .mk (some 4) (.assign (.tmp 12)) none]
def c18 : PC := (.seq (.reg false r18_0) (.seq (.reg false r18_1) (.seq (.reg false r18_2) .ret)))
theorem e18 {args : List PV} {h : Heap} {K : PV → Heap → Prop} (hl : args.length = 2) (s : pwp Try.prog [] c18 (fin Try.prog [.tmp 4] h K) (slots0 (olds args)) h) : CanP Try.prog 18 args h K :=
  can_of2 (n := 13) mixed Try.func18 rfl (by kernel_rfl) (by rw [hl]; kernel_rfl) rfl (by kernel_rfl) s
/-! ### naskh.naskhlaw47.awake: function 7 -/
def r7_0 : List PS := [.mk (some 0) (.assign (.const (.bool false))) none]
def r7_1 : List PS := [.mk (some 1) (.buildSlice 22 2 #[(0, (.const (.int .i64 16))), (1, (.const (.int .i64 0)))]) none,
  .mk (some 2) (.call ⟨(.value (.func 9)), #[(.tmp 1)], #[22]⟩) none,
  .mk (some 3) (.buildSlice 22 1 #[(0, (.const (.int .i64 0)))]) none,
  .mk (some 4) (.call ⟨(.value (.func 8)), #[(.tmp 2), (.tmp 3)], #[22, 22]⟩) none,
  .mk (some 5) (.move (.tmp 4)) none,
  .mk (some 6) (.buildSlice 22 2 #[(0, (.const (.int .i64 16))), (1, (.const (.int .i64 0)))]) (some (5, true)),
  .mk (some 7) (.call ⟨(.value (.func 13)), #[(.tmp 6)], #[22]⟩) (some (5, true)),
  .mk (some 8) (.buildSlice 22 1 #[(0, (.const (.int .i64 8236)))]) (some (5, true)),
  .mk (some 9) (.call ⟨(.value (.func 8)), #[(.tmp 7), (.tmp 8)], #[22, 22]⟩) (some (5, true)),
  .mk (some 10) (.pick (.tmp 5) (.tmp 9) (.const (.bool false))) none,
  .mk (some 11) (.move (.tmp 10)) none,
  .mk (some 12) (.call ⟨(.value (.func 15)), #[], #[]⟩) (some (11, true)),
  .mk (some 13) (.buildSlice 22 1 #[(0, (.const (.int .i64 8235)))]) (some (11, true)),
  .mk (some 14) (.call ⟨(.value (.func 18)), #[(.tmp 12), (.tmp 13)], #[27, 22]⟩) (some (11, true)),
  .mk (some 15) (.unOp .not 4 (.tmp 14)) (some (11, true)),
  .mk (some 16) (.pick (.tmp 11) (.tmp 15) (.const (.bool false))) none,
  .mk (some 0) (.assign (.tmp 16)) none]
def c7 : PC := (.seq (.reg false r7_0) (.seq (.reg false r7_1) .ret))
theorem e7 {args : List PV} {h : Heap} {K : PV → Heap → Prop} (hl : args.length = 0) (s : pwp Try.prog [] c7 (fin Try.prog [.tmp 0] h K) (slots0 (olds args)) h) : CanP Try.prog 7 args h K :=
  can_of2 (n := 17) mixed Try.func7 rfl (by kernel_rfl) (by rw [hl]; kernel_rfl) rfl (by kernel_rfl) s
/-! ### naskh.naskhref20.Opens: function 28 -/
def r28_0 : List PS := [.mk (some 2) (.assign (.const (.bool false))) none]
def r28_1 : List PS := [.mk (some 3) (.move (.tmp 0)) none,
  .mk (some 4) (.binOp .eql 3 (.tmp 3) (.const (.int .i64 19)) 3) none,
  .mk (some 5) (.move (.tmp 4)) none,
  .mk (some 6) (.move (.tmp 0)) (some (5, false)),
  .mk (some 7) (.binOp .eql 3 (.tmp 6) (.const (.int .i64 20)) 3) (some (5, false)),
  .mk (some 8) (.pick (.tmp 5) (.const (.bool true)) (.tmp 7)) none,
  .mk (some 9) (.move (.tmp 8)) none,
  .mk (some 10) (.move (.tmp 0)) (some (9, false)),
  .mk (some 11) (.binOp .eql 3 (.tmp 10) (.const (.int .i64 21)) 3) (some (9, false)),
  .mk (some 12) (.pick (.tmp 9) (.const (.bool true)) (.tmp 11)) none,
  .mk (some 2) (.assign (.tmp 12)) none]
def c28 : PC := (.seq (.reg false r28_0) (.seq (.reg false r28_1) .ret))
theorem e28 {args : List PV} {h : Heap} {K : PV → Heap → Prop} (hl : args.length = 1) (s : pwp Try.prog [] c28 (fin Try.prog [.tmp 2] h K) (slots0 (olds args)) h) : CanP Try.prog 28 args h K :=
  can_of2 (n := 13) mixed Try.func28 rfl (by kernel_rfl) (by rw [hl]; kernel_rfl) rfl (by kernel_rfl) s
/-! ### naskh.naskhref47.Embeds: function 48 -/
def r48_0 : List PS := [.mk (some 2) (.assign (.const (.bool false))) none]
def r48_1 : List PS := [.mk (some 3) (.move (.tmp 0)) none,
  .mk (some 4) (.binOp .eql 3 (.tmp 3) (.const (.int .i64 14)) 3) none,
  .mk (some 5) (.move (.tmp 4)) none,
  .mk (some 6) (.move (.tmp 0)) (some (5, false)),
  .mk (some 7) (.binOp .eql 3 (.tmp 6) (.const (.int .i64 15)) 3) (some (5, false)),
  .mk (some 8) (.pick (.tmp 5) (.const (.bool true)) (.tmp 7)) none,
  .mk (some 9) (.move (.tmp 8)) none,
  .mk (some 10) (.move (.tmp 0)) (some (9, false)),
  .mk (some 11) (.binOp .eql 3 (.tmp 10) (.const (.int .i64 16)) 3) (some (9, false)),
  .mk (some 12) (.pick (.tmp 9) (.const (.bool true)) (.tmp 11)) none,
  .mk (some 13) (.move (.tmp 12)) none,
  .mk (some 14) (.move (.tmp 0)) (some (13, false)),
  .mk (some 15) (.binOp .eql 3 (.tmp 14) (.const (.int .i64 17)) 3) (some (13, false)),
  .mk (some 16) (.pick (.tmp 13) (.const (.bool true)) (.tmp 15)) none,
  .mk (some 2) (.assign (.tmp 16)) none]
def c48 : PC := (.seq (.reg false r48_0) (.seq (.reg false r48_1) .ret))
theorem e48 {args : List PV} {h : Heap} {K : PV → Heap → Prop} (hl : args.length = 1) (s : pwp Try.prog [] c48 (fin Try.prog [.tmp 2] h K) (slots0 (olds args)) h) : CanP Try.prog 48 args h K :=
  can_of2 (n := 17) mixed Try.func48 rfl (by kernel_rfl) (by rw [hl]; kernel_rfl) rfl (by kernel_rfl) s
/-! ### naskh.naskhref47.walk: function 25 -/
def r25_0 : List PS := [.mk (some 2) (.assign (.const (.slice none 0 0))) none,
  .mk (some 3) (.assign (.const (.slice none 0 0))) none,
  .mk (some 4) (.assign (.const (.slice none 0 0))) none]
def r25_1 : List PS := [.mk (some 5) (.assign (.const (.slice none 0 0))) none,
  .mk (some 6) (.assign (.const (.slice none 0 0))) none,
  .mk (some 7) (.assign (.const (.slice none 0 0))) none]
def r25_2 : List PS := [.mk (some 8) (.assign (.const (.int .i64 0))) none]
def r25_3 : List PS := [.mk (some 12) (.move (.tmp 8)) none,
  .mk (some 13) (.move (.tmp 0)) none,
  .mk (some 14) (.call ⟨(.builtin .len), #[(.tmp 13)], #[22]⟩) none,
  .mk (some 15) (.binOp .lss 3 (.tmp 12) (.tmp 14) 3) none]
def r25_4 : List PS := [.mk (some 18) (.move (.tmp 0)) none,
  .mk (some 19) (.move (.tmp 8)) none,
  .mk (some 20) (.indexAddr 22 (.tmp 18) (.tmp 19)) none,
  .mk (some 21) (.load 3 (.tmp 20)) none,
  .mk (some 9) (.assign (.tmp 21)) none]
def r25_5 : List PS := [.mk (some 22) (.move (.tmp 5)) none,
  .mk (some 23) (.call ⟨(.builtin .len), #[(.tmp 22)], #[22]⟩) none,
  .mk (some 10) (.assign (.tmp 23)) none]
def r25_6 : List PS := [.mk (some 25) (.move (.tmp 9)) none,
  .mk (some 26) (.call ⟨(.value (.func 48)), #[(.tmp 25)], #[3]⟩) none,
  .mk (some 27) (.move (.tmp 26)) none,
  .mk (some 28) (.move (.tmp 9)) (some (27, false)),
  .mk (some 29) (.call ⟨(.value (.func 28)), #[(.tmp 28)], #[3]⟩) (some (27, false)),
  .mk (some 30) (.pick (.tmp 27) (.const (.bool true)) (.tmp 29)) none,
  .mk (some 24) (.assign (.tmp 30)) none]
def r25_7 : List PS := [.mk (some 31) (.move (.tmp 5)) none,
  .mk (some 32) (.move (.tmp 8)) none,
  .mk (some 33) (.buildSlice 22 1 #[(0, (.tmp 32))]) none,
  .mk (some 34) (.call ⟨(.builtin .append), #[(.tmp 31), (.tmp 33)], #[22, 22]⟩) none,
  .mk (some 5) (.assign (.tmp 34)) none]
def r25_8 : List PS := [.mk (some 36) (.move (.tmp 9)) none,
  .mk (some 37) (.binOp .eql 3 (.tmp 36) (.const (.int .i64 18)) 3) none,
  .mk (some 38) (.move (.tmp 37)) none,
  .mk (some 39) (.move (.tmp 10)) (some (38, true)),
  .mk (some 40) (.binOp .gtr 3 (.tmp 39) (.const (.int .i64 0)) 3) (some (38, true)),
  .mk (some 41) (.pick (.tmp 38) (.tmp 40) (.const (.bool false))) none,
  .mk (some 42) (.move (.tmp 41)) none,
  .mk (some 43) (.move (.tmp 0)) (some (42, true)),
  .mk (some 44) (.move (.tmp 5)) (some (42, true)),
  .mk (some 45) (.move (.tmp 10)) (some (42, true)),
  .mk (some 46) (.binOp .sub 3 (.tmp 45) (.const (.int .i64 1)) 3) (some (42, true)),
  .mk (some 47) (.indexAddr 22 (.tmp 44) (.tmp 46)) (some (42, true)),
  .mk (some 48) (.load 3 (.tmp 47)) (some (42, true)),
  .mk (some 49) (.indexAddr 22 (.tmp 43) (.tmp 48)) (some (42, true)),
  .mk (some 50) (.load 3 (.tmp 49)) (some (42, true)),
  .mk (some 51) (.call ⟨(.value (.func 48)), #[(.tmp 50)], #[3]⟩) (some (42, true)),
  .mk (some 52) (.pick (.tmp 42) (.tmp 51) (.const (.bool false))) none,
  .mk (some 35) (.assign (.tmp 52)) none]
def r25_9 : List PS := [.mk (some 53) (.move (.tmp 5)) none,
  .mk (some 54) (.move (.tmp 10)) none,
  .mk (some 55) (.binOp .sub 3 (.tmp 54) (.const (.int .i64 1)) 3) none,
  .mk (some 56) (.slice 22 (.tmp 53) none (some (.tmp 55)) none) none,
  .mk (some 5) (.assign (.tmp 56)) none]
def r25_10 : List PS := [.mk (some 58) (.move (.tmp 9)) none,
  .mk (some 59) (.binOp .eql 3 (.tmp 58) (.const (.int .i64 18)) 3) none,
  .mk (some 57) (.assign (.tmp 59)) none]
def r25_11 : List PS := [.mk (some 60) (.move (.tmp 7)) none,
  .mk (some 61) (.move (.tmp 8)) none,
  .mk (some 62) (.buildSlice 22 1 #[(0, (.tmp 61))]) none,
  .mk (some 63) (.call ⟨(.builtin .append), #[(.tmp 60), (.tmp 62)], #[22, 22]⟩) none,
  .mk (some 7) (.assign (.tmp 63)) none]
def r25_12 : List PS := [.mk (some 65) (.move (.tmp 9)) none,
  .mk (some 66) (.binOp .eql 3 (.tmp 65) (.const (.int .i64 22)) 3) none,
  .mk (some 64) (.assign (.tmp 66)) none]
def r25_13 : List PS := [.mk (some 67) (.move (.tmp 10)) none,
  .mk (some 68) (.binOp .sub 3 (.tmp 67) (.const (.int .i64 1)) 3) none,
  .mk (some 11) (.assign (.tmp 68)) none]
def r25_14 : List PS := [.mk (some 69) (.move (.tmp 11)) none,
  .mk (some 70) (.binOp .geq 3 (.tmp 69) (.const (.int .i64 0)) 3) none,
  .mk (some 71) (.move (.tmp 70)) none,
  .mk (some 72) (.move (.tmp 0)) (some (71, true)),
  .mk (some 73) (.move (.tmp 5)) (some (71, true)),
  .mk (some 74) (.move (.tmp 11)) (some (71, true)),
  .mk (some 75) (.indexAddr 22 (.tmp 73) (.tmp 74)) (some (71, true)),
  .mk (some 76) (.load 3 (.tmp 75)) (some (71, true)),
  .mk (some 77) (.indexAddr 22 (.tmp 72) (.tmp 76)) (some (71, true)),
  .mk (some 78) (.load 3 (.tmp 77)) (some (71, true)),
  .mk (some 79) (.call ⟨(.value (.func 48)), #[(.tmp 78)], #[3]⟩) (some (71, true)),
  .mk (some 80) (.pick (.tmp 71) (.tmp 79) (.const (.bool false))) none]
def r25_15 : List PS := [.mk (some 81) (.move (.tmp 11)) none,
  .mk (some 82) (.binOp .sub 3 (.tmp 81) (.const (.int .i64 1)) 3) none,
  .mk (some 11) (.assign (.tmp 82)) none]
def r25_16 : List PS := [.mk (some 83) (.move (.tmp 11)) none,
  .mk (some 84) (.binOp .lss 3 (.tmp 83) (.const (.int .i64 0)) 3) none]
def r25_17 : List PS := [.mk (some 85) (.move (.tmp 7)) none,
  .mk (some 86) (.move (.tmp 8)) none,
  .mk (some 87) (.buildSlice 22 1 #[(0, (.tmp 86))]) none,
  .mk (some 88) (.call ⟨(.builtin .append), #[(.tmp 85), (.tmp 87)], #[22, 22]⟩) none,
  .mk (some 7) (.assign (.tmp 88)) none]
def r25_18 : List PS := [.mk (some 89) (.move (.tmp 6)) none,
  .mk (some 90) (.move (.tmp 5)) none,
  .mk (some 91) (.move (.tmp 11)) none,
  .mk (some 92) (.binOp .add 3 (.tmp 91) (.const (.int .i64 1)) 3) none,
  .mk (some 93) (.slice 22 (.tmp 90) (some (.tmp 92)) none none) none,
  .mk (some 94) (.call ⟨(.builtin .append), #[(.tmp 89), (.tmp 93)], #[22, 22]⟩) none,
  .mk (some 6) (.assign (.tmp 94)) none]
def r25_19 : List PS := [.mk (some 95) (.move (.tmp 5)) none,
  .mk (some 96) (.move (.tmp 11)) none,
  .mk (some 97) (.slice 22 (.tmp 95) none (some (.tmp 96)) none) none,
  .mk (some 5) (.assign (.tmp 97)) none]
def r25_20 : List PS := [.mk (some 16) (.move (.tmp 8)) none,
  .mk (some 17) (.binOp .add 3 (.tmp 16) (.const (.int .i64 1)) 3) none,
  .mk (some 8) (.assign (.tmp 17)) none]
def r25_21 : List PS := [.mk (some 98) (.move (.tmp 5)) none,
  .mk (some 99) (.move (.tmp 6)) none,
  .mk (some 100) (.move (.tmp 7)) none,
  .mk (some 2) (.assign (.tmp 98)) none,
  .mk (some 3) (.assign (.tmp 99)) none,
  .mk (some 4) (.assign (.tmp 100)) none]
def c25 : PC := (.seq (.reg false r25_0) (.seq (.reg false r25_1) (.seq (.seq (.reg false r25_2) (.block 0 (.loop (.seq (.seq (.reg false r25_3) (.cond (.tmp 15) .skip (.exit 0))) (.seq (.block 1 (.seq (.reg false r25_4) (.seq (.reg false r25_5) (.block 2 (.seq (.reg false r25_6) (.cond (.tmp 24) (.reg false r25_7) (.seq (.reg false r25_8) (.cond (.tmp 35) (.reg false r25_9) (.seq (.reg false r25_10) (.cond (.tmp 57) (.reg false r25_11) (.seq (.reg false r25_12) (.cond (.tmp 64) (.seq (.reg false r25_13) (.seq (.block 3 (.loop (.seq (.seq (.reg false r25_14) (.cond (.tmp 80) .skip (.exit 3))) (.block 4 (.reg false r25_15))))) (.seq (.seq (.reg false r25_16) (.cond (.tmp 84) (.seq (.reg false r25_17) (.exit 1)) .skip)) (.seq (.reg false r25_18) (.reg false r25_19))))) .skip)))))))))))) (.reg false r25_20)))))) (.seq (.reg false r25_21) .ret))))
theorem e25 {args : List PV} {h : Heap} {K : PV → Heap → Prop} (hl : args.length = 1) (s : pwp Try.prog [] c25 (fin Try.prog [.tmp 2, .tmp 3, .tmp 4] h K) (slots0 (olds args)) h) : CanP Try.prog 25 args h K :=
  can_of2 (n := 101) mixed Try.func25 rfl (by kernel_rfl) (by rw [hl]; kernel_rfl) rfl (by kernel_rfl) s
/-! ### naskh.naskhref47.sorted: function 26 -/
def r26_0 : List PS := [.mk (some 2) (.assign (.const (.slice none 0 0))) none]
def r26_1 : List PS := [.mk (some 3) (.assign (.const (.slice none 0 0))) none]
def r26_2 : List PS := [.mk (some 4) (.assign (.const (.int .i64 0))) none]
def r26_3 : List PS := [.mk (some 6) (.move (.tmp 4)) none,
  .mk (some 7) (.move (.tmp 0)) none,
  .mk (some 8) (.call ⟨(.builtin .len), #[(.tmp 7)], #[22]⟩) none,
  .mk (some 9) (.binOp .lss 3 (.tmp 6) (.tmp 8) 3) none]
def r26_4 : List PS := [.frz 3,
  .mk (some 5) (.assign (.const (.int .i64 0))) none]
def r26_5 : List PS := [.mk (some 12) (.move (.tmp 5)) none,
  .mk (some 13) (.move (.tmp 3)) none,
  .mk (some 14) (.call ⟨(.builtin .len), #[(.tmp 13)], #[22]⟩) none,
  .mk (some 15) (.binOp .lss 3 (.tmp 12) (.tmp 14) 3) none,
  .mk (some 16) (.move (.tmp 15)) none,
  .mk (some 17) (.move (.tmp 3)) (some (16, true)),
  .mk (some 18) (.move (.tmp 5)) (some (16, true)),
  .mk (some 19) (.indexAddr 22 (.tmp 17) (.tmp 18)) (some (16, true)),
  .mk (some 20) (.load 3 (.tmp 19)) (some (16, true)),
  .mk (some 21) (.move (.tmp 0)) (some (16, true)),
  .mk (some 22) (.move (.tmp 4)) (some (16, true)),
  .mk (some 23) (.indexAddr 22 (.tmp 21) (.tmp 22)) (some (16, true)),
  .mk (some 24) (.load 3 (.tmp 23)) (some (16, true)),
  .mk (some 25) (.binOp .lss 3 (.tmp 20) (.tmp 24) 3) (some (16, true)),
  .mk (some 26) (.pick (.tmp 16) (.tmp 25) (.const (.bool false))) none]
def r26_6 : List PS := [.mk (some 27) (.move (.tmp 5)) none,
  .mk (some 28) (.binOp .add 3 (.tmp 27) (.const (.int .i64 1)) 3) none,
  .frz 3,
  .mk (some 5) (.assign (.tmp 28)) none]
def r26_7 : List PS := [.mk (some 29) (.move (.tmp 3)) none,
  .mk (some 30) (.move (.tmp 5)) none,
  .mk (some 31) (.slice 22 (.tmp 29) none (some (.tmp 30)) none) none,
  .mk (some 32) (.call ⟨(.builtin .append), #[(.const (.slice none 0 0)), (.tmp 31)], #[22, 22]⟩) none,
  .mk (some 33) (.move (.tmp 0)) none,
  .mk (some 34) (.move (.tmp 4)) none,
  .mk (some 35) (.indexAddr 22 (.tmp 33) (.tmp 34)) none,
  .mk (some 36) (.load 3 (.tmp 35)) none,
  .mk (some 37) (.buildSlice 22 1 #[(0, (.tmp 36))]) none,
  .mk (some 38) (.call ⟨(.builtin .append), #[(.tmp 32), (.tmp 37)], #[22, 22]⟩) none,
  .mk (some 39) (.move (.tmp 3)) none,
  .mk (some 40) (.move (.tmp 5)) none,
  .mk (some 41) (.slice 22 (.tmp 39) (some (.tmp 40)) none none) none,
  .mk (some 42) (.call ⟨(.builtin .append), #[(.tmp 38), (.tmp 41)], #[22, 22]⟩) none,
  .mk (some 3) (.assign (.tmp 42)) none]
def r26_8 : List PS := [.mk (some 10) (.move (.tmp 4)) none,
  .mk (some 11) (.binOp .add 3 (.tmp 10) (.const (.int .i64 1)) 3) none,
  .mk (some 4) (.assign (.tmp 11)) none]
def r26_9 : List PS := [.mk (some 43) (.move (.tmp 3)) none,
  .mk (some 2) (.assign (.tmp 43)) none]
def c26 : PC := (.seq (.reg false r26_0) (.seq (.reg false r26_1) (.seq (.seq (.reg false r26_2) (.block 0 (.loop (.seq (.seq (.reg false r26_3) (.cond (.tmp 9) .skip (.exit 0))) (.seq (.block 1 (.seq (.reg false r26_4) (.seq (.block 2 (.loop (.seq (.seq (.reg true r26_5) (.cond (.tmp 26) .skip (.exit 2))) (.block 3 (.reg false r26_6))))) (.reg true r26_7)))) (.reg false r26_8)))))) (.seq (.reg false r26_9) .ret))))
theorem e26 {args : List PV} {h : Heap} {K : PV → Heap → Prop} (hl : args.length = 1) (s : pwp Try.prog [36] c26 (fin Try.prog [.tmp 2] h K) (slots0 (olds args)) h) : CanP Try.prog 26 args h K :=
  can_of2 (n := 44) mixed Try.func26 rfl (by kernel_rfl) (by rw [hl]; kernel_rfl) rfl (by kernel_rfl) s
/-! ### naskh.naskhref47.Open: function 10 -/
def r10_0 : List PS := [.mk (some 2) (.assign (.const (.slice none 0 0))) none]
def r10_1 : List PS := [.mk (some 7) (.move (.tmp 0)) none,
  .mk (some 8) (.call ⟨(.value (.func 25)), #[(.tmp 7)], #[22]⟩) none,
  .mk (some 6) (.move (.tmp 8)) none,
  .mk (some 9) (.extract (.tmp 6) 0) none,
  .mk (some 10) (.extract (.tmp 6) 1) none,
  .mk (some 11) (.extract (.tmp 6) 2) none,
  .mk (some 3) (.assign (.tmp 9)) none,
  .mk (some 4) (.assign (.tmp 10)) none,
  .mk (some 5) (.assign (.tmp 11)) none]
def r10_2 : List PS := [.mk (some 12) (.move (.tmp 3)) none,
  .mk (some 13) (.call ⟨(.builtin .append), #[(.const (.slice none 0 0)), (.tmp 12)], #[22, 22]⟩) none,
  .mk (some 14) (.move (.tmp 4)) none,
  .mk (some 15) (.call ⟨(.builtin .append), #[(.tmp 13), (.tmp 14)], #[22, 22]⟩) none,
  .frz 15,
  .mk (some 16) (.call ⟨(.value (.func 26)), #[(.tmp 15)], #[22]⟩) none,
  .mk (some 2) (.assign (.tmp 16)) none]
def c10 : PC := (.seq (.reg false r10_0) (.seq (.reg false r10_1) (.seq (.reg false r10_2) .ret)))
theorem e10 {args : List PV} {h : Heap} {K : PV → Heap → Prop} (hl : args.length = 1) (s : pwp Try.prog [] c10 (fin Try.prog [.tmp 2] h K) (slots0 (olds args)) h) : CanP Try.prog 10 args h K :=
  can_of2 (n := 17) mixed Try.func10 rfl (by kernel_rfl) (by rw [hl]; kernel_rfl) rfl (by kernel_rfl) s
/-! ### naskh.balance.Loose: function 11 -/
def r11_0 : List PS := [.mk (some 2) (.assign (.const (.slice none 0 0))) none]
def r11_1 : List PS := [.mk (some 3) (.move (.tmp 0)) none,
  .mk (some 4) (.call ⟨(.value (.func 22)), #[(.tmp 3)], #[22]⟩) none,
  .mk (some 5) (.nilCheck (.tmp 4)) none,
  .mk (some 6) (.fieldAddr 39 (.tmp 5) 3) none,
  .mk (some 7) (.load 22 (.tmp 6)) none,
  .mk (some 2) (.assign (.tmp 7)) none]
def c11 : PC := (.seq (.reg false r11_0) (.seq (.reg false r11_1) .ret))
theorem e11 {args : List PV} {h : Heap} {K : PV → Heap → Prop} (hl : args.length = 1) (s : pwp Try.prog [] c11 (fin Try.prog [.tmp 2] h K) (slots0 (olds args)) h) : CanP Try.prog 11 args h K :=
  can_of2 (n := 8) mixed Try.func11 rfl (by kernel_rfl) (by rw [hl]; kernel_rfl) rfl (by kernel_rfl) s
/-! ### naskh.naskhref47.Loose: function 12 -/
def r12_0 : List PS := [.mk (some 2) (.assign (.const (.slice none 0 0))) none]
def r12_1 : List PS := [.mk (some 7) (.move (.tmp 0)) none,
  .mk (some 8) (.call ⟨(.value (.func 25)), #[(.tmp 7)], #[22]⟩) none,
  .mk (some 6) (.move (.tmp 8)) none,
  .mk (some 9) (.extract (.tmp 6) 0) none,
  .mk (some 10) (.extract (.tmp 6) 1) none,
  .mk (some 11) (.extract (.tmp 6) 2) none,
  .mk (some 3) (.assign (.tmp 9)) none,
  .mk (some 4) (.assign (.tmp 10)) none,
  .mk (some 5) (.assign (.tmp 11)) none]
def r12_2 : List PS := [.mk (some 12) (.move (.tmp 5)) none,
  .mk (some 2) (.assign (.tmp 12)) none]
def c12 : PC := (.seq (.reg false r12_0) (.seq (.reg false r12_1) (.seq (.reg false r12_2) .ret)))
theorem e12 {args : List PV} {h : Heap} {K : PV → Heap → Prop} (hl : args.length = 1) (s : pwp Try.prog [] c12 (fin Try.prog [.tmp 2] h K) (slots0 (olds args)) h) : CanP Try.prog 12 args h K :=
  can_of2 (n := 13) mixed Try.func12 rfl (by kernel_rfl) (by rw [hl]; kernel_rfl) rfl (by kernel_rfl) s
/-! ### naskh.naskhref47.Close: function 14 -/
def r14_0 : List PS := [.mk (some 2) (.assign (.const (.slice none 0 0))) none]
def r14_1 : List PS := [.mk (some 9) (.move (.tmp 0)) none,
  .mk (some 10) (.call ⟨(.value (.func 25)), #[(.tmp 9)], #[22]⟩) none,
  .mk (some 8) (.move (.tmp 10)) none,
  .mk (some 11) (.extract (.tmp 8) 0) none,
  .mk (some 12) (.extract (.tmp 8) 1) none,
  .mk (some 13) (.extract (.tmp 8) 2) none,
  .mk (some 3) (.assign (.tmp 11)) none,
  .mk (some 4) (.assign (.tmp 12)) none,
  .mk (some 5) (.assign (.tmp 13)) none]
def r14_2 : List PS := [.mk (some 6) (.assign (.const (.slice none 0 0))) none]
def r14_3 : List PS := [.mk (some 14) (.move (.tmp 3)) none,
  .mk (some 15) (.call ⟨(.builtin .len), #[(.tmp 14)], #[22]⟩) none,
  .mk (some 16) (.binOp .sub 3 (.tmp 15) (.const (.int .i64 1)) 3) none,
  .mk (some 7) (.assign (.tmp 16)) none]
def r14_4 : List PS := [.mk (some 17) (.move (.tmp 7)) none,
  .mk (some 18) (.binOp .geq 3 (.tmp 17) (.const (.int .i64 0)) 3) none]
def r14_5 : List PS := [.mk (some 21) (.move (.tmp 0)) none,
  .mk (some 22) (.move (.tmp 3)) none,
  .mk (some 23) (.move (.tmp 7)) none,
  .mk (some 24) (.indexAddr 22 (.tmp 22) (.tmp 23)) none,
  .mk (some 25) (.load 3 (.tmp 24)) none,
  .mk (some 26) (.indexAddr 22 (.tmp 21) (.tmp 25)) none,
  .mk (some 27) (.load 3 (.tmp 26)) none,
  .mk (some 28) (.call ⟨(.value (.func 28)), #[(.tmp 27)], #[3]⟩) none]
def r14_6 : List PS := [.mk (some 29) (.move (.tmp 6)) none,
  .mk (some 30) (.buildSlice 22 1 #[(0, (.const (.int .i64 8297)))]) none,
  .mk (some 31) (.call ⟨(.builtin .append), #[(.tmp 29), (.tmp 30)], #[22, 22]⟩) none,
  .mk (some 6) (.assign (.tmp 31)) none]
def r14_7 : List PS := [.mk (some 32) (.move (.tmp 6)) none,
  .mk (some 33) (.buildSlice 22 1 #[(0, (.const (.int .i64 8236)))]) none,
  .mk (some 34) (.call ⟨(.builtin .append), #[(.tmp 32), (.tmp 33)], #[22, 22]⟩) none,
  .mk (some 6) (.assign (.tmp 34)) none]
def r14_8 : List PS := [.mk (some 19) (.move (.tmp 7)) none,
  .mk (some 20) (.binOp .sub 3 (.tmp 19) (.const (.int .i64 1)) 3) none,
  .mk (some 7) (.assign (.tmp 20)) none]
def r14_9 : List PS := [.mk (some 35) (.move (.tmp 6)) none,
  .mk (some 2) (.assign (.tmp 35)) none]
def c14 : PC := (.seq (.reg false r14_0) (.seq (.reg false r14_1) (.seq (.reg false r14_2) (.seq (.seq (.reg false r14_3) (.block 0 (.loop (.seq (.seq (.reg false r14_4) (.cond (.tmp 18) .skip (.exit 0))) (.seq (.block 1 (.seq (.reg false r14_5) (.cond (.tmp 28) (.reg false r14_6) (.reg false r14_7)))) (.reg false r14_8)))))) (.seq (.reg false r14_9) .ret)))))
theorem e14 {args : List PV} {h : Heap} {K : PV → Heap → Prop} (hl : args.length = 1) (s : pwp Try.prog [] c14 (fin Try.prog [.tmp 2] h K) (slots0 (olds args)) h) : CanP Try.prog 14 args h K :=
  can_of2 (n := 36) mixed Try.func14 rfl (by kernel_rfl) (by rw [hl]; kernel_rfl) rfl (by kernel_rfl) s
/-! ### naskh.naskhlaw47.BalanceTells: function 3 -/
def r3_0 : List PS := [.mk (some 2) (.assign (.const (.bool false))) none]
def r3_1 : List PS := [.mk (some 3) (.move (.tmp 0)) none,
  .mk (some 4) (.call ⟨(.builtin .len), #[(.tmp 3)], #[22]⟩) none,
  .mk (some 5) (.binOp .gtr 3 (.tmp 4) (.const (.int .i64 200)) 3) none]
def r3_2 : List PS := [.mk (some 6) (.call ⟨(.value (.func 7)), #[], #[]⟩) none,
  .mk (some 2) (.assign (.tmp 6)) none]
def r3_3 : List PS := [.mk (some 7) (.move (.tmp 0)) none,
  .mk (some 8) (.call ⟨(.value (.func 9)), #[(.tmp 7)], #[22]⟩) none,
  .mk (some 9) (.move (.tmp 0)) none,
  .mk (some 10) (.call ⟨(.value (.func 10)), #[(.tmp 9)], #[22]⟩) none,
  .mk (some 11) (.call ⟨(.value (.func 8)), #[(.tmp 8), (.tmp 10)], #[22, 22]⟩) none,
  .mk (some 12) (.move (.tmp 11)) none,
  .mk (some 13) (.move (.tmp 0)) (some (12, true)),
  .mk (some 14) (.call ⟨(.value (.func 11)), #[(.tmp 13)], #[22]⟩) (some (12, true)),
  .mk (some 15) (.move (.tmp 0)) (some (12, true)),
  .mk (some 16) (.call ⟨(.value (.func 12)), #[(.tmp 15)], #[22]⟩) (some (12, true)),
  .mk (some 17) (.call ⟨(.value (.func 8)), #[(.tmp 14), (.tmp 16)], #[22, 22]⟩) (some (12, true)),
  .mk (some 18) (.pick (.tmp 12) (.tmp 17) (.const (.bool false))) none,
  .mk (some 19) (.move (.tmp 18)) none,
  .mk (some 20) (.move (.tmp 0)) (some (19, true)),
  .mk (some 21) (.call ⟨(.value (.func 13)), #[(.tmp 20)], #[22]⟩) (some (19, true)),
  .mk (some 22) (.move (.tmp 0)) (some (19, true)),
  .mk (some 23) (.call ⟨(.value (.func 14)), #[(.tmp 22)], #[22]⟩) (some (19, true)),
  .mk (some 24) (.call ⟨(.value (.func 8)), #[(.tmp 21), (.tmp 23)], #[22, 22]⟩) (some (19, true)),
  .mk (some 25) (.pick (.tmp 19) (.tmp 24) (.const (.bool false))) none,
  .mk (some 26) (.move (.tmp 25)) none,
  .mk (some 27) (.call ⟨(.value (.func 7)), #[], #[]⟩) (some (26, true)),
  .mk (some 28) (.pick (.tmp 26) (.tmp 27) (.const (.bool false))) none,
  .mk (some 2) (.assign (.tmp 28)) none]
def c3 : PC := (.seq (.reg false r3_0) (.seq (.seq (.reg false r3_1) (.cond (.tmp 5) (.seq (.reg false r3_2) .ret) .skip)) (.seq (.reg false r3_3) .ret)))
theorem e3 {args : List PV} {h : Heap} {K : PV → Heap → Prop} (hl : args.length = 1) (s : pwp Try.prog [] c3 (fin Try.prog [.tmp 2] h K) (slots0 (olds args)) h) : CanP Try.prog 3 args h K :=
  can_of2 (n := 29) mixed Try.func3 rfl (by kernel_rfl) (by rw [hl]; kernel_rfl) rfl (by kernel_rfl) s
/-! ### naskh.balance.body: function 53 -/
def r53_0 : List PS := [.mk (some 4) (.assign (.const (.int .i64 0))) none]
def r53_1 : List PS := [.mk (some 6) (.move (.tmp 0)) none,
  .mk (some 7) (.call ⟨(.builtin .len), #[(.tmp 6)], #[22]⟩) none,
  .mk (some 5) (.assign (.tmp 7)) none]
def r53_2 : List PS := [.mk (some 8) (.move (.tmp 5)) none,
  .mk (some 9) (.binOp .eql 3 (.tmp 8) (.const (.int .i64 0)) 3) none,
  .mk (some 10) (.move (.tmp 9)) none,
  .mk (some 11) (.move (.tmp 1)) (some (10, false)),
  .mk (some 12) (.move (.tmp 5)) (some (10, false)),
  .mk (some 13) (.binOp .sub 3 (.tmp 12) (.const (.int .i64 1)) 3) (some (10, false)),
  .mk (some 14) (.indexAddr 22 (.tmp 11) (.tmp 13)) (some (10, false)),
  .mk (some 15) (.load 3 (.tmp 14)) (some (10, false)),
  .mk (some 16) (.binOp .neq 3 (.tmp 15) (.const (.int .i64 10)) 3) (some (10, false)),
  .mk (some 17) (.pick (.tmp 10) (.const (.bool true)) (.tmp 16)) none]
def r53_3 : List PS := [.mk (some 18) (.move (.tmp 5)) none,
  .mk (some 4) (.assign (.tmp 18)) none]
def r53_4 : List PS := [.mk (some 19) (.move (.tmp 5)) none,
  .mk (some 20) (.binOp .gtr 3 (.tmp 19) (.const (.int .i64 1)) 3) none,
  .mk (some 21) (.move (.tmp 20)) none,
  .mk (some 22) (.move (.tmp 0)) (some (21, true)),
  .mk (some 23) (.move (.tmp 5)) (some (21, true)),
  .mk (some 24) (.binOp .sub 3 (.tmp 23) (.const (.int .i64 2)) 3) (some (21, true)),
  .mk (some 25) (.indexAddr 22 (.tmp 22) (.tmp 24)) (some (21, true)),
  .mk (some 26) (.load 3 (.tmp 25)) (some (21, true)),
  .mk (some 27) (.binOp .eql 3 (.tmp 26) (.const (.int .i64 13)) 3) (some (21, true)),
  .mk (some 28) (.pick (.tmp 21) (.tmp 27) (.const (.bool false))) none,
  .mk (some 29) (.move (.tmp 28)) none,
  .mk (some 30) (.move (.tmp 0)) (some (29, true)),
  .mk (some 31) (.move (.tmp 5)) (some (29, true)),
  .mk (some 32) (.binOp .sub 3 (.tmp 31) (.const (.int .i64 1)) 3) (some (29, true)),
  .mk (some 33) (.indexAddr 22 (.tmp 30) (.tmp 32)) (some (29, true)),
  .mk (some 34) (.load 3 (.tmp 33)) (some (29, true)),
  .mk (some 35) (.binOp .eql 3 (.tmp 34) (.const (.int .i64 10)) 3) (some (29, true)),
  .mk (some 36) (.pick (.tmp 29) (.tmp 35) (.const (.bool false))) none]
def r53_5 : List PS := [.mk (some 37) (.move (.tmp 5)) none,
  .mk (some 38) (.binOp .sub 3 (.tmp 37) (.const (.int .i64 2)) 3) none,
  .mk (some 4) (.assign (.tmp 38)) none]
def r53_6 : List PS := [.mk (some 39) (.move (.tmp 5)) none,
  .mk (some 40) (.binOp .sub 3 (.tmp 39) (.const (.int .i64 1)) 3) none,
  .mk (some 4) (.assign (.tmp 40)) none]
def c53 : PC := (.seq (.reg false r53_0) (.seq (.reg false r53_1) (.seq (.seq (.reg false r53_2) (.cond (.tmp 17) (.seq (.reg false r53_3) .ret) .skip)) (.seq (.seq (.reg false r53_4) (.cond (.tmp 36) (.seq (.reg false r53_5) .ret) .skip)) (.seq (.reg false r53_6) .ret)))))
theorem e53 {args : List PV} {h : Heap} {K : PV → Heap → Prop} (hl : args.length = 2) (s : pwp Try.prog [] c53 (fin Try.prog [.tmp 4] h K) (slots0 (olds args)) h) : CanP Try.prog 53 args h K :=
  can_of2 (n := 41) mixed Try.func53 rfl (by kernel_rfl) (by rw [hl]; kernel_rfl) rfl (by kernel_rfl) s
/-! ### slices.isNaN[int]: function 80 -/
def r80_0 : List PS := [.mk (some 2) (.assign (.const (.bool false))) none]
def r80_1 : List PS := [.mk (some 3) (.move (.tmp 0)) none,
  .mk (some 4) (.move (.tmp 0)) none,
  .mk (some 5) (.binOp .neq 3 (.tmp 3) (.tmp 4) 3) none,
  .mk (some 2) (.assign (.tmp 5)) none]
def c80 : PC := (.seq (.reg false r80_0) (.seq (.reg false r80_1) .ret))
theorem e80 {args : List PV} {h : Heap} {K : PV → Heap → Prop} (hl : args.length = 1) (s : pwp Try.prog [] c80 (fin Try.prog [.tmp 2] h K) (slots0 (olds args)) h) : CanP Try.prog 80 args h K :=
  can_of2 (n := 6) mixed Try.func80 rfl (by kernel_rfl) (by rw [hl]; kernel_rfl) rfl (by kernel_rfl) s
/-! ### slices.BinarySearch[[]int,int]: function 55 -/
def r55_0 : List PS := [.mk (some 4) (.assign (.const (.int .i64 0))) none,
  .mk (some 5) (.assign (.const (.bool false))) none]
def r55_1 : List PS := [.mk (some 10) (.move (.tmp 0)) none,
  .mk (some 11) (.call ⟨(.builtin .len), #[(.tmp 10)], #[22]⟩) none,
  .mk (some 6) (.assign (.tmp 11)) none]
def r55_2 : List PS := [.mk (some 12) (.move (.tmp 6)) none,
  .mk (some 7) (.assign (.const (.int .i64 0))) none,
  .mk (some 8) (.assign (.tmp 12)) none]
def r55_3 : List PS := [.mk (some 13) (.move (.tmp 7)) none,
  .mk (some 14) (.move (.tmp 8)) none,
  .mk (some 15) (.binOp .lss 3 (.tmp 13) (.tmp 14) 3) none]
def r55_4 : List PS := [.mk (some 16) (.move (.tmp 7)) none,
  .mk (some 17) (.move (.tmp 8)) none,
  .mk (some 18) (.binOp .add 3 (.tmp 16) (.tmp 17) 3) none,
  .mk (some 19) (.convert 3 67 (.tmp 18)) none,
  .mk (some 20) (.binOp .shr 67 (.tmp 19) (.const (.int .u64 1)) 67) none,
  .mk (some 21) (.convert 67 3 (.tmp 20)) none,
  .mk (some 9) (.assign (.tmp 21)) none]
def r55_5 : List PS := [.mk (some 22) (.move (.tmp 0)) none,
  .mk (some 23) (.move (.tmp 9)) none,
  .mk (some 24) (.indexAddr 22 (.tmp 22) (.tmp 23)) none,
  .mk (some 25) (.load 3 (.tmp 24)) none,
  .mk (some 26) (.move (.tmp 1)) none,
  .mk (some 27) (.call ⟨(.value (.func 73)), #[(.tmp 25), (.tmp 26)], #[3, 3]⟩) none]
def r55_6 : List PS := [.mk (some 28) (.move (.tmp 9)) none,
  .mk (some 29) (.binOp .add 3 (.tmp 28) (.const (.int .i64 1)) 3) none,
  .mk (some 7) (.assign (.tmp 29)) none]
def r55_7 : List PS := [.mk (some 30) (.move (.tmp 9)) none,
  .mk (some 8) (.assign (.tmp 30)) none]
def r55_8 : List PS := [.mk (some 31) (.move (.tmp 7)) none,
  .mk (some 32) (.move (.tmp 7)) none,
  .mk (some 33) (.move (.tmp 6)) none,
  .mk (some 34) (.binOp .lss 3 (.tmp 32) (.tmp 33) 3) none,
  .mk (some 35) (.move (.tmp 34)) none,
  .mk (some 36) (.move (.tmp 0)) (some (35, true)),
  .mk (some 37) (.move (.tmp 7)) (some (35, true)),
  .mk (some 38) (.indexAddr 22 (.tmp 36) (.tmp 37)) (some (35, true)),
  .mk (some 39) (.load 3 (.tmp 38)) (some (35, true)),
  .mk (some 40) (.move (.tmp 1)) (some (35, true)),
  .mk (some 41) (.binOp .eql 3 (.tmp 39) (.tmp 40) 3) (some (35, true)),
  .mk (some 42) (.move (.tmp 41)) (some (35, true)),
  .mk (some 43) (.move (.tmp 0)) (some (42, false)),
  .mk (some 44) (.move (.tmp 7)) (some (42, false)),
  .mk (some 45) (.indexAddr 22 (.tmp 43) (.tmp 44)) (some (42, false)),
  .mk (some 46) (.load 3 (.tmp 45)) (some (42, false)),
  .mk (some 47) (.call ⟨(.value (.func 80)), #[(.tmp 46)], #[3]⟩) (some (42, false)),
  .mk (some 48) (.move (.tmp 47)) (some (42, false)),
  .mk (some 49) (.move (.tmp 1)) (some (48, true)),
  .mk (some 50) (.call ⟨(.value (.func 80)), #[(.tmp 49)], #[3]⟩) (some (48, true)),
  .mk (some 51) (.pick (.tmp 48) (.tmp 50) (.const (.bool false))) (some (42, false)),
  .mk (some 52) (.pick (.tmp 42) (.const (.bool true)) (.tmp 51)) (some (35, true)),
  .mk (some 53) (.pick (.tmp 35) (.tmp 52) (.const (.bool false))) none,
  .mk (some 4) (.assign (.tmp 31)) none,
  .mk (some 5) (.assign (.tmp 53)) none]
def c55 : PC := (.seq (.reg false r55_0) (.seq (.reg false r55_1) (.seq (.reg false r55_2) (.seq (.block 0 (.loop (.seq (.seq (.reg false r55_3) (.cond (.tmp 15) .skip (.exit 0))) (.block 1 (.seq (.reg false r55_4) (.seq (.reg false r55_5) (.cond (.tmp 27) (.reg false r55_6) (.reg false r55_7)))))))) (.seq (.reg false r55_8) .ret)))))
theorem e55 {args : List PV} {h : Heap} {K : PV → Heap → Prop} (hl : args.length = 2) (s : pwp Try.prog [] c55 (fin Try.prog [.tmp 4, .tmp 5] h K) (slots0 (olds args)) h) : CanP Try.prog 55 args h K :=
  can_of2 (n := 54) mixed Try.func55 rfl (by kernel_rfl) (by rw [hl]; kernel_rfl) rfl (by kernel_rfl) s
/-! ### naskh.balance.evened$1: function 54 -/
def r54_0 : List PS := [.mk (some 6) (.assign (.const (.slice none 0 0))) none]
def r54_1 : List PS := [.mk (some 7) (.assign (.const (.slice none 0 0))) none]
def r54_2 : List PS := [.mk (some 11) (.move (.tmp 0)) none,
  .mk (some 8) (.assign (.tmp 11)) none]
def r54_3 : List PS := [.mk (some 12) (.move (.tmp 8)) none,
  .mk (some 13) (.move (.tmp 1)) none,
  .mk (some 14) (.binOp .lss 3 (.tmp 12) (.tmp 13) 3) none]
def r54_4 : List PS := [.mk (some 18) (.load 35 (.tmp 2)) none,
  .mk (some 19) (.nilCheck (.tmp 18)) none,
  .mk (some 20) (.fieldAddr 39 (.tmp 19) 3) none,
  .mk (some 21) (.load 22 (.tmp 20)) none,
  .mk (some 22) (.move (.tmp 8)) none,
  .mk (some 23) (.call ⟨(.value (.func 55)), #[(.tmp 21), (.tmp 22)], #[22, 3]⟩) none,
  .mk (some 17) (.move (.tmp 23)) none,
  .mk (some 24) (.extract (.tmp 17) 0) none,
  .mk (some 25) (.extract (.tmp 17) 1) none,
  .mk (some 9) (.assign (.tmp 24)) none,
  .mk (some 10) (.assign (.tmp 25)) none]
def r54_5 : List PS := [.mk (some 26) (.move (.tmp 10)) none,
  .mk (some 27) (.unOp .not 4 (.tmp 26)) none]
def r54_6 : List PS := [.mk (some 28) (.move (.tmp 7)) none,
  .mk (some 29) (.load 22 (.tmp 3)) none,
  .mk (some 30) (.move (.tmp 8)) none,
  .mk (some 31) (.indexAddr 22 (.tmp 29) (.tmp 30)) none,
  .mk (some 32) (.load 3 (.tmp 31)) none,
  .mk (some 33) (.buildSlice 22 1 #[(0, (.tmp 32))]) none,
  .mk (some 34) (.call ⟨(.builtin .append), #[(.tmp 28), (.tmp 33)], #[22, 22]⟩) none,
  .mk (some 7) (.assign (.tmp 34)) none]
def r54_7 : List PS := [.mk (some 15) (.move (.tmp 8)) none,
  .mk (some 16) (.binOp .add 3 (.tmp 15) (.const (.int .i64 1)) 3) none,
  .mk (some 8) (.assign (.tmp 16)) none]
def r54_8 : List PS := [.mk (some 35) (.move (.tmp 7)) none,
  .mk (some 6) (.assign (.tmp 35)) none]
def c54 : PC := (.seq (.reg false r54_0) (.seq (.reg false r54_1) (.seq (.seq (.reg false r54_2) (.block 0 (.loop (.seq (.seq (.reg false r54_3) (.cond (.tmp 14) .skip (.exit 0))) (.seq (.block 1 (.seq (.reg false r54_4) (.seq (.reg false r54_5) (.cond (.tmp 27) (.reg false r54_6) .skip)))) (.reg false r54_7)))))) (.seq (.reg false r54_8) .ret))))
theorem e54 {args : List PV} {h : Heap} {K : PV → Heap → Prop} (hl : args.length = 4) (s : pwp Try.prog [] c54 (fin Try.prog [.tmp 6] h K) (slots0 (olds args)) h) : CanP Try.prog 54 args h K :=
  can_of2 (n := 36) mixed Try.func54 rfl (by kernel_rfl) (by rw [hl]; kernel_rfl) rfl (by kernel_rfl) s
/-! ### naskh.balance.evened: function 32 -/
def r32_0 : List PS := [.mk (some 2) (.box 22 (.tmp 0)) none,
  .mk (some 4) (.assign (.const (.slice none 0 0))) none]
def r32_1 : List PS := [.mk (some 8) (.move (.tmp 1)) none,
  .mk (some 9) (.call ⟨(.value (.func 22)), #[(.tmp 8)], #[22]⟩) none,
  .mk (some 5) (.alloc 35) none,
  .mk none (.store 35 (.tmp 5) (.tmp 9)) none,
  .frz 5]
def r32_2 : List PS := [.mk (some 10) (.load 22 (.tmp 2)) none,
  .mk (some 11) (.move (.tmp 1)) none,
  .mk (some 12) (.call ⟨(.value (.func 53)), #[(.tmp 10), (.tmp 11)], #[22, 22]⟩) none,
  .mk (some 6) (.assign (.tmp 12)) none]
def r32_3 : List PS := [.mk (some 13) (.makeFunc (.func 54) #[] #[(.tmp 5), (.tmp 2)]) none,
  .mk (some 7) (.assign (.tmp 13)) none]
def r32_4 : List PS := [.mk (some 14) (.move (.tmp 7)) none,
  .mk (some 15) (.move (.tmp 6)) none,
  .mk (some 16) (.call ⟨(.value (.tmp 14)), #[(.const (.int .i64 0)), (.tmp 15)], #[3, 3]⟩) none,
  .mk (some 17) (.load 35 (.tmp 5)) none,
  .mk (some 18) (.call ⟨(.value (.func 27)), #[(.tmp 17)], #[35]⟩) none,
  .mk (some 19) (.move (.tmp 7)) none,
  .mk (some 20) (.move (.tmp 6)) none,
  .mk (some 21) (.load 22 (.tmp 2)) none,
  .mk (some 22) (.call ⟨(.builtin .len), #[(.tmp 21)], #[22]⟩) none,
  .mk (some 23) (.call ⟨(.value (.tmp 19)), #[(.tmp 20), (.tmp 22)], #[3, 3]⟩) none,
  .mk (some 24) (.buildSlice 63 3 #[(0, (.tmp 16)), (1, (.tmp 18)), (2, (.tmp 23))]) none,
  .mk (some 25) (.call ⟨(.value (.func 23)), #[(.tmp 24)], #[63]⟩) none,
  .mk (some 4) (.assign (.tmp 25)) none]
def c32 : PC := (.seq (.reg false r32_0) (.seq (.reg false r32_1) (.seq (.reg false r32_2) (.seq (.reg false r32_3) (.seq (.reg true r32_4) .ret)))))
theorem e32 {args : List PV} {h : Heap} {K : PV → Heap → Prop} (hl : args.length = 2) (s : pwp Try.prog [5] c32 (fin Try.prog [.tmp 4] h K) (slots0 (olds args)) h) : CanP Try.prog 32 args h K :=
  can_of2 (n := 26) mixed Try.func32 rfl (by kernel_rfl) (by rw [hl]; kernel_rfl) rfl (by kernel_rfl) s
/-! ### naskh.balance.Even: function 16 -/
def r16_0 : List PS := [.mk (some 4) (.assign (.const (.slice none 0 0))) none]
def r16_1 : List PS := [.mk (some 5) (.assign (.const (.slice none 0 0))) none]
def r16_2 : List PS := [.mk (some 9) (.move (.tmp 0)) none,
  .mk (some 10) (.move (.tmp 1)) none,
  .mk (some 11) (.call ⟨(.value (.func 20)), #[(.tmp 9), (.tmp 10)], #[27, 22]⟩) none,
  .mk (some 12) (.call ⟨(.builtin .len), #[(.tmp 11)], #[31]⟩) none,
  .mk (some 13) (.move (.const (.int .i64 0))) none]
def r16_3 : List PS := [.mk (some 14) (.binOp .lss 3 (.tmp 13) (.tmp 12) 3) none]
def r16_4 : List PS := [.mk (some 15) (.indexAddr 31 (.tmp 11) (.tmp 13)) none,
  .mk (some 16) (.load 34 (.tmp 15)) none,
  .mk (some 7) (.alloc 34) none,
  .mk none (.store 34 (.tmp 7) (.tmp 16)) none,
  .frz 7]
def r16_5 : List PS := [.mk (some 17) (.move (.tmp 1)) none,
  .mk (some 18) (.fieldAddr 34 (.tmp 7) 0) none,
  .mk (some 19) (.load 3 (.tmp 18)) none,
  .mk (some 20) (.fieldAddr 34 (.tmp 7) 1) none,
  .mk (some 21) (.load 3 (.tmp 20)) none,
  .mk (some 22) (.slice 22 (.tmp 17) (some (.tmp 19)) (some (.tmp 21)) none) none,
  .mk (some 8) (.assign (.tmp 22)) none]
def r16_6 : List PS := [.mk (some 23) (.move (.tmp 5)) none,
  .mk (some 24) (.move (.tmp 8)) none,
  .mk (some 25) (.move (.tmp 0)) none,
  .mk (some 26) (.move (.tmp 8)) none,
  .mk (some 27) (.call ⟨(.value (.func 33)), #[(.tmp 25), (.tmp 26)], #[27, 22]⟩) none,
  .mk (some 28) (.call ⟨(.value (.func 32)), #[(.tmp 24), (.tmp 27)], #[22, 22]⟩) none,
  .mk (some 29) (.call ⟨(.builtin .append), #[(.tmp 23), (.tmp 28)], #[22, 22]⟩) none,
  .mk (some 5) (.assign (.tmp 29)) none]
def r16_7 : List PS := [.mk (some 30) (.binOp .add 3 (.tmp 13) (.const (.int .i64 1)) 3) none,
  .mk (some 13) (.move (.tmp 30)) none]
def r16_8 : List PS := [.mk (some 31) (.move (.tmp 5)) none,
  .mk (some 4) (.assign (.tmp 31)) none]
def c16 : PC := (.seq (.reg false r16_0) (.seq (.reg false r16_1) (.seq (.seq (.reg false r16_2) (.block 0 (.loop (.seq (.reg false r16_3) (.seq (.cond (.tmp 14) .skip (.exit 0)) (.seq (.block 1 (.seq (.reg false r16_4) (.seq (.reg false r16_5) (.reg false r16_6)))) (.reg false r16_7))))))) (.seq (.reg false r16_8) .ret))))
theorem e16 {args : List PV} {h : Heap} {K : PV → Heap → Prop} (hl : args.length = 2) (s : pwp Try.prog [7] c16 (fin Try.prog [.tmp 4] h K) (slots0 (olds args)) h) : CanP Try.prog 16 args h K :=
  can_of2 (n := 32) mixed Try.func16 rfl (by kernel_rfl) (by rw [hl]; kernel_rfl) rfl (by kernel_rfl) s
/-! ### naskh.naskhref06.Get: function 61 -/
def r61_0 : List PS := [.mk (some 6) (.assign (.const (.int .i64 0))) none]
def r61_1 : List PS := [.mk (some 7) (.assign (.const (.int .i64 0))) none]
def r61_2 : List PS := [.mk (some 8) (.move (.tmp 7)) none,
  .mk (some 9) (.move (.tmp 0)) none,
  .mk (some 10) (.call ⟨(.builtin .len), #[(.tmp 9)], #[49]⟩) none,
  .mk (some 11) (.binOp .lss 3 (.tmp 8) (.tmp 10) 3) none]
def r61_3 : List PS := [.mk (some 14) (.move (.tmp 2)) none,
  .mk (some 15) (.move (.tmp 0)) none,
  .mk (some 16) (.move (.tmp 7)) none,
  .mk (some 17) (.indexAddr 49 (.tmp 15) (.tmp 16)) none,
  .mk (some 18) (.fieldAddr 83 (.tmp 17) 0) none,
  .mk (some 19) (.load 3 (.tmp 18)) none,
  .mk (some 20) (.binOp .geq 3 (.tmp 14) (.tmp 19) 3) none,
  .mk (some 21) (.move (.tmp 20)) none,
  .mk (some 22) (.move (.tmp 2)) (some (21, true)),
  .mk (some 23) (.move (.tmp 0)) (some (21, true)),
  .mk (some 24) (.move (.tmp 7)) (some (21, true)),
  .mk (some 25) (.indexAddr 49 (.tmp 23) (.tmp 24)) (some (21, true)),
  .mk (some 26) (.fieldAddr 83 (.tmp 25) 1) (some (21, true)),
  .mk (some 27) (.load 3 (.tmp 26)) (some (21, true)),
  .mk (some 28) (.binOp .leq 3 (.tmp 22) (.tmp 27) 3) (some (21, true)),
  .mk (some 29) (.pick (.tmp 21) (.tmp 28) (.const (.bool false))) none]
def r61_4 : List PS := [.mk (some 30) (.move (.tmp 0)) none,
  .mk (some 31) (.move (.tmp 7)) none,
  .mk (some 32) (.indexAddr 49 (.tmp 30) (.tmp 31)) none,
  .mk (some 33) (.fieldAddr 83 (.tmp 32) 2) none,
  .mk (some 34) (.load 3 (.tmp 33)) none,
  .mk (some 6) (.assign (.tmp 34)) none]
def r61_5 : List PS := [.mk (some 12) (.move (.tmp 7)) none,
  .mk (some 13) (.binOp .add 3 (.tmp 12) (.const (.int .i64 1)) 3) none,
  .mk (some 7) (.assign (.tmp 13)) none]
def r61_6 : List PS := [.mk (some 35) (.move (.tmp 1)) none,
  .mk (some 6) (.assign (.tmp 35)) none]
def c61 : PC := (.seq (.reg false r61_0) (.seq (.seq (.reg false r61_1) (.block 0 (.loop (.seq (.seq (.reg false r61_2) (.cond (.tmp 11) .skip (.exit 0))) (.seq (.block 1 (.seq (.reg false r61_3) (.cond (.tmp 29) (.seq (.reg false r61_4) .ret) .skip))) (.reg false r61_5)))))) (.seq (.reg false r61_6) .ret)))
theorem e61 {args : List PV} {h : Heap} {K : PV → Heap → Prop} (hl : args.length = 3) (s : pwp Try.prog [] c61 (fin Try.prog [.tmp 6] h K) (slots0 (olds args)) h) : CanP Try.prog 61 args h K :=
  can_of2 (n := 36) mixed Try.func61 rfl (by kernel_rfl) (by rw [hl]; kernel_rfl) rfl (by kernel_rfl) s
/-! ### naskh.naskhref07.Class: function 40 -/
def r40_0 : List PS := [.mk (some 2) (.assign (.const (.int .i64 0))) none]
def r40_1 : List PS := [.mk (some 3) (.move (.tmp 0)) none,
  .mk (some 4) (.binOp .lss 3 (.tmp 3) (.const (.int .i64 0)) 3) none,
  .mk (some 5) (.move (.tmp 4)) none,
  .mk (some 6) (.move (.tmp 0)) (some (5, false)),
  .mk (some 7) (.binOp .gtr 3 (.tmp 6) (.const (.int .i64 1114111)) 3) (some (5, false)),
  .mk (some 8) (.pick (.tmp 5) (.const (.bool true)) (.tmp 7)) none]
def r40_2 : List PS := [.mk (some 2) (.assign (.const (.int .i64 13))) none]
def r40_3 : List PS := [.mk (some 9) (.call ⟨(.value (.func 30)), #[], #[]⟩) none,
  .mk (some 10) (.move (.tmp 0)) none,
  .mk (some 11) (.call ⟨(.value (.func 61)), #[(.tmp 9), (.const (.int .i64 0)), (.tmp 10)], #[49, 3, 3]⟩) none,
  .mk (some 2) (.assign (.tmp 11)) none]
def c40 : PC := (.seq (.reg false r40_0) (.seq (.seq (.reg false r40_1) (.cond (.tmp 8) (.seq (.reg false r40_2) .ret) .skip)) (.seq (.reg false r40_3) .ret)))
theorem e40 {args : List PV} {h : Heap} {K : PV → Heap → Prop} (hl : args.length = 1) (s : pwp Try.prog [] c40 (fin Try.prog [.tmp 2] h K) (slots0 (olds args)) h) : CanP Try.prog 40 args h K :=
  can_of2 (n := 12) mixed Try.func40 rfl (by kernel_rfl) (by rw [hl]; kernel_rfl) rfl (by kernel_rfl) s
/-! ### naskh.naskhref07.Classes: function 21 -/
def r21_0 : List PS := [.mk (some 2) (.assign (.const (.slice none 0 0))) none]
def r21_1 : List PS := [.mk (some 3) (.assign (.const (.slice none 0 0))) none]
def r21_2 : List PS := [.mk (some 4) (.assign (.const (.int .i64 0))) none]
def r21_3 : List PS := [.mk (some 5) (.move (.tmp 4)) none,
  .mk (some 6) (.move (.tmp 0)) none,
  .mk (some 7) (.call ⟨(.builtin .len), #[(.tmp 6)], #[22]⟩) none,
  .mk (some 8) (.binOp .lss 3 (.tmp 5) (.tmp 7) 3) none]
def r21_4 : List PS := [.mk (some 11) (.move (.tmp 3)) none,
  .mk (some 12) (.move (.tmp 0)) none,
  .mk (some 13) (.move (.tmp 4)) none,
  .mk (some 14) (.indexAddr 22 (.tmp 12) (.tmp 13)) none,
  .mk (some 15) (.load 3 (.tmp 14)) none,
  .mk (some 16) (.call ⟨(.value (.func 40)), #[(.tmp 15)], #[3]⟩) none,
  .mk (some 17) (.buildSlice 22 1 #[(0, (.tmp 16))]) none,
  .mk (some 18) (.call ⟨(.builtin .append), #[(.tmp 11), (.tmp 17)], #[22, 22]⟩) none,
  .mk (some 3) (.assign (.tmp 18)) none]
def r21_5 : List PS := [.mk (some 9) (.move (.tmp 4)) none,
  .mk (some 10) (.binOp .add 3 (.tmp 9) (.const (.int .i64 1)) 3) none,
  .mk (some 4) (.assign (.tmp 10)) none]
def r21_6 : List PS := [.mk (some 19) (.move (.tmp 3)) none,
  .mk (some 2) (.assign (.tmp 19)) none]
def c21 : PC := (.seq (.reg false r21_0) (.seq (.reg false r21_1) (.seq (.seq (.reg false r21_2) (.block 0 (.loop (.seq (.seq (.reg false r21_3) (.cond (.tmp 8) .skip (.exit 0))) (.seq (.block 1 (.reg false r21_4)) (.reg false r21_5)))))) (.seq (.reg false r21_6) .ret))))
theorem e21 {args : List PV} {h : Heap} {K : PV → Heap → Prop} (hl : args.length = 1) (s : pwp Try.prog [] c21 (fin Try.prog [.tmp 2] h K) (slots0 (olds args)) h) : CanP Try.prog 21 args h K :=
  can_of2 (n := 20) mixed Try.func21 rfl (by kernel_rfl) (by rw [hl]; kernel_rfl) rfl (by kernel_rfl) s
/-! ### naskh.naskhref20.Split: function 34 -/
def r34_0 : List PS := [.mk (some 2) (.assign (.const (.slice none 0 0))) none]
def r34_1 : List PS := [.mk (some 3) (.assign (.const (.slice none 0 0))) none]
def r34_2 : List PS := [.mk (some 4) (.assign (.const (.int .i64 0))) none]
def r34_3 : List PS := [.mk (some 5) (.assign (.const (.int .i64 0))) none]
def r34_4 : List PS := [.mk (some 7) (.move (.tmp 5)) none,
  .mk (some 8) (.move (.tmp 0)) none,
  .mk (some 9) (.call ⟨(.builtin .len), #[(.tmp 8)], #[22]⟩) none,
  .mk (some 10) (.binOp .lss 3 (.tmp 7) (.tmp 9) 3) none]
def r34_5 : List PS := [.mk (some 13) (.move (.tmp 0)) none,
  .mk (some 14) (.move (.tmp 5)) none,
  .mk (some 15) (.indexAddr 22 (.tmp 13) (.tmp 14)) none,
  .mk (some 16) (.load 3 (.tmp 15)) none,
  .mk (some 17) (.binOp .eql 3 (.tmp 16) (.const (.int .i64 13)) 3) none,
  .mk (some 18) (.move (.tmp 17)) none,
  .mk (some 19) (.move (.tmp 5)) (some (18, true)),
  .mk (some 20) (.binOp .add 3 (.tmp 19) (.const (.int .i64 1)) 3) (some (18, true)),
  .mk (some 21) (.move (.tmp 0)) (some (18, true)),
  .mk (some 22) (.call ⟨(.builtin .len), #[(.tmp 21)], #[22]⟩) (some (18, true)),
  .mk (some 23) (.binOp .lss 3 (.tmp 20) (.tmp 22) 3) (some (18, true)),
  .mk (some 24) (.pick (.tmp 18) (.tmp 23) (.const (.bool false))) none,
  .mk (some 25) (.move (.tmp 24)) none,
  .mk (some 26) (.move (.tmp 0)) (some (25, true)),
  .mk (some 27) (.move (.tmp 5)) (some (25, true)),
  .mk (some 28) (.binOp .add 3 (.tmp 27) (.const (.int .i64 1)) 3) (some (25, true)),
  .mk (some 29) (.indexAddr 22 (.tmp 26) (.tmp 28)) (some (25, true)),
  .mk (some 30) (.load 3 (.tmp 29)) (some (25, true)),
  .mk (some 31) (.binOp .eql 3 (.tmp 30) (.const (.int .i64 10)) 3) (some (25, true)),
  .mk (some 32) (.pick (.tmp 25) (.tmp 31) (.const (.bool false))) none,
  .mk (some 6) (.assign (.tmp 32)) none]
def r34_6 : List PS := [.mk (some 33) (.move (.tmp 0)) none,
  .mk (some 34) (.move (.tmp 5)) none,
  .mk (some 35) (.indexAddr 22 (.tmp 33) (.tmp 34)) none,
  .mk (some 36) (.load 3 (.tmp 35)) none,
  .mk (some 37) (.call ⟨(.value (.func 40)), #[(.tmp 36)], #[3]⟩) none,
  .mk (some 38) (.binOp .eql 3 (.tmp 37) (.const (.int .i64 10)) 3) none,
  .mk (some 39) (.move (.tmp 38)) none,
  .mk (some 40) (.move (.tmp 6)) (some (39, true)),
  .mk (some 41) (.unOp .not 4 (.tmp 40)) (some (39, true)),
  .mk (some 42) (.pick (.tmp 39) (.tmp 41) (.const (.bool false))) none,
  .mk (some 43) (.move (.tmp 42)) none,
  .mk (some 44) (.move (.tmp 5)) (some (43, false)),
  .mk (some 45) (.binOp .add 3 (.tmp 44) (.const (.int .i64 1)) 3) (some (43, false)),
  .mk (some 46) (.move (.tmp 0)) (some (43, false)),
  .mk (some 47) (.call ⟨(.builtin .len), #[(.tmp 46)], #[22]⟩) (some (43, false)),
  .mk (some 48) (.binOp .eql 3 (.tmp 45) (.tmp 47) 3) (some (43, false)),
  .mk (some 49) (.pick (.tmp 43) (.const (.bool true)) (.tmp 48)) none]
def r34_7 : List PS := [.mk (some 50) (.move (.tmp 3)) none,
  .mk (some 51) (.move (.tmp 4)) none,
  .mk (some 52) (.move (.tmp 5)) none,
  .mk (some 53) (.binOp .add 3 (.tmp 52) (.const (.int .i64 1)) 3) none,
  .mk (some 54) (.build 34 #[(0, (.tmp 51)), (1, (.tmp 53))]) none,
  .mk (some 55) (.buildSlice 31 1 #[(0, (.tmp 54))]) none,
  .mk (some 56) (.call ⟨(.builtin .append), #[(.tmp 50), (.tmp 55)], #[31, 31]⟩) none,
  .mk (some 3) (.assign (.tmp 56)) none]
def r34_8 : List PS := [.mk (some 57) (.move (.tmp 5)) none,
  .mk (some 58) (.binOp .add 3 (.tmp 57) (.const (.int .i64 1)) 3) none,
  .mk (some 4) (.assign (.tmp 58)) none]
def r34_9 : List PS := [.mk (some 11) (.move (.tmp 5)) none,
  .mk (some 12) (.binOp .add 3 (.tmp 11) (.const (.int .i64 1)) 3) none,
  .mk (some 5) (.assign (.tmp 12)) none]
def r34_10 : List PS := [.mk (some 59) (.move (.tmp 3)) none,
  .mk (some 2) (.assign (.tmp 59)) none]
def c34 : PC := (.seq (.reg false r34_0) (.seq (.reg false r34_1) (.seq (.reg false r34_2) (.seq (.seq (.reg false r34_3) (.block 0 (.loop (.seq (.seq (.reg false r34_4) (.cond (.tmp 10) .skip (.exit 0))) (.seq (.block 1 (.seq (.reg false r34_5) (.seq (.reg false r34_6) (.cond (.tmp 49) (.seq (.reg false r34_7) (.reg false r34_8)) .skip)))) (.reg false r34_9)))))) (.seq (.reg false r34_10) .ret)))))
theorem e34 {args : List PV} {h : Heap} {K : PV → Heap → Prop} (hl : args.length = 1) (s : pwp Try.prog [] c34 (fin Try.prog [.tmp 2] h K) (slots0 (olds args)) h) : CanP Try.prog 34 args h K :=
  can_of2 (n := 60) mixed Try.func34 rfl (by kernel_rfl) (by rw [hl]; kernel_rfl) rfl (by kernel_rfl) s
/-! ### naskh.naskhref47.body: function 35 -/
def r35_0 : List PS := [.mk (some 2) (.assign (.const (.int .i64 0))) none]
def r35_1 : List PS := [.mk (some 4) (.move (.tmp 0)) none,
  .mk (some 5) (.call ⟨(.builtin .len), #[(.tmp 4)], #[22]⟩) none,
  .mk (some 3) (.assign (.tmp 5)) none]
def r35_2 : List PS := [.mk (some 6) (.move (.tmp 3)) none,
  .mk (some 7) (.binOp .gtr 3 (.tmp 6) (.const (.int .i64 0)) 3) none,
  .mk (some 8) (.move (.tmp 7)) none,
  .mk (some 9) (.move (.tmp 0)) (some (8, true)),
  .mk (some 10) (.move (.tmp 3)) (some (8, true)),
  .mk (some 11) (.binOp .sub 3 (.tmp 10) (.const (.int .i64 1)) 3) (some (8, true)),
  .mk (some 12) (.indexAddr 22 (.tmp 9) (.tmp 11)) (some (8, true)),
  .mk (some 13) (.load 3 (.tmp 12)) (some (8, true)),
  .mk (some 14) (.call ⟨(.value (.func 40)), #[(.tmp 13)], #[3]⟩) (some (8, true)),
  .mk (some 15) (.binOp .eql 3 (.tmp 14) (.const (.int .i64 10)) 3) (some (8, true)),
  .mk (some 16) (.pick (.tmp 8) (.tmp 15) (.const (.bool false))) none]
def r35_3 : List PS := [.mk (some 17) (.move (.tmp 3)) none,
  .mk (some 18) (.binOp .sub 3 (.tmp 17) (.const (.int .i64 1)) 3) none,
  .mk (some 3) (.assign (.tmp 18)) none]
def r35_4 : List PS := [.mk (some 19) (.move (.tmp 3)) none,
  .mk (some 20) (.binOp .gtr 3 (.tmp 19) (.const (.int .i64 0)) 3) none,
  .mk (some 21) (.move (.tmp 20)) none,
  .mk (some 22) (.move (.tmp 0)) (some (21, true)),
  .mk (some 23) (.move (.tmp 3)) (some (21, true)),
  .mk (some 24) (.indexAddr 22 (.tmp 22) (.tmp 23)) (some (21, true)),
  .mk (some 25) (.load 3 (.tmp 24)) (some (21, true)),
  .mk (some 26) (.binOp .eql 3 (.tmp 25) (.const (.int .i64 10)) 3) (some (21, true)),
  .mk (some 27) (.pick (.tmp 21) (.tmp 26) (.const (.bool false))) none,
  .mk (some 28) (.move (.tmp 27)) none,
  .mk (some 29) (.move (.tmp 0)) (some (28, true)),
  .mk (some 30) (.move (.tmp 3)) (some (28, true)),
  .mk (some 31) (.binOp .sub 3 (.tmp 30) (.const (.int .i64 1)) 3) (some (28, true)),
  .mk (some 32) (.indexAddr 22 (.tmp 29) (.tmp 31)) (some (28, true)),
  .mk (some 33) (.load 3 (.tmp 32)) (some (28, true)),
  .mk (some 34) (.binOp .eql 3 (.tmp 33) (.const (.int .i64 13)) 3) (some (28, true)),
  .mk (some 35) (.pick (.tmp 28) (.tmp 34) (.const (.bool false))) none]
def r35_5 : List PS := [.mk (some 36) (.move (.tmp 3)) none,
  .mk (some 37) (.binOp .sub 3 (.tmp 36) (.const (.int .i64 1)) 3) none,
  .mk (some 3) (.assign (.tmp 37)) none]
def r35_6 : List PS := [.mk (some 38) (.move (.tmp 3)) none,
  .mk (some 2) (.assign (.tmp 38)) none]
def c35 : PC := (.seq (.reg false r35_0) (.seq (.reg false r35_1) (.seq (.seq (.reg false r35_2) (.cond (.tmp 16) (.seq (.reg false r35_3) (.seq (.reg false r35_4) (.cond (.tmp 35) (.reg false r35_5) .skip))) .skip)) (.seq (.reg false r35_6) .ret))))
theorem e35 {args : List PV} {h : Heap} {K : PV → Heap → Prop} (hl : args.length = 1) (s : pwp Try.prog [] c35 (fin Try.prog [.tmp 2] h K) (slots0 (olds args)) h) : CanP Try.prog 35 args h K :=
  can_of2 (n := 39) mixed Try.func35 rfl (by kernel_rfl) (by rw [hl]; kernel_rfl) rfl (by kernel_rfl) s
/-! ### naskh.naskhref47.has: function 36 -/
def r36_0 : List PS := [.mk (some 4) (.assign (.const (.bool false))) none]
def r36_1 : List PS := [.mk (some 5) (.assign (.const (.int .i64 0))) none]
def r36_2 : List PS := [.mk (some 6) (.move (.tmp 5)) none,
  .mk (some 7) (.move (.tmp 0)) none,
  .mk (some 8) (.call ⟨(.builtin .len), #[(.tmp 7)], #[22]⟩) none,
  .mk (some 9) (.binOp .lss 3 (.tmp 6) (.tmp 8) 3) none]
def r36_3 : List PS := [.mk (some 12) (.move (.tmp 0)) none,
  .mk (some 13) (.move (.tmp 5)) none,
  .mk (some 14) (.indexAddr 22 (.tmp 12) (.tmp 13)) none,
  .mk (some 15) (.load 3 (.tmp 14)) none,
  .mk (some 16) (.move (.tmp 1)) none,
  .mk (some 17) (.binOp .eql 3 (.tmp 15) (.tmp 16) 3) none]
def r36_4 : List PS := [.mk (some 4) (.assign (.const (.bool true))) none]
def r36_5 : List PS := [.mk (some 10) (.move (.tmp 5)) none,
  .mk (some 11) (.binOp .add 3 (.tmp 10) (.const (.int .i64 1)) 3) none,
  .mk (some 5) (.assign (.tmp 11)) none]
def r36_6 : List PS := [.mk (some 4) (.assign (.const (.bool false))) none]
def c36 : PC := (.seq (.reg false r36_0) (.seq (.seq (.reg false r36_1) (.block 0 (.loop (.seq (.seq (.reg false r36_2) (.cond (.tmp 9) .skip (.exit 0))) (.seq (.block 1 (.seq (.reg false r36_3) (.cond (.tmp 17) (.seq (.reg false r36_4) .ret) .skip))) (.reg false r36_5)))))) (.seq (.reg false r36_6) .ret)))
theorem e36 {args : List PV} {h : Heap} {K : PV → Heap → Prop} (hl : args.length = 2) (s : pwp Try.prog [] c36 (fin Try.prog [.tmp 4] h K) (slots0 (olds args)) h) : CanP Try.prog 36 args h K :=
  can_of2 (n := 18) mixed Try.func36 rfl (by kernel_rfl) (by rw [hl]; kernel_rfl) rfl (by kernel_rfl) s
/-! ### naskh.naskhref47.Even: function 17 -/
def r17_0 : List PS := [.mk (some 2) (.assign (.const (.slice none 0 0))) none]
def r17_1 : List PS := [.mk (some 3) (.assign (.const (.slice none 0 0))) none]
def r17_2 : List PS := [.mk (some 11) (.move (.tmp 0)) none,
  .mk (some 12) (.call ⟨(.value (.func 34)), #[(.tmp 11)], #[22]⟩) none,
  .mk (some 4) (.assign (.tmp 12)) none]
def r17_3 : List PS := [.mk (some 5) (.assign (.const (.int .i64 0))) none]
def r17_4 : List PS := [.mk (some 13) (.move (.tmp 5)) none,
  .mk (some 14) (.move (.tmp 4)) none,
  .mk (some 15) (.call ⟨(.builtin .len), #[(.tmp 14)], #[31]⟩) none,
  .mk (some 16) (.binOp .lss 3 (.tmp 13) (.tmp 15) 3) none]
def r17_5 : List PS := [.mk (some 19) (.move (.tmp 0)) none,
  .mk (some 20) (.move (.tmp 4)) none,
  .mk (some 21) (.move (.tmp 5)) none,
  .mk (some 22) (.indexAddr 31 (.tmp 20) (.tmp 21)) none,
  .mk (some 23) (.fieldAddr 34 (.tmp 22) 0) none,
  .mk (some 24) (.load 3 (.tmp 23)) none,
  .mk (some 25) (.move (.tmp 4)) none,
  .mk (some 26) (.move (.tmp 5)) none,
  .mk (some 27) (.indexAddr 31 (.tmp 25) (.tmp 26)) none,
  .mk (some 28) (.fieldAddr 34 (.tmp 27) 1) none,
  .mk (some 29) (.load 3 (.tmp 28)) none,
  .mk (some 30) (.slice 22 (.tmp 19) (some (.tmp 24)) (some (.tmp 29)) none) none,
  .mk (some 6) (.assign (.tmp 30)) none]
def r17_6 : List PS := [.mk (some 31) (.move (.tmp 6)) none,
  .mk (some 32) (.call ⟨(.value (.func 21)), #[(.tmp 31)], #[22]⟩) none,
  .mk (some 7) (.assign (.tmp 32)) none]
def r17_7 : List PS := [.mk (some 33) (.move (.tmp 7)) none,
  .mk (some 34) (.call ⟨(.value (.func 12)), #[(.tmp 33)], #[22]⟩) none,
  .mk (some 35) (.move (.tmp 6)) none,
  .mk (some 36) (.call ⟨(.value (.func 35)), #[(.tmp 35)], #[22]⟩) none,
  .mk (some 8) (.assign (.tmp 34)) none,
  .mk (some 9) (.assign (.tmp 36)) none]
def r17_8 : List PS := [.mk (some 10) (.assign (.const (.int .i64 0))) none]
def r17_9 : List PS := [.mk (some 37) (.move (.tmp 10)) none,
  .mk (some 38) (.move (.tmp 6)) none,
  .mk (some 39) (.call ⟨(.builtin .len), #[(.tmp 38)], #[22]⟩) none,
  .mk (some 40) (.binOp .lss 3 (.tmp 37) (.tmp 39) 3) none]
def r17_10 : List PS := [.mk (some 43) (.move (.tmp 10)) none,
  .mk (some 44) (.move (.tmp 9)) none,
  .mk (some 45) (.binOp .eql 3 (.tmp 43) (.tmp 44) 3) none]
def r17_11 : List PS := [.mk (some 46) (.move (.tmp 3)) none,
  .mk (some 47) (.move (.tmp 7)) none,
  .mk (some 48) (.call ⟨(.value (.func 14)), #[(.tmp 47)], #[22]⟩) none,
  .mk (some 49) (.call ⟨(.builtin .append), #[(.tmp 46), (.tmp 48)], #[22, 22]⟩) none,
  .mk (some 3) (.assign (.tmp 49)) none]
def r17_12 : List PS := [.mk (some 50) (.move (.tmp 8)) none,
  .mk (some 51) (.move (.tmp 10)) none,
  .mk (some 52) (.call ⟨(.value (.func 36)), #[(.tmp 50), (.tmp 51)], #[22, 3]⟩) none,
  .mk (some 53) (.unOp .not 4 (.tmp 52)) none]
def r17_13 : List PS := [.mk (some 54) (.move (.tmp 3)) none,
  .mk (some 55) (.move (.tmp 6)) none,
  .mk (some 56) (.move (.tmp 10)) none,
  .mk (some 57) (.indexAddr 22 (.tmp 55) (.tmp 56)) none,
  .mk (some 58) (.load 3 (.tmp 57)) none,
  .mk (some 59) (.buildSlice 22 1 #[(0, (.tmp 58))]) none,
  .mk (some 60) (.call ⟨(.builtin .append), #[(.tmp 54), (.tmp 59)], #[22, 22]⟩) none,
  .mk (some 3) (.assign (.tmp 60)) none]
def r17_14 : List PS := [.mk (some 41) (.move (.tmp 10)) none,
  .mk (some 42) (.binOp .add 3 (.tmp 41) (.const (.int .i64 1)) 3) none,
  .mk (some 10) (.assign (.tmp 42)) none]
def r17_15 : List PS := [.mk (some 61) (.move (.tmp 9)) none,
  .mk (some 62) (.move (.tmp 6)) none,
  .mk (some 63) (.call ⟨(.builtin .len), #[(.tmp 62)], #[22]⟩) none,
  .mk (some 64) (.binOp .eql 3 (.tmp 61) (.tmp 63) 3) none]
def r17_16 : List PS := [.mk (some 65) (.move (.tmp 3)) none,
  .mk (some 66) (.move (.tmp 7)) none,
  .mk (some 67) (.call ⟨(.value (.func 14)), #[(.tmp 66)], #[22]⟩) none,
  .mk (some 68) (.call ⟨(.builtin .append), #[(.tmp 65), (.tmp 67)], #[22, 22]⟩) none,
  .mk (some 3) (.assign (.tmp 68)) none]
def r17_17 : List PS := [.mk (some 17) (.move (.tmp 5)) none,
  .mk (some 18) (.binOp .add 3 (.tmp 17) (.const (.int .i64 1)) 3) none,
  .mk (some 5) (.assign (.tmp 18)) none]
def r17_18 : List PS := [.mk (some 69) (.move (.tmp 3)) none,
  .mk (some 2) (.assign (.tmp 69)) none]
def c17 : PC := (.seq (.reg false r17_0) (.seq (.reg false r17_1) (.seq (.reg false r17_2) (.seq (.seq (.reg false r17_3) (.block 0 (.loop (.seq (.seq (.reg false r17_4) (.cond (.tmp 16) .skip (.exit 0))) (.seq (.block 1 (.seq (.reg true r17_5) (.seq (.reg false r17_6) (.seq (.reg false r17_7) (.seq (.seq (.reg false r17_8) (.block 2 (.loop (.seq (.seq (.reg false r17_9) (.cond (.tmp 40) .skip (.exit 2))) (.seq (.block 3 (.seq (.seq (.reg false r17_10) (.cond (.tmp 45) (.reg false r17_11) .skip)) (.seq (.reg false r17_12) (.cond (.tmp 53) (.reg false r17_13) .skip)))) (.reg false r17_14)))))) (.seq (.reg false r17_15) (.cond (.tmp 64) (.reg false r17_16) .skip))))))) (.reg false r17_17)))))) (.seq (.reg false r17_18) .ret)))))
theorem e17 {args : List PV} {h : Heap} {K : PV → Heap → Prop} (hl : args.length = 1) (s : pwp Try.prog [] c17 (fin Try.prog [.tmp 2] h K) (slots0 (olds args)) h) : CanP Try.prog 17 args h K :=
  can_of2 (n := 70) mixed Try.func17 rfl (by kernel_rfl) (by rw [hl]; kernel_rfl) rfl (by kernel_rfl) s
/-! ### naskh.naskhref47.Level: function 19 -/
def r19_0 : List PS := [.mk (some 2) (.assign (.const (.bool false))) none]
def r19_1 : List PS := [.mk (some 6) (.move (.tmp 0)) none,
  .mk (some 7) (.call ⟨(.value (.func 34)), #[(.tmp 6)], #[22]⟩) none,
  .mk (some 3) (.assign (.tmp 7)) none]
def r19_2 : List PS := [.mk (some 4) (.assign (.const (.int .i64 0))) none]
def r19_3 : List PS := [.mk (some 8) (.move (.tmp 4)) none,
  .mk (some 9) (.move (.tmp 3)) none,
  .mk (some 10) (.call ⟨(.builtin .len), #[(.tmp 9)], #[31]⟩) none,
  .mk (some 11) (.binOp .lss 3 (.tmp 8) (.tmp 10) 3) none]
def r19_4 : List PS := [.mk (some 14) (.move (.tmp 0)) none,
  .mk (some 15) (.move (.tmp 3)) none,
  .mk (some 16) (.move (.tmp 4)) none,
  .mk (some 17) (.indexAddr 31 (.tmp 15) (.tmp 16)) none,
  .mk (some 18) (.fieldAddr 34 (.tmp 17) 0) none,
  .mk (some 19) (.load 3 (.tmp 18)) none,
  .mk (some 20) (.move (.tmp 3)) none,
  .mk (some 21) (.move (.tmp 4)) none,
  .mk (some 22) (.indexAddr 31 (.tmp 20) (.tmp 21)) none,
  .mk (some 23) (.fieldAddr 34 (.tmp 22) 1) none,
  .mk (some 24) (.load 3 (.tmp 23)) none,
  .mk (some 25) (.slice 22 (.tmp 14) (some (.tmp 19)) (some (.tmp 24)) none) none,
  .mk (some 26) (.call ⟨(.value (.func 21)), #[(.tmp 25)], #[22]⟩) none,
  .mk (some 5) (.assign (.tmp 26)) none]
def r19_5 : List PS := [.mk (some 27) (.move (.tmp 5)) none,
  .mk (some 28) (.call ⟨(.value (.func 10)), #[(.tmp 27)], #[22]⟩) none,
  .mk (some 29) (.call ⟨(.builtin .len), #[(.tmp 28)], #[22]⟩) none,
  .mk (some 30) (.binOp .gtr 3 (.tmp 29) (.const (.int .i64 0)) 3) none,
  .mk (some 31) (.move (.tmp 30)) none,
  .mk (some 32) (.move (.tmp 5)) (some (31, false)),
  .mk (some 33) (.call ⟨(.value (.func 12)), #[(.tmp 32)], #[22]⟩) (some (31, false)),
  .mk (some 34) (.call ⟨(.builtin .len), #[(.tmp 33)], #[22]⟩) (some (31, false)),
  .mk (some 35) (.binOp .gtr 3 (.tmp 34) (.const (.int .i64 0)) 3) (some (31, false)),
  .mk (some 36) (.pick (.tmp 31) (.const (.bool true)) (.tmp 35)) none]
def r19_6 : List PS := [.mk (some 2) (.assign (.const (.bool false))) none]
def r19_7 : List PS := [.mk (some 12) (.move (.tmp 4)) none,
  .mk (some 13) (.binOp .add 3 (.tmp 12) (.const (.int .i64 1)) 3) none,
  .mk (some 4) (.assign (.tmp 13)) none]
def r19_8 : List PS := [.mk (some 2) (.assign (.const (.bool true))) none]
def c19 : PC := (.seq (.reg false r19_0) (.seq (.reg false r19_1) (.seq (.seq (.reg false r19_2) (.block 0 (.loop (.seq (.seq (.reg false r19_3) (.cond (.tmp 11) .skip (.exit 0))) (.seq (.block 1 (.seq (.reg true r19_4) (.seq (.reg false r19_5) (.cond (.tmp 36) (.seq (.reg false r19_6) .ret) .skip)))) (.reg false r19_7)))))) (.seq (.reg false r19_8) .ret))))
theorem e19 {args : List PV} {h : Heap} {K : PV → Heap → Prop} (hl : args.length = 1) (s : pwp Try.prog [] c19 (fin Try.prog [.tmp 2] h K) (slots0 (olds args)) h) : CanP Try.prog 19 args h K :=
  can_of2 (n := 37) mixed Try.func19 rfl (by kernel_rfl) (by rw [hl]; kernel_rfl) rfl (by kernel_rfl) s
/-! ### naskh.naskhlaw47.BalanceEven: function 4 -/
def r4_0 : List PS := [.mk (some 2) (.assign (.const (.bool false))) none]
def r4_1 : List PS := [.mk (some 4) (.move (.tmp 0)) none,
  .mk (some 5) (.call ⟨(.builtin .len), #[(.tmp 4)], #[22]⟩) none,
  .mk (some 6) (.binOp .gtr 3 (.tmp 5) (.const (.int .i64 100)) 3) none]
def r4_2 : List PS := [.mk (some 7) (.call ⟨(.value (.func 7)), #[], #[]⟩) none,
  .mk (some 2) (.assign (.tmp 7)) none]
def r4_3 : List PS := [.mk (some 8) (.call ⟨(.value (.func 15)), #[], #[]⟩) none,
  .mk (some 3) (.assign (.tmp 8)) none]
def r4_4 : List PS := [.mk (some 9) (.move (.tmp 3)) none,
  .mk (some 10) (.move (.tmp 0)) none,
  .mk (some 11) (.call ⟨(.value (.func 16)), #[(.tmp 9), (.tmp 10)], #[27, 22]⟩) none,
  .mk (some 12) (.move (.tmp 0)) none,
  .mk (some 13) (.call ⟨(.value (.func 17)), #[(.tmp 12)], #[22]⟩) none,
  .mk (some 14) (.call ⟨(.value (.func 8)), #[(.tmp 11), (.tmp 13)], #[22, 22]⟩) none,
  .mk (some 15) (.move (.tmp 14)) none,
  .mk (some 16) (.move (.tmp 3)) (some (15, true)),
  .mk (some 17) (.move (.tmp 0)) (some (15, true)),
  .mk (some 18) (.call ⟨(.value (.func 18)), #[(.tmp 16), (.tmp 17)], #[27, 22]⟩) (some (15, true)),
  .mk (some 19) (.move (.tmp 0)) (some (15, true)),
  .mk (some 20) (.call ⟨(.value (.func 19)), #[(.tmp 19)], #[22]⟩) (some (15, true)),
  .mk (some 21) (.binOp .eql 4 (.tmp 18) (.tmp 20) 4) (some (15, true)),
  .mk (some 22) (.pick (.tmp 15) (.tmp 21) (.const (.bool false))) none,
  .mk (some 23) (.move (.tmp 22)) none,
  .mk (some 24) (.call ⟨(.value (.func 7)), #[], #[]⟩) (some (23, true)),
  .mk (some 25) (.pick (.tmp 23) (.tmp 24) (.const (.bool false))) none,
  .mk (some 2) (.assign (.tmp 25)) none]
def c4 : PC := (.seq (.reg false r4_0) (.seq (.seq (.reg false r4_1) (.cond (.tmp 6) (.seq (.reg false r4_2) .ret) .skip)) (.seq (.reg false r4_3) (.seq (.reg false r4_4) .ret))))
theorem e4 {args : List PV} {h : Heap} {K : PV → Heap → Prop} (hl : args.length = 1) (s : pwp Try.prog [] c4 (fin Try.prog [.tmp 2] h K) (slots0 (olds args)) h) : CanP Try.prog 4 args h K :=
  can_of2 (n := 26) mixed Try.func4 rfl (by kernel_rfl) (by rw [hl]; kernel_rfl) rfl (by kernel_rfl) s
/-! ### naskh.naskhlaw47.BalanceTwice: function 5 -/
def r5_0 : List PS := [.mk (some 2) (.assign (.const (.bool false))) none]
def r5_1 : List PS := [.mk (some 5) (.move (.tmp 0)) none,
  .mk (some 6) (.call ⟨(.builtin .len), #[(.tmp 5)], #[22]⟩) none,
  .mk (some 7) (.binOp .gtr 3 (.tmp 6) (.const (.int .i64 100)) 3) none]
def r5_2 : List PS := [.mk (some 8) (.call ⟨(.value (.func 7)), #[], #[]⟩) none,
  .mk (some 2) (.assign (.tmp 8)) none]
def r5_3 : List PS := [.mk (some 9) (.call ⟨(.value (.func 15)), #[], #[]⟩) none,
  .mk (some 3) (.assign (.tmp 9)) none]
def r5_4 : List PS := [.mk (some 10) (.move (.tmp 3)) none,
  .mk (some 11) (.move (.tmp 0)) none,
  .mk (some 12) (.call ⟨(.value (.func 16)), #[(.tmp 10), (.tmp 11)], #[27, 22]⟩) none,
  .mk (some 4) (.assign (.tmp 12)) none]
def r5_5 : List PS := [.mk (some 13) (.move (.tmp 3)) none,
  .mk (some 14) (.move (.tmp 0)) none,
  .mk (some 15) (.call ⟨(.value (.func 18)), #[(.tmp 13), (.tmp 14)], #[27, 22]⟩) none,
  .mk (some 16) (.move (.tmp 15)) none,
  .mk (some 17) (.move (.tmp 4)) (some (16, true)),
  .mk (some 18) (.move (.tmp 0)) (some (16, true)),
  .mk (some 19) (.call ⟨(.value (.func 8)), #[(.tmp 17), (.tmp 18)], #[22, 22]⟩) (some (16, true)),
  .mk (some 20) (.unOp .not 4 (.tmp 19)) (some (16, true)),
  .mk (some 21) (.pick (.tmp 16) (.tmp 20) (.const (.bool false))) none]
def r5_6 : List PS := [.mk (some 2) (.assign (.const (.bool false))) none]
def r5_7 : List PS := [.mk (some 22) (.move (.tmp 3)) none,
  .mk (some 23) (.move (.tmp 4)) none,
  .mk (some 24) (.call ⟨(.value (.func 16)), #[(.tmp 22), (.tmp 23)], #[27, 22]⟩) none,
  .mk (some 25) (.move (.tmp 4)) none,
  .mk (some 26) (.call ⟨(.value (.func 8)), #[(.tmp 24), (.tmp 25)], #[22, 22]⟩) none,
  .mk (some 27) (.move (.tmp 26)) none,
  .mk (some 28) (.call ⟨(.value (.func 7)), #[], #[]⟩) (some (27, true)),
  .mk (some 29) (.pick (.tmp 27) (.tmp 28) (.const (.bool false))) none,
  .mk (some 2) (.assign (.tmp 29)) none]
def c5 : PC := (.seq (.reg false r5_0) (.seq (.seq (.reg false r5_1) (.cond (.tmp 7) (.seq (.reg false r5_2) .ret) .skip)) (.seq (.reg false r5_3) (.seq (.reg false r5_4) (.seq (.seq (.reg false r5_5) (.cond (.tmp 21) (.seq (.reg false r5_6) .ret) .skip)) (.seq (.reg false r5_7) .ret))))))
theorem e5 {args : List PV} {h : Heap} {K : PV → Heap → Prop} (hl : args.length = 1) (s : pwp Try.prog [] c5 (fin Try.prog [.tmp 2] h K) (slots0 (olds args)) h) : CanP Try.prog 5 args h K :=
  can_of2 (n := 30) mixed Try.func5 rfl (by kernel_rfl) (by rw [hl]; kernel_rfl) rfl (by kernel_rfl) s
/-! ### naskh.naskhlaw47.BalanceDone: function 6 -/
def r6_0 : List PS := [.mk (some 2) (.assign (.const (.bool false))) none]
def r6_1 : List PS := [.mk (some 8) (.move (.tmp 0)) none,
  .mk (some 9) (.call ⟨(.builtin .len), #[(.tmp 8)], #[22]⟩) none,
  .mk (some 10) (.binOp .gtr 3 (.tmp 9) (.const (.int .i64 100)) 3) none]
def r6_2 : List PS := [.mk (some 11) (.call ⟨(.value (.func 7)), #[], #[]⟩) none,
  .mk (some 2) (.assign (.tmp 11)) none]
def r6_3 : List PS := [.mk (some 12) (.call ⟨(.value (.func 15)), #[], #[]⟩) none,
  .mk (some 3) (.assign (.tmp 12)) none]
def r6_4 : List PS := [.mk (some 13) (.move (.tmp 3)) none,
  .mk (some 14) (.move (.tmp 0)) none,
  .mk (some 15) (.call ⟨(.value (.func 16)), #[(.tmp 13), (.tmp 14)], #[27, 22]⟩) none,
  .mk (some 4) (.assign (.tmp 15)) none]
def r6_5 : List PS := [.mk (some 16) (.move (.tmp 3)) none,
  .mk (some 17) (.move (.tmp 4)) none,
  .mk (some 18) (.call ⟨(.value (.func 20)), #[(.tmp 16), (.tmp 17)], #[27, 22]⟩) none,
  .mk (some 19) (.call ⟨(.builtin .len), #[(.tmp 18)], #[31]⟩) none,
  .mk (some 20) (.move (.const (.int .i64 0))) none]
def r6_6 : List PS := [.mk (some 21) (.binOp .lss 3 (.tmp 20) (.tmp 19) 3) none]
def r6_7 : List PS := [.mk (some 22) (.indexAddr 31 (.tmp 18) (.tmp 20)) none,
  .mk (some 23) (.load 34 (.tmp 22)) none,
  .mk (some 6) (.alloc 34) none,
  .mk none (.store 34 (.tmp 6) (.tmp 23)) none,
  .frz 6]
def r6_8 : List PS := [.mk (some 24) (.move (.tmp 4)) none,
  .mk (some 25) (.fieldAddr 34 (.tmp 6) 0) none,
  .mk (some 26) (.load 3 (.tmp 25)) none,
  .mk (some 27) (.fieldAddr 34 (.tmp 6) 1) none,
  .mk (some 28) (.load 3 (.tmp 27)) none,
  .mk (some 29) (.slice 22 (.tmp 24) (some (.tmp 26)) (some (.tmp 28)) none) none,
  .mk (some 30) (.call ⟨(.value (.func 21)), #[(.tmp 29)], #[22]⟩) none,
  .mk (some 7) (.assign (.tmp 30)) none]
def r6_9 : List PS := [.mk (some 31) (.move (.tmp 7)) none,
  .mk (some 32) (.call ⟨(.value (.func 11)), #[(.tmp 31)], #[22]⟩) none,
  .mk (some 33) (.call ⟨(.builtin .len), #[(.tmp 32)], #[22]⟩) none,
  .mk (some 34) (.binOp .neq 3 (.tmp 33) (.const (.int .i64 0)) 3) none,
  .mk (some 35) (.move (.tmp 34)) none,
  .mk (some 36) (.move (.tmp 7)) (some (35, false)),
  .mk (some 37) (.call ⟨(.value (.func 13)), #[(.tmp 36)], #[22]⟩) (some (35, false)),
  .mk (some 38) (.call ⟨(.builtin .len), #[(.tmp 37)], #[22]⟩) (some (35, false)),
  .mk (some 39) (.binOp .neq 3 (.tmp 38) (.const (.int .i64 0)) 3) (some (35, false)),
  .mk (some 40) (.pick (.tmp 35) (.const (.bool true)) (.tmp 39)) none]
def r6_10 : List PS := [.mk (some 2) (.assign (.const (.bool false))) none]
def r6_11 : List PS := [.mk (some 41) (.binOp .add 3 (.tmp 20) (.const (.int .i64 1)) 3) none,
  .mk (some 20) (.move (.tmp 41)) none]
def r6_12 : List PS := [.mk (some 42) (.call ⟨(.value (.func 7)), #[], #[]⟩) none,
  .mk (some 2) (.assign (.tmp 42)) none]
def c6 : PC := (.seq (.reg false r6_0) (.seq (.seq (.reg false r6_1) (.cond (.tmp 10) (.seq (.reg false r6_2) .ret) .skip)) (.seq (.reg false r6_3) (.seq (.reg false r6_4) (.seq (.seq (.reg false r6_5) (.block 0 (.loop (.seq (.reg false r6_6) (.seq (.cond (.tmp 21) .skip (.exit 0)) (.seq (.block 1 (.seq (.reg false r6_7) (.seq (.reg false r6_8) (.seq (.reg false r6_9) (.cond (.tmp 40) (.seq (.reg false r6_10) .ret) .skip))))) (.reg false r6_11))))))) (.seq (.reg false r6_12) .ret))))))
theorem e6 {args : List PV} {h : Heap} {K : PV → Heap → Prop} (hl : args.length = 1) (s : pwp Try.prog [6] c6 (fin Try.prog [.tmp 2] h K) (slots0 (olds args)) h) : CanP Try.prog 6 args h K :=
  can_of2 (n := 43) mixed Try.func6 rfl (by kernel_rfl) (by rw [hl]; kernel_rfl) rfl (by kernel_rfl) s
end Go.Proofs.Ytdllafendiaplaa
