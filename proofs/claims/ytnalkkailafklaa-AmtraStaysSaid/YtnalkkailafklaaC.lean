/-
  The functions that the statements of this seat reach, told in short, and facts on their types. Printed by this project's own program.
  Conditions: none.
-/
import Derived.Test.YtnalkkailafklaaPmO
import Derived.Test.YtnalkkailafklaaProg
import Derived.KernelRfl
namespace Go.Proofs.Ytnalkkailafklaa
open Go.Pm
set_option maxRecDepth 100000
set_option linter.unusedVariables false
theorem mixed : Try.prog.follows .mixedOrders = true := by kernel_rfl
theorem tag3 : tag Try.prog 3 = some false := by kernel_rfl
theorem tsz3 : tsz Try.prog 3 = some 1 := by kernel_rfl
theorem und3 : und Try.prog 3 = true := by kernel_rfl
theorem ik3 : ik Try.prog 3 = some .i64 := by kernel_rfl
theorem kd3 : kd Try.prog 3 = none := by kernel_rfl
theorem esz3 : esz Try.prog 3 = none := by kernel_rfl
theorem zc3 : zc Try.prog 3 = some [.int .i64 0] := by kernel_rfl
theorem ars3 : ars Try.prog 3 = none := by kernel_rfl
theorem tag4 : tag Try.prog 4 = some false := by kernel_rfl
theorem tsz4 : tsz Try.prog 4 = some 1 := by kernel_rfl
theorem und4 : und Try.prog 4 = true := by kernel_rfl
theorem ik4 : ik Try.prog 4 = none := by kernel_rfl
theorem kd4 : kd Try.prog 4 = some 3 := by kernel_rfl
theorem esz4 : esz Try.prog 4 = none := by kernel_rfl
theorem zc4 : zc Try.prog 4 = some [.bool false] := by kernel_rfl
theorem ars4 : ars Try.prog 4 = none := by kernel_rfl
theorem tag5 : tag Try.prog 5 = some false := by kernel_rfl
theorem tsz5 : tsz Try.prog 5 = some 1 := by kernel_rfl
theorem und5 : und Try.prog 5 = true := by kernel_rfl
theorem ik5 : ik Try.prog 5 = some .u8 := by kernel_rfl
theorem kd5 : kd Try.prog 5 = none := by kernel_rfl
theorem esz5 : esz Try.prog 5 = none := by kernel_rfl
theorem zc5 : zc Try.prog 5 = some [.int .u8 0] := by kernel_rfl
theorem ars5 : ars Try.prog 5 = none := by kernel_rfl
theorem tag9 : tag Try.prog 9 = some false := by kernel_rfl
theorem tsz9 : tsz Try.prog 9 = some 1 := by kernel_rfl
theorem und9 : und Try.prog 9 = true := by kernel_rfl
theorem ik9 : ik Try.prog 9 = none := by kernel_rfl
theorem kd9 : kd Try.prog 9 = some 0 := by kernel_rfl
theorem esz9 : esz Try.prog 9 = none := by kernel_rfl
theorem zc9 : zc Try.prog 9 = some [.str ⟨#[]⟩] := by kernel_rfl
theorem ars9 : ars Try.prog 9 = none := by kernel_rfl
theorem tag22 : tag Try.prog 22 = some false := by kernel_rfl
theorem tsz22 : tsz Try.prog 22 = some 1 := by kernel_rfl
theorem und22 : und Try.prog 22 = true := by kernel_rfl
theorem ik22 : ik Try.prog 22 = none := by kernel_rfl
theorem kd22 : kd Try.prog 22 = some 1 := by kernel_rfl
theorem esz22 : esz Try.prog 22 = some 1 := by kernel_rfl
theorem elt22 : elt Try.prog 22 = some 3 := by kernel_rfl
theorem zc22 : zc Try.prog 22 = some [.nils] := by kernel_rfl
theorem ars22 : ars Try.prog 22 = none := by kernel_rfl
theorem eli22 : eli Try.prog 22 = some (1, 8, [.int .i64 0]) := by kernel_rfl
theorem tag24 : tag Try.prog 24 = some false := by kernel_rfl
theorem tsz24 : tsz Try.prog 24 = some 1 := by kernel_rfl
theorem und24 : und Try.prog 24 = true := by kernel_rfl
theorem ik24 : ik Try.prog 24 = none := by kernel_rfl
theorem kd24 : kd Try.prog 24 = some 2 := by kernel_rfl
theorem esz24 : esz Try.prog 24 = none := by kernel_rfl
theorem zc24 : zc Try.prog 24 = some [.nilp] := by kernel_rfl
theorem ars24 : ars Try.prog 24 = none := by kernel_rfl
theorem tag29 : tag Try.prog 29 = some false := by kernel_rfl
theorem tsz29 : tsz Try.prog 29 = some 1 := by kernel_rfl
theorem und29 : und Try.prog 29 = true := by kernel_rfl
theorem ik29 : ik Try.prog 29 = none := by kernel_rfl
theorem kd29 : kd Try.prog 29 = none := by kernel_rfl
theorem esz29 : esz Try.prog 29 = none := by kernel_rfl
theorem zc29 : zc Try.prog 29 = some [.nilf] := by kernel_rfl
theorem ars29 : ars Try.prog 29 = none := by kernel_rfl
theorem tag35 : tag Try.prog 35 = some false := by kernel_rfl
theorem tsz35 : tsz Try.prog 35 = some 1 := by kernel_rfl
theorem und35 : und Try.prog 35 = true := by kernel_rfl
theorem ik35 : ik Try.prog 35 = none := by kernel_rfl
theorem kd35 : kd Try.prog 35 = some 2 := by kernel_rfl
theorem esz35 : esz Try.prog 35 = none := by kernel_rfl
theorem zc35 : zc Try.prog 35 = some [.nilp] := by kernel_rfl
theorem ars35 : ars Try.prog 35 = none := by kernel_rfl
theorem tag36 : tag Try.prog 36 = some false := by kernel_rfl
theorem tsz36 : tsz Try.prog 36 = some 1 := by kernel_rfl
theorem und36 : und Try.prog 36 = true := by kernel_rfl
theorem ik36 : ik Try.prog 36 = some .i64 := by kernel_rfl
theorem kd36 : kd Try.prog 36 = none := by kernel_rfl
theorem esz36 : esz Try.prog 36 = none := by kernel_rfl
theorem zc36 : zc Try.prog 36 = some [.int .i64 0] := by kernel_rfl
theorem ars36 : ars Try.prog 36 = none := by kernel_rfl
theorem tag39 : tag Try.prog 39 = some false := by kernel_rfl
theorem tsz39 : tsz Try.prog 39 = some 1 := by kernel_rfl
theorem und39 : und Try.prog 39 = true := by kernel_rfl
theorem ik39 : ik Try.prog 39 = none := by kernel_rfl
theorem kd39 : kd Try.prog 39 = some 1 := by kernel_rfl
theorem esz39 : esz Try.prog 39 = some 3 := by kernel_rfl
theorem elt39 : elt Try.prog 39 = some 67 := by kernel_rfl
theorem zc39 : zc Try.prog 39 = some [.nils] := by kernel_rfl
theorem ars39 : ars Try.prog 39 = none := by kernel_rfl
theorem eli39 : eli Try.prog 39 = some (3, 24, [.int .i64 0, .int .i64 0, .int .i64 0]) := by kernel_rfl
theorem tag42 : tag Try.prog 42 = some true := by kernel_rfl
theorem tsz42 : tsz Try.prog 42 = some 1 := by kernel_rfl
theorem und42 : und Try.prog 42 = true := by kernel_rfl
theorem ik42 : ik Try.prog 42 = none := by kernel_rfl
theorem kd42 : kd Try.prog 42 = none := by kernel_rfl
theorem esz42 : esz Try.prog 42 = none := by kernel_rfl
theorem zc42 : zc Try.prog 42 = some [.nilp] := by kernel_rfl
theorem ars42 : ars Try.prog 42 = none := by kernel_rfl
theorem fld42_0 : fld Try.prog 42 0 = some (0, false, 1) := by kernel_rfl
theorem plc42 : plc Try.prog 42 = some fun i => [(0, 1)][i]? := by kernel_rfl
theorem tag44 : tag Try.prog 44 = some true := by kernel_rfl
theorem tsz44 : tsz Try.prog 44 = some 1 := by kernel_rfl
theorem und44 : und Try.prog 44 = true := by kernel_rfl
theorem ik44 : ik Try.prog 44 = none := by kernel_rfl
theorem kd44 : kd Try.prog 44 = none := by kernel_rfl
theorem esz44 : esz Try.prog 44 = none := by kernel_rfl
theorem zc44 : zc Try.prog 44 = some [.nilp] := by kernel_rfl
theorem ars44 : ars Try.prog 44 = none := by kernel_rfl
theorem fld44_0 : fld Try.prog 44 0 = some (0, true, 1) := by kernel_rfl
theorem plc44 : plc Try.prog 44 = some fun i => [(0, 1)][i]? := by kernel_rfl
theorem tag45 : tag Try.prog 45 = some false := by kernel_rfl
theorem tsz45 : tsz Try.prog 45 = some 1 := by kernel_rfl
theorem und45 : und Try.prog 45 = true := by kernel_rfl
theorem ik45 : ik Try.prog 45 = none := by kernel_rfl
theorem kd45 : kd Try.prog 45 = some 2 := by kernel_rfl
theorem esz45 : esz Try.prog 45 = none := by kernel_rfl
theorem zc45 : zc Try.prog 45 = some [.nilp] := by kernel_rfl
theorem ars45 : ars Try.prog 45 = none := by kernel_rfl
theorem tag47 : tag Try.prog 47 = some true := by kernel_rfl
theorem tsz47 : tsz Try.prog 47 = some 3 := by kernel_rfl
theorem und47 : und Try.prog 47 = true := by kernel_rfl
theorem ik47 : ik Try.prog 47 = none := by kernel_rfl
theorem kd47 : kd Try.prog 47 = none := by kernel_rfl
theorem esz47 : esz Try.prog 47 = none := by kernel_rfl
theorem zc47 : zc Try.prog 47 = some [.nilp, .nils, .nils] := by kernel_rfl
theorem ars47 : ars Try.prog 47 = none := by kernel_rfl
theorem fld47_0 : fld Try.prog 47 0 = some (0, false, 1) := by kernel_rfl
theorem fld47_1 : fld Try.prog 47 1 = some (1, false, 1) := by kernel_rfl
theorem fld47_2 : fld Try.prog 47 2 = some (2, false, 1) := by kernel_rfl
theorem plc47 : plc Try.prog 47 = some fun i => [(0, 1), (1, 1), (2, 1)][i]? := by kernel_rfl
theorem tag54 : tag Try.prog 54 = some false := by kernel_rfl
theorem tsz54 : tsz Try.prog 54 = some 1 := by kernel_rfl
theorem und54 : und Try.prog 54 = true := by kernel_rfl
theorem ik54 : ik Try.prog 54 = some .u64 := by kernel_rfl
theorem kd54 : kd Try.prog 54 = none := by kernel_rfl
theorem esz54 : esz Try.prog 54 = none := by kernel_rfl
theorem zc54 : zc Try.prog 54 = some [.int .u64 0] := by kernel_rfl
theorem ars54 : ars Try.prog 54 = none := by kernel_rfl
theorem tag56 : tag Try.prog 56 = some false := by kernel_rfl
theorem tsz56 : tsz Try.prog 56 = some 1 := by kernel_rfl
theorem und56 : und Try.prog 56 = true := by kernel_rfl
theorem ik56 : ik Try.prog 56 = none := by kernel_rfl
theorem kd56 : kd Try.prog 56 = some 1 := by kernel_rfl
theorem esz56 : esz Try.prog 56 = some 128 := by kernel_rfl
theorem elt56 : elt Try.prog 56 = some 62 := by kernel_rfl
theorem zc56 : zc Try.prog 56 = some [.nils] := by kernel_rfl
theorem ars56 : ars Try.prog 56 = none := by kernel_rfl
theorem eli56 : eli Try.prog 56 = some (128, 1024, List.replicate 128 (.int .i64 0)) := by kernel_rfl
theorem tag58 : tag Try.prog 58 = some true := by kernel_rfl
theorem tsz58 : tsz Try.prog 58 = some 2 := by kernel_rfl
theorem und58 : und Try.prog 58 = true := by kernel_rfl
theorem ik58 : ik Try.prog 58 = none := by kernel_rfl
theorem kd58 : kd Try.prog 58 = none := by kernel_rfl
theorem esz58 : esz Try.prog 58 = none := by kernel_rfl
theorem zc58 : zc Try.prog 58 = some [.nils, .nils] := by kernel_rfl
theorem ars58 : ars Try.prog 58 = none := by kernel_rfl
theorem fld58_0 : fld Try.prog 58 0 = some (0, false, 1) := by kernel_rfl
theorem fld58_1 : fld Try.prog 58 1 = some (1, false, 1) := by kernel_rfl
theorem plc58 : plc Try.prog 58 = some fun i => [(0, 1), (1, 1)][i]? := by kernel_rfl
theorem tag60 : tag Try.prog 60 = some true := by kernel_rfl
theorem tsz60 : tsz Try.prog 60 = some 4 := by kernel_rfl
theorem und60 : und Try.prog 60 = true := by kernel_rfl
theorem ik60 : ik Try.prog 60 = none := by kernel_rfl
theorem kd60 : kd Try.prog 60 = none := by kernel_rfl
theorem esz60 : esz Try.prog 60 = none := by kernel_rfl
theorem zc60 : zc Try.prog 60 = some [.nils, .nils, .int .i64 0, .bool false] := by kernel_rfl
theorem ars60 : ars Try.prog 60 = none := by kernel_rfl
theorem fld60_0 : fld Try.prog 60 0 = some (0, true, 2) := by kernel_rfl
theorem fld60_1 : fld Try.prog 60 1 = some (2, false, 1) := by kernel_rfl
theorem fld60_2 : fld Try.prog 60 2 = some (3, false, 1) := by kernel_rfl
theorem plc60 : plc Try.prog 60 = some fun i => [(0, 2), (2, 1), (3, 1)][i]? := by kernel_rfl
theorem tag62 : tag Try.prog 62 = some true := by kernel_rfl
theorem tsz62 : tsz Try.prog 62 = some 128 := by kernel_rfl
theorem und62 : und Try.prog 62 = true := by kernel_rfl
theorem ik62 : ik Try.prog 62 = none := by kernel_rfl
theorem kd62 : kd Try.prog 62 = some 266 := by kernel_rfl
theorem esz62 : esz Try.prog 62 = none := by kernel_rfl
theorem zc62 : zc Try.prog 62 = some (List.replicate 128 (.int .i64 0)) := by kernel_rfl
theorem ars62 : ars Try.prog 62 = some (128, 1, false) := by kernel_rfl
theorem plc62 : plc Try.prog 62 = some fun i => some (i * 1, 1) := by kernel_rfl
theorem tag67 : tag Try.prog 67 = some true := by kernel_rfl
theorem tsz67 : tsz Try.prog 67 = some 3 := by kernel_rfl
theorem und67 : und Try.prog 67 = true := by kernel_rfl
theorem ik67 : ik Try.prog 67 = none := by kernel_rfl
theorem kd67 : kd Try.prog 67 = some 16 := by kernel_rfl
theorem esz67 : esz Try.prog 67 = none := by kernel_rfl
theorem zc67 : zc Try.prog 67 = some [.int .i64 0, .int .i64 0, .int .i64 0] := by kernel_rfl
theorem ars67 : ars Try.prog 67 = none := by kernel_rfl
theorem fld67_0 : fld Try.prog 67 0 = some (0, false, 1) := by kernel_rfl
theorem fld67_1 : fld Try.prog 67 1 = some (1, false, 1) := by kernel_rfl
theorem fld67_2 : fld Try.prog 67 2 = some (2, false, 1) := by kernel_rfl
theorem plc67 : plc Try.prog 67 = some fun i => [(0, 1), (1, 1), (2, 1)][i]? := by kernel_rfl
theorem tag70 : tag Try.prog 70 = some false := by kernel_rfl
theorem tsz70 : tsz Try.prog 70 = some 1 := by kernel_rfl
theorem und70 : und Try.prog 70 = true := by kernel_rfl
theorem ik70 : ik Try.prog 70 = none := by kernel_rfl
theorem kd70 : kd Try.prog 70 = none := by kernel_rfl
theorem esz70 : esz Try.prog 70 = none := by kernel_rfl
theorem zc70 : zc Try.prog 70 = some [.nilf] := by kernel_rfl
theorem ars70 : ars Try.prog 70 = none := by kernel_rfl
theorem tag71 : tag Try.prog 71 = some false := by kernel_rfl
theorem tsz71 : tsz Try.prog 71 = some 1 := by kernel_rfl
theorem und71 : und Try.prog 71 = true := by kernel_rfl
theorem ik71 : ik Try.prog 71 = none := by kernel_rfl
theorem kd71 : kd Try.prog 71 = none := by kernel_rfl
theorem esz71 : esz Try.prog 71 = none := by kernel_rfl
theorem zc71 : zc Try.prog 71 = some [.nilf] := by kernel_rfl
theorem ars71 : ars Try.prog 71 = none := by kernel_rfl
theorem tag74 : tag Try.prog 74 = some false := by kernel_rfl
theorem tsz74 : tsz Try.prog 74 = some 1 := by kernel_rfl
theorem und74 : und Try.prog 74 = true := by kernel_rfl
theorem ik74 : ik Try.prog 74 = none := by kernel_rfl
theorem kd74 : kd Try.prog 74 = some 1 := by kernel_rfl
theorem esz74 : esz Try.prog 74 = some 1 := by kernel_rfl
theorem elt74 : elt Try.prog 74 = some 4 := by kernel_rfl
theorem zc74 : zc Try.prog 74 = some [.nils] := by kernel_rfl
theorem ars74 : ars Try.prog 74 = none := by kernel_rfl
theorem eli74 : eli Try.prog 74 = some (1, 1, [.bool false]) := by kernel_rfl
theorem tag77 : tag Try.prog 77 = some false := by kernel_rfl
theorem tsz77 : tsz Try.prog 77 = some 1 := by kernel_rfl
theorem und77 : und Try.prog 77 = true := by kernel_rfl
theorem ik77 : ik Try.prog 77 = some .i64 := by kernel_rfl
theorem kd77 : kd Try.prog 77 = none := by kernel_rfl
theorem esz77 : esz Try.prog 77 = none := by kernel_rfl
theorem zc77 : zc Try.prog 77 = some [.int .i64 0] := by kernel_rfl
theorem ars77 : ars Try.prog 77 = none := by kernel_rfl
theorem tag85 : tag Try.prog 85 = some false := by kernel_rfl
theorem tsz85 : tsz Try.prog 85 = some 1 := by kernel_rfl
theorem und85 : und Try.prog 85 = true := by kernel_rfl
theorem ik85 : ik Try.prog 85 = some .u32 := by kernel_rfl
theorem kd85 : kd Try.prog 85 = none := by kernel_rfl
theorem esz85 : esz Try.prog 85 = none := by kernel_rfl
theorem zc85 : zc Try.prog 85 = some [.int .u32 0] := by kernel_rfl
theorem ars85 : ars Try.prog 85 = none := by kernel_rfl
theorem tag87 : tag Try.prog 87 = some false := by kernel_rfl
theorem tsz87 : tsz Try.prog 87 = some 1 := by kernel_rfl
theorem und87 : und Try.prog 87 = true := by kernel_rfl
theorem ik87 : ik Try.prog 87 = some .u64 := by kernel_rfl
theorem kd87 : kd Try.prog 87 = none := by kernel_rfl
theorem esz87 : esz Try.prog 87 = none := by kernel_rfl
theorem zc87 : zc Try.prog 87 = some [.int .u64 0] := by kernel_rfl
theorem ars87 : ars Try.prog 87 = none := by kernel_rfl
theorem tag89 : tag Try.prog 89 = some false := by kernel_rfl
theorem tsz89 : tsz Try.prog 89 = some 1 := by kernel_rfl
theorem und89 : und Try.prog 89 = true := by kernel_rfl
theorem ik89 : ik Try.prog 89 = none := by kernel_rfl
theorem kd89 : kd Try.prog 89 = some 2 := by kernel_rfl
theorem esz89 : esz Try.prog 89 = none := by kernel_rfl
theorem zc89 : zc Try.prog 89 = some [.nilp] := by kernel_rfl
theorem ars89 : ars Try.prog 89 = none := by kernel_rfl
theorem tag92 : tag Try.prog 92 = some false := by kernel_rfl
theorem tsz92 : tsz Try.prog 92 = some 1 := by kernel_rfl
theorem und92 : und Try.prog 92 = true := by kernel_rfl
theorem ik92 : ik Try.prog 92 = none := by kernel_rfl
theorem kd92 : kd Try.prog 92 = some 1 := by kernel_rfl
theorem esz92 : esz Try.prog 92 = some 1 := by kernel_rfl
theorem elt92 : elt Try.prog 92 = some 22 := by kernel_rfl
theorem zc92 : zc Try.prog 92 = some [.nils] := by kernel_rfl
theorem ars92 : ars Try.prog 92 = none := by kernel_rfl
theorem eli92 : eli Try.prog 92 = some (1, 24, [.nils]) := by kernel_rfl
theorem tag94 : tag Try.prog 94 = some false := by kernel_rfl
theorem tsz94 : tsz Try.prog 94 = some 1 := by kernel_rfl
theorem und94 : und Try.prog 94 = true := by kernel_rfl
theorem ik94 : ik Try.prog 94 = some .u64 := by kernel_rfl
theorem kd94 : kd Try.prog 94 = none := by kernel_rfl
theorem esz94 : esz Try.prog 94 = none := by kernel_rfl
theorem zc94 : zc Try.prog 94 = some [.int .u64 0] := by kernel_rfl
theorem ars94 : ars Try.prog 94 = none := by kernel_rfl
theorem tag98 : tag Try.prog 98 = some false := by kernel_rfl
theorem tsz98 : tsz Try.prog 98 = some 1 := by kernel_rfl
theorem und98 : und Try.prog 98 = true := by kernel_rfl
theorem ik98 : ik Try.prog 98 = none := by kernel_rfl
theorem kd98 : kd Try.prog 98 = some 2 := by kernel_rfl
theorem esz98 : esz Try.prog 98 = none := by kernel_rfl
theorem zc98 : zc Try.prog 98 = some [.nilp] := by kernel_rfl
theorem ars98 : ars Try.prog 98 = none := by kernel_rfl
theorem tag102 : tag Try.prog 102 = some false := by kernel_rfl
theorem tsz102 : tsz Try.prog 102 = some 1 := by kernel_rfl
theorem und102 : und Try.prog 102 = true := by kernel_rfl
theorem ik102 : ik Try.prog 102 = none := by kernel_rfl
theorem kd102 : kd Try.prog 102 = some 2 := by kernel_rfl
theorem esz102 : esz Try.prog 102 = none := by kernel_rfl
theorem zc102 : zc Try.prog 102 = some [.nilp] := by kernel_rfl
theorem ars102 : ars Try.prog 102 = none := by kernel_rfl
theorem ft : (tag Try.prog 3 = some false) ∧
    (tsz Try.prog 3 = some 1) ∧
    (und Try.prog 3 = true) ∧
    (ik Try.prog 3 = some .i64) ∧
    (kd Try.prog 3 = none) ∧
    (esz Try.prog 3 = none) ∧
    (zc Try.prog 3 = some [.int .i64 0]) ∧
    (ars Try.prog 3 = none) ∧
    (tag Try.prog 4 = some false) ∧
    (tsz Try.prog 4 = some 1) ∧
    (und Try.prog 4 = true) ∧
    (ik Try.prog 4 = none) ∧
    (kd Try.prog 4 = some 3) ∧
    (esz Try.prog 4 = none) ∧
    (zc Try.prog 4 = some [.bool false]) ∧
    (ars Try.prog 4 = none) ∧
    (tag Try.prog 5 = some false) ∧
    (tsz Try.prog 5 = some 1) ∧
    (und Try.prog 5 = true) ∧
    (ik Try.prog 5 = some .u8) ∧
    (kd Try.prog 5 = none) ∧
    (esz Try.prog 5 = none) ∧
    (zc Try.prog 5 = some [.int .u8 0]) ∧
    (ars Try.prog 5 = none) ∧
    (tag Try.prog 9 = some false) ∧
    (tsz Try.prog 9 = some 1) ∧
    (und Try.prog 9 = true) ∧
    (ik Try.prog 9 = none) ∧
    (kd Try.prog 9 = some 0) ∧
    (esz Try.prog 9 = none) ∧
    (zc Try.prog 9 = some [.str ⟨#[]⟩]) ∧
    (ars Try.prog 9 = none) ∧
    (tag Try.prog 22 = some false) ∧
    (tsz Try.prog 22 = some 1) ∧
    (und Try.prog 22 = true) ∧
    (ik Try.prog 22 = none) ∧
    (kd Try.prog 22 = some 1) ∧
    (esz Try.prog 22 = some 1) ∧
    (elt Try.prog 22 = some 3) ∧
    (zc Try.prog 22 = some [.nils]) ∧
    (ars Try.prog 22 = none) ∧
    (eli Try.prog 22 = some (1, 8, [.int .i64 0])) ∧
    (tag Try.prog 24 = some false) ∧
    (tsz Try.prog 24 = some 1) ∧
    (und Try.prog 24 = true) ∧
    (ik Try.prog 24 = none) ∧
    (kd Try.prog 24 = some 2) ∧
    (esz Try.prog 24 = none) ∧
    (zc Try.prog 24 = some [.nilp]) ∧
    (ars Try.prog 24 = none) ∧
    (tag Try.prog 29 = some false) ∧
    (tsz Try.prog 29 = some 1) ∧
    (und Try.prog 29 = true) ∧
    (ik Try.prog 29 = none) ∧
    (kd Try.prog 29 = none) ∧
    (esz Try.prog 29 = none) ∧
    (zc Try.prog 29 = some [.nilf]) ∧
    (ars Try.prog 29 = none) ∧
    (tag Try.prog 35 = some false) ∧
    (tsz Try.prog 35 = some 1) ∧
    (und Try.prog 35 = true) ∧
    (ik Try.prog 35 = none) ∧
    (kd Try.prog 35 = some 2) ∧
    (esz Try.prog 35 = none) ∧
    (zc Try.prog 35 = some [.nilp]) ∧
    (ars Try.prog 35 = none) ∧
    (tag Try.prog 36 = some false) ∧
    (tsz Try.prog 36 = some 1) ∧
    (und Try.prog 36 = true) ∧
    (ik Try.prog 36 = some .i64) ∧
    (kd Try.prog 36 = none) ∧
    (esz Try.prog 36 = none) ∧
    (zc Try.prog 36 = some [.int .i64 0]) ∧
    (ars Try.prog 36 = none) ∧
    (tag Try.prog 39 = some false) ∧
    (tsz Try.prog 39 = some 1) ∧
    (und Try.prog 39 = true) ∧
    (ik Try.prog 39 = none) ∧
    (kd Try.prog 39 = some 1) ∧
    (esz Try.prog 39 = some 3) ∧
    (elt Try.prog 39 = some 67) ∧
    (zc Try.prog 39 = some [.nils]) ∧
    (ars Try.prog 39 = none) ∧
    (eli Try.prog 39 = some (3, 24, [.int .i64 0, .int .i64 0, .int .i64 0])) ∧
    (tag Try.prog 42 = some true) ∧
    (tsz Try.prog 42 = some 1) ∧
    (und Try.prog 42 = true) ∧
    (ik Try.prog 42 = none) ∧
    (kd Try.prog 42 = none) ∧
    (esz Try.prog 42 = none) ∧
    (zc Try.prog 42 = some [.nilp]) ∧
    (ars Try.prog 42 = none) ∧
    (fld Try.prog 42 0 = some (0, false, 1)) ∧
    (plc Try.prog 42 = some fun i => [(0, 1)][i]?) ∧
    (tag Try.prog 44 = some true) ∧
    (tsz Try.prog 44 = some 1) ∧
    (und Try.prog 44 = true) ∧
    (ik Try.prog 44 = none) ∧
    (kd Try.prog 44 = none) ∧
    (esz Try.prog 44 = none) ∧
    (zc Try.prog 44 = some [.nilp]) ∧
    (ars Try.prog 44 = none) ∧
    (fld Try.prog 44 0 = some (0, true, 1)) ∧
    (plc Try.prog 44 = some fun i => [(0, 1)][i]?) ∧
    (tag Try.prog 45 = some false) ∧
    (tsz Try.prog 45 = some 1) ∧
    (und Try.prog 45 = true) ∧
    (ik Try.prog 45 = none) ∧
    (kd Try.prog 45 = some 2) ∧
    (esz Try.prog 45 = none) ∧
    (zc Try.prog 45 = some [.nilp]) ∧
    (ars Try.prog 45 = none) ∧
    (tag Try.prog 47 = some true) ∧
    (tsz Try.prog 47 = some 3) ∧
    (und Try.prog 47 = true) ∧
    (ik Try.prog 47 = none) ∧
    (kd Try.prog 47 = none) ∧
    (esz Try.prog 47 = none) ∧
    (zc Try.prog 47 = some [.nilp, .nils, .nils]) ∧
    (ars Try.prog 47 = none) ∧
    (fld Try.prog 47 0 = some (0, false, 1)) ∧
    (fld Try.prog 47 1 = some (1, false, 1)) ∧
    (fld Try.prog 47 2 = some (2, false, 1)) ∧
    (plc Try.prog 47 = some fun i => [(0, 1), (1, 1), (2, 1)][i]?) ∧
    (tag Try.prog 54 = some false) ∧
    (tsz Try.prog 54 = some 1) ∧
    (und Try.prog 54 = true) ∧
    (ik Try.prog 54 = some .u64) ∧
    (kd Try.prog 54 = none) ∧
    (esz Try.prog 54 = none) ∧
    (zc Try.prog 54 = some [.int .u64 0]) ∧
    (ars Try.prog 54 = none) ∧
    (tag Try.prog 56 = some false) ∧
    (tsz Try.prog 56 = some 1) ∧
    (und Try.prog 56 = true) ∧
    (ik Try.prog 56 = none) ∧
    (kd Try.prog 56 = some 1) ∧
    (esz Try.prog 56 = some 128) ∧
    (elt Try.prog 56 = some 62) ∧
    (zc Try.prog 56 = some [.nils]) ∧
    (ars Try.prog 56 = none) ∧
    (eli Try.prog 56 = some (128, 1024, List.replicate 128 (.int .i64 0))) ∧
    (tag Try.prog 58 = some true) ∧
    (tsz Try.prog 58 = some 2) ∧
    (und Try.prog 58 = true) ∧
    (ik Try.prog 58 = none) ∧
    (kd Try.prog 58 = none) ∧
    (esz Try.prog 58 = none) ∧
    (zc Try.prog 58 = some [.nils, .nils]) ∧
    (ars Try.prog 58 = none) ∧
    (fld Try.prog 58 0 = some (0, false, 1)) ∧
    (fld Try.prog 58 1 = some (1, false, 1)) ∧
    (plc Try.prog 58 = some fun i => [(0, 1), (1, 1)][i]?) ∧
    (tag Try.prog 60 = some true) ∧
    (tsz Try.prog 60 = some 4) ∧
    (und Try.prog 60 = true) ∧
    (ik Try.prog 60 = none) ∧
    (kd Try.prog 60 = none) ∧
    (esz Try.prog 60 = none) ∧
    (zc Try.prog 60 = some [.nils, .nils, .int .i64 0, .bool false]) ∧
    (ars Try.prog 60 = none) ∧
    (fld Try.prog 60 0 = some (0, true, 2)) ∧
    (fld Try.prog 60 1 = some (2, false, 1)) ∧
    (fld Try.prog 60 2 = some (3, false, 1)) ∧
    (plc Try.prog 60 = some fun i => [(0, 2), (2, 1), (3, 1)][i]?) ∧
    (tag Try.prog 62 = some true) ∧
    (tsz Try.prog 62 = some 128) ∧
    (und Try.prog 62 = true) ∧
    (ik Try.prog 62 = none) ∧
    (kd Try.prog 62 = some 266) ∧
    (esz Try.prog 62 = none) ∧
    (zc Try.prog 62 = some (List.replicate 128 (.int .i64 0))) ∧
    (ars Try.prog 62 = some (128, 1, false)) ∧
    (plc Try.prog 62 = some fun i => some (i * 1, 1)) ∧
    (tag Try.prog 67 = some true) ∧
    (tsz Try.prog 67 = some 3) ∧
    (und Try.prog 67 = true) ∧
    (ik Try.prog 67 = none) ∧
    (kd Try.prog 67 = some 16) ∧
    (esz Try.prog 67 = none) ∧
    (zc Try.prog 67 = some [.int .i64 0, .int .i64 0, .int .i64 0]) ∧
    (ars Try.prog 67 = none) ∧
    (fld Try.prog 67 0 = some (0, false, 1)) ∧
    (fld Try.prog 67 1 = some (1, false, 1)) ∧
    (fld Try.prog 67 2 = some (2, false, 1)) ∧
    (plc Try.prog 67 = some fun i => [(0, 1), (1, 1), (2, 1)][i]?) ∧
    (tag Try.prog 70 = some false) ∧
    (tsz Try.prog 70 = some 1) ∧
    (und Try.prog 70 = true) ∧
    (ik Try.prog 70 = none) ∧
    (kd Try.prog 70 = none) ∧
    (esz Try.prog 70 = none) ∧
    (zc Try.prog 70 = some [.nilf]) ∧
    (ars Try.prog 70 = none) ∧
    (tag Try.prog 71 = some false) ∧
    (tsz Try.prog 71 = some 1) ∧
    (und Try.prog 71 = true) ∧
    (ik Try.prog 71 = none) ∧
    (kd Try.prog 71 = none) ∧
    (esz Try.prog 71 = none) ∧
    (zc Try.prog 71 = some [.nilf]) ∧
    (ars Try.prog 71 = none) ∧
    (tag Try.prog 74 = some false) ∧
    (tsz Try.prog 74 = some 1) ∧
    (und Try.prog 74 = true) ∧
    (ik Try.prog 74 = none) ∧
    (kd Try.prog 74 = some 1) ∧
    (esz Try.prog 74 = some 1) ∧
    (elt Try.prog 74 = some 4) ∧
    (zc Try.prog 74 = some [.nils]) ∧
    (ars Try.prog 74 = none) ∧
    (eli Try.prog 74 = some (1, 1, [.bool false])) ∧
    (tag Try.prog 77 = some false) ∧
    (tsz Try.prog 77 = some 1) ∧
    (und Try.prog 77 = true) ∧
    (ik Try.prog 77 = some .i64) ∧
    (kd Try.prog 77 = none) ∧
    (esz Try.prog 77 = none) ∧
    (zc Try.prog 77 = some [.int .i64 0]) ∧
    (ars Try.prog 77 = none) ∧
    (tag Try.prog 85 = some false) ∧
    (tsz Try.prog 85 = some 1) ∧
    (und Try.prog 85 = true) ∧
    (ik Try.prog 85 = some .u32) ∧
    (kd Try.prog 85 = none) ∧
    (esz Try.prog 85 = none) ∧
    (zc Try.prog 85 = some [.int .u32 0]) ∧
    (ars Try.prog 85 = none) ∧
    (tag Try.prog 87 = some false) ∧
    (tsz Try.prog 87 = some 1) ∧
    (und Try.prog 87 = true) ∧
    (ik Try.prog 87 = some .u64) ∧
    (kd Try.prog 87 = none) ∧
    (esz Try.prog 87 = none) ∧
    (zc Try.prog 87 = some [.int .u64 0]) ∧
    (ars Try.prog 87 = none) ∧
    (tag Try.prog 89 = some false) ∧
    (tsz Try.prog 89 = some 1) ∧
    (und Try.prog 89 = true) ∧
    (ik Try.prog 89 = none) ∧
    (kd Try.prog 89 = some 2) ∧
    (esz Try.prog 89 = none) ∧
    (zc Try.prog 89 = some [.nilp]) ∧
    (ars Try.prog 89 = none) ∧
    (tag Try.prog 92 = some false) ∧
    (tsz Try.prog 92 = some 1) ∧
    (und Try.prog 92 = true) ∧
    (ik Try.prog 92 = none) ∧
    (kd Try.prog 92 = some 1) ∧
    (esz Try.prog 92 = some 1) ∧
    (elt Try.prog 92 = some 22) ∧
    (zc Try.prog 92 = some [.nils]) ∧
    (ars Try.prog 92 = none) ∧
    (eli Try.prog 92 = some (1, 24, [.nils])) ∧
    (tag Try.prog 94 = some false) ∧
    (tsz Try.prog 94 = some 1) ∧
    (und Try.prog 94 = true) ∧
    (ik Try.prog 94 = some .u64) ∧
    (kd Try.prog 94 = none) ∧
    (esz Try.prog 94 = none) ∧
    (zc Try.prog 94 = some [.int .u64 0]) ∧
    (ars Try.prog 94 = none) ∧
    (tag Try.prog 98 = some false) ∧
    (tsz Try.prog 98 = some 1) ∧
    (und Try.prog 98 = true) ∧
    (ik Try.prog 98 = none) ∧
    (kd Try.prog 98 = some 2) ∧
    (esz Try.prog 98 = none) ∧
    (zc Try.prog 98 = some [.nilp]) ∧
    (ars Try.prog 98 = none) ∧
    (tag Try.prog 102 = some false) ∧
    (tsz Try.prog 102 = some 1) ∧
    (und Try.prog 102 = true) ∧
    (ik Try.prog 102 = none) ∧
    (kd Try.prog 102 = some 2) ∧
    (esz Try.prog 102 = none) ∧
    (zc Try.prog 102 = some [.nilp]) ∧
    (ars Try.prog 102 = none) :=
  ⟨tag3, tsz3, und3, ik3, kd3, esz3, zc3, ars3, tag4, tsz4, und4, ik4, kd4, esz4, zc4, ars4, tag5, tsz5, und5, ik5, kd5, esz5, zc5, ars5, tag9, tsz9, und9, ik9, kd9, esz9, zc9, ars9, tag22, tsz22, und22, ik22, kd22, esz22, elt22, zc22, ars22, eli22, tag24, tsz24, und24, ik24, kd24, esz24, zc24, ars24, tag29, tsz29, und29, ik29, kd29, esz29, zc29, ars29, tag35, tsz35, und35, ik35, kd35, esz35, zc35, ars35, tag36, tsz36, und36, ik36, kd36, esz36, zc36, ars36, tag39, tsz39, und39, ik39, kd39, esz39, elt39, zc39, ars39, eli39, tag42, tsz42, und42, ik42, kd42, esz42, zc42, ars42, fld42_0, plc42, tag44, tsz44, und44, ik44, kd44, esz44, zc44, ars44, fld44_0, plc44, tag45, tsz45, und45, ik45, kd45, esz45, zc45, ars45, tag47, tsz47, und47, ik47, kd47, esz47, zc47, ars47, fld47_0, fld47_1, fld47_2, plc47, tag54, tsz54, und54, ik54, kd54, esz54, zc54, ars54, tag56, tsz56, und56, ik56, kd56, esz56, elt56, zc56, ars56, eli56, tag58, tsz58, und58, ik58, kd58, esz58, zc58, ars58, fld58_0, fld58_1, plc58, tag60, tsz60, und60, ik60, kd60, esz60, zc60, ars60, fld60_0, fld60_1, fld60_2, plc60, tag62, tsz62, und62, ik62, kd62, esz62, zc62, ars62, plc62, tag67, tsz67, und67, ik67, kd67, esz67, zc67, ars67, fld67_0, fld67_1, fld67_2, plc67, tag70, tsz70, und70, ik70, kd70, esz70, zc70, ars70, tag71, tsz71, und71, ik71, kd71, esz71, zc71, ars71, tag74, tsz74, und74, ik74, kd74, esz74, elt74, zc74, ars74, eli74, tag77, tsz77, und77, ik77, kd77, esz77, zc77, ars77, tag85, tsz85, und85, ik85, kd85, esz85, zc85, ars85, tag87, tsz87, und87, ik87, kd87, esz87, zc87, ars87, tag89, tsz89, und89, ik89, kd89, esz89, zc89, ars89, tag92, tsz92, und92, ik92, kd92, esz92, elt92, zc92, ars92, eli92, tag94, tsz94, und94, ik94, kd94, esz94, zc94, ars94, tag98, tsz98, und98, ik98, kd98, esz98, zc98, ars98, tag102, tsz102, und102, ik102, kd102, esz102, zc102, ars102⟩
/-! ### naskh.trie.may: function 33 -/
def r33_0 : List PS := [.mk (some 2) (.assign (.const (.int .i64 0))) none]
def r33_1 : List PS := [.mk (some 6) (.move (.tmp 0)) none,
  .mk (some 7) (.call ⟨(.builtin .len), #[(.tmp 6)], #[39]⟩) none,
  .mk (some 8) (.binOp .gtr 3 (.tmp 7) (.const (.int .i64 4096)) 3) none]
def r33_2 : List PS := [.mk (some 2) (.assign (.const (.int .i64 6))) none]
def r33_3 : List PS := [.mk (some 3) (.assign (.const (.int .i64 (-1)))) none]
def r33_4 : List PS := [.mk (some 9) (.move (.tmp 0)) none,
  .mk (some 10) (.call ⟨(.builtin .len), #[(.tmp 9)], #[39]⟩) none,
  .mk (some 11) (.move (.const (.int .i64 0))) none]
def r33_5 : List PS := [.mk (some 12) (.binOp .lss 3 (.tmp 11) (.tmp 10) 3) none]
def r33_6 : List PS := [.mk (some 13) (.indexAddr 39 (.tmp 9) (.tmp 11)) none,
  .mk (some 14) (.load 67 (.tmp 13)) none,
  .mk (some 5) (.alloc 67) none,
  .mk none (.store 67 (.tmp 5) (.tmp 14)) none,
  .frz 5]
def r33_7 : List PS := [.mk (some 15) (.fieldAddr 67 (.tmp 5) 0) none,
  .mk (some 16) (.load 3 (.tmp 15)) none,
  .mk (some 17) (.move (.tmp 3)) none,
  .mk (some 18) (.binOp .leq 3 (.tmp 16) (.tmp 17) 3) none,
  .mk (some 19) (.move (.tmp 18)) none,
  .mk (some 20) (.fieldAddr 67 (.tmp 5) 1) (some (19, false)),
  .mk (some 21) (.load 3 (.tmp 20)) (some (19, false)),
  .mk (some 22) (.fieldAddr 67 (.tmp 5) 0) (some (19, false)),
  .mk (some 23) (.load 3 (.tmp 22)) (some (19, false)),
  .mk (some 24) (.binOp .lss 3 (.tmp 21) (.tmp 23) 3) (some (19, false)),
  .mk (some 25) (.pick (.tmp 19) (.const (.bool true)) (.tmp 24)) none,
  .mk (some 26) (.move (.tmp 25)) none,
  .mk (some 27) (.fieldAddr 67 (.tmp 5) 1) (some (26, false)),
  .mk (some 28) (.load 3 (.tmp 27)) (some (26, false)),
  .mk (some 29) (.binOp .gtr 3 (.tmp 28) (.const (.int .i64 1114111)) 3) (some (26, false)),
  .mk (some 30) (.pick (.tmp 26) (.const (.bool true)) (.tmp 29)) none]
def r33_8 : List PS := [.mk (some 2) (.assign (.const (.int .i64 10))) none]
def r33_9 : List PS := [.mk (some 31) (.fieldAddr 67 (.tmp 5) 1) none,
  .mk (some 32) (.load 3 (.tmp 31)) none,
  .mk (some 3) (.assign (.tmp 32)) none]
def r33_10 : List PS := [.mk (some 33) (.binOp .add 3 (.tmp 11) (.const (.int .i64 1)) 3) none,
  .mk (some 11) (.move (.tmp 33)) none]
def r33_11 : List PS := [.mk (some 2) (.assign (.const (.int .i64 0))) none]
def c33 : PC := (.seq (.reg false r33_0) (.seq (.seq (.reg false r33_1) (.cond (.tmp 8) (.seq (.reg false r33_2) .ret) .skip)) (.seq (.reg false r33_3) (.seq (.seq (.reg false r33_4) (.block 0 (.loop (.seq (.reg false r33_5) (.seq (.cond (.tmp 12) .skip (.exit 0)) (.seq (.block 1 (.seq (.reg false r33_6) (.seq (.seq (.reg false r33_7) (.cond (.tmp 30) (.seq (.reg false r33_8) .ret) .skip)) (.reg false r33_9)))) (.reg false r33_10))))))) (.seq (.reg false r33_11) .ret)))))
theorem e33 {args : List PV} {h : Heap} {K : PV → Heap → Prop} (hl : args.length = 1) (s : pwp Try.prog [5] c33 (fin Try.prog [.tmp 2] h K) (slots0 (olds args)) h) : CanP Try.prog 33 args h K :=
  can_of2 (n := 34) mixed Try.func33 rfl (by kernel_rfl) (by rw [hl]; kernel_rfl) rfl (by kernel_rfl) s
/-! ### naskh.trie.even: function 56 -/
def r56_0 : List PS := [.mk (some 2) (.alloc 62) none]
def r56_1 : List PS := [.mk (some 3) (.alloc 62) none]
def r56_2 : List PS := [.mk (some 5) (.move (.const (.int .i64 0))) none]
def r56_3 : List PS := [.mk (some 6) (.binOp .lss 3 (.tmp 5) (.const (.int .i64 128)) 3) none]
def r56_4 : List PS := [.mk (some 7) (.move (.tmp 5)) none,
  .mk (some 4) (.assign (.tmp 7)) none]
def r56_5 : List PS := [.mk (some 8) (.move (.tmp 4)) none,
  .mk (some 9) (.move (.tmp 0)) none,
  .mk (some 10) (.indexAddr 62 (.tmp 3) (.tmp 8)) none,
  .mk none (.store 3 (.tmp 10) (.tmp 9)) none]
def r56_6 : List PS := [.mk (some 11) (.binOp .add 3 (.tmp 5) (.const (.int .i64 1)) 3) none,
  .mk (some 5) (.move (.tmp 11)) none]
def r56_7 : List PS := [.mk (some 12) (.load 62 (.tmp 3)) none,
  .mk none (.store 62 (.tmp 2) (.tmp 12)) none]
def c56 : PC := (.seq (.reg false r56_0) (.seq (.reg false r56_1) (.seq (.seq (.reg false r56_2) (.block 0 (.loop (.seq (.reg false r56_3) (.seq (.cond (.tmp 6) .skip (.exit 0)) (.seq (.block 1 (.seq (.reg false r56_4) (.reg false r56_5))) (.reg false r56_6))))))) (.seq (.reg false r56_7) .ret))))
theorem e56 {args : List PV} {h : Heap} {K : PV → Heap → Prop} (hl : args.length = 1) (s : pwp Try.prog [2, 3] c56 (fin Try.prog [.cell 2 62] h K) (slots0 (olds args)) h) : CanP Try.prog 56 args h K :=
  can_of2 (n := 13) mixed Try.func56 rfl (by kernel_rfl) (by rw [hl]; kernel_rfl) rfl (by kernel_rfl) s
/-! ### naskh.trie.filled: function 34 -/
def r34_0 : List PS := [.mk (some 8) (.alloc 62) none,
  .mk (some 9) (.assign (.const (.int .i64 0))) none]
def r34_1 : List PS := [.mk (some 14) (.move (.tmp 3)) none,
  .mk (some 15) (.call ⟨(.value (.func 56)), #[(.tmp 14)], #[3]⟩) none,
  .mk (some 10) (.alloc 62) none,
  .mk none (.store 62 (.tmp 10) (.tmp 15)) none]
def r34_2 : List PS := [.mk (some 16) (.move (.tmp 1)) none,
  .mk (some 17) (.binOp .mul 3 (.tmp 16) (.const (.int .i64 128)) 3) none,
  .mk (some 11) (.assign (.tmp 17)) none]
def r34_3 : List PS := [.mk (some 18) (.move (.tmp 2)) none,
  .mk (some 19) (.move (.tmp 0)) none,
  .mk (some 20) (.call ⟨(.builtin .len), #[(.tmp 19)], #[39]⟩) none,
  .mk (some 21) (.binOp .lss 3 (.tmp 18) (.tmp 20) 3) none,
  .mk (some 22) (.move (.tmp 21)) none,
  .mk (some 23) (.move (.tmp 0)) (some (22, true)),
  .mk (some 24) (.move (.tmp 2)) (some (22, true)),
  .mk (some 25) (.indexAddr 39 (.tmp 23) (.tmp 24)) (some (22, true)),
  .mk (some 26) (.fieldAddr 67 (.tmp 25) 0) (some (22, true)),
  .mk (some 27) (.load 3 (.tmp 26)) (some (22, true)),
  .mk (some 28) (.move (.tmp 11)) (some (22, true)),
  .mk (some 29) (.binOp .add 3 (.tmp 28) (.const (.int .i64 128)) 3) (some (22, true)),
  .mk (some 30) (.binOp .lss 3 (.tmp 27) (.tmp 29) 3) (some (22, true)),
  .mk (some 31) (.pick (.tmp 22) (.tmp 30) (.const (.bool false))) none]
def r34_4 : List PS := [.mk (some 34) (.move (.tmp 0)) none,
  .mk (some 35) (.move (.tmp 2)) none,
  .mk (some 36) (.indexAddr 39 (.tmp 34) (.tmp 35)) none,
  .mk (some 37) (.load 67 (.tmp 36)) none,
  .mk (some 12) (.alloc 67) none,
  .mk none (.store 67 (.tmp 12) (.tmp 37)) none,
  .frz 12]
def r34_5 : List PS := [.mk (some 38) (.fieldAddr 67 (.tmp 12) 0) none,
  .mk (some 39) (.load 3 (.tmp 38)) none,
  .mk (some 40) (.move (.tmp 11)) none,
  .mk (some 41) (.call ⟨(.builtin .max), #[(.tmp 39), (.tmp 40)], #[3, 3]⟩) none,
  .mk (some 13) (.assign (.tmp 41)) none]
def r34_6 : List PS := [.mk (some 42) (.move (.tmp 13)) none,
  .mk (some 43) (.fieldAddr 67 (.tmp 12) 1) none,
  .mk (some 44) (.load 3 (.tmp 43)) none,
  .mk (some 45) (.move (.tmp 11)) none,
  .mk (some 46) (.binOp .add 3 (.tmp 45) (.const (.int .i64 128)) 3) none,
  .mk (some 47) (.binOp .sub 3 (.tmp 46) (.const (.int .i64 1)) 3) none,
  .mk (some 48) (.call ⟨(.builtin .min), #[(.tmp 44), (.tmp 47)], #[3, 3]⟩) none,
  .mk (some 49) (.binOp .leq 3 (.tmp 42) (.tmp 48) 3) none]
def r34_7 : List PS := [.mk (some 52) (.move (.tmp 13)) none,
  .mk (some 53) (.move (.tmp 11)) none,
  .mk (some 54) (.binOp .sub 3 (.tmp 52) (.tmp 53) 3) none,
  .mk (some 55) (.fieldAddr 67 (.tmp 12) 2) none,
  .mk (some 56) (.load 3 (.tmp 55)) none,
  .mk (some 57) (.indexAddr 62 (.tmp 10) (.tmp 54)) none,
  .mk none (.store 3 (.tmp 57) (.tmp 56)) none]
def r34_8 : List PS := [.mk (some 50) (.move (.tmp 13)) none,
  .mk (some 51) (.binOp .add 3 (.tmp 50) (.const (.int .i64 1)) 3) none,
  .mk (some 13) (.assign (.tmp 51)) none]
def r34_9 : List PS := [.mk (some 58) (.fieldAddr 67 (.tmp 12) 1) none,
  .mk (some 59) (.load 3 (.tmp 58)) none,
  .mk (some 60) (.move (.tmp 11)) none,
  .mk (some 61) (.binOp .add 3 (.tmp 60) (.const (.int .i64 128)) 3) none,
  .mk (some 62) (.binOp .geq 3 (.tmp 59) (.tmp 61) 3) none]
def r34_10 : List PS := [.mk (some 32) (.move (.tmp 2)) none,
  .mk (some 33) (.binOp .add 3 (.tmp 32) (.const (.int .i64 1)) 3) none,
  .mk (some 2) (.assign (.tmp 33)) none]
def r34_11 : List PS := [.mk (some 63) (.load 62 (.tmp 10)) none,
  .mk (some 64) (.move (.tmp 2)) none,
  .mk none (.store 62 (.tmp 8) (.tmp 63)) none,
  .mk (some 9) (.assign (.tmp 64)) none]
def c34 : PC := (.seq (.reg false r34_0) (.seq (.reg false r34_1) (.seq (.reg false r34_2) (.seq (.block 0 (.loop (.seq (.seq (.reg false r34_3) (.cond (.tmp 31) .skip (.exit 0))) (.seq (.block 1 (.seq (.reg false r34_4) (.seq (.seq (.reg false r34_5) (.block 2 (.loop (.seq (.seq (.reg false r34_6) (.cond (.tmp 49) .skip (.exit 2))) (.seq (.block 3 (.reg false r34_7)) (.reg false r34_8)))))) (.seq (.reg false r34_9) (.cond (.tmp 62) (.exit 0) .skip))))) (.reg false r34_10))))) (.seq (.reg false r34_11) .ret)))))
theorem e34 {args : List PV} {h : Heap} {K : PV → Heap → Prop} (hl : args.length = 4) (s : pwp Try.prog [8, 10, 12] c34 (fin Try.prog [.cell 8 62, .tmp 9] h K) (slots0 (olds args)) h) : CanP Try.prog 34 args h K :=
  can_of2 (n := 65) mixed Try.func34 rfl (by kernel_rfl) (by rw [hl]; kernel_rfl) rfl (by kernel_rfl) s
/-! ### (*naskh.trie.stages).add: function 35 -/
def r35_0 : List PS := [.mk (some 3) (.box 62 (.tmp 1)) none,
  .mk (some 4) (.assign (.const (.int .i64 0))) none]
def r35_1 : List PS := [.mk (some 6) (.move (.tmp 0)) none,
  .mk (some 7) (.nilCheck (.tmp 6)) none,
  .mk (some 8) (.fieldAddr 58 (.tmp 7) 1) none,
  .mk (some 9) (.load 56 (.tmp 8)) none,
  .mk (some 10) (.call ⟨(.builtin .len), #[(.tmp 9)], #[56]⟩) none,
  .mk (some 11) (.move (.const (.int .i64 0))) none]
def r35_2 : List PS := [.mk (some 12) (.binOp .lss 3 (.tmp 11) (.tmp 10) 3) none]
def r35_3 : List PS := [.mk (some 13) (.move (.tmp 11)) none,
  .mk (some 5) (.assign (.tmp 13)) none]
def r35_4 : List PS := [.mk (some 14) (.move (.tmp 0)) none,
  .mk (some 15) (.nilCheck (.tmp 14)) none,
  .mk (some 16) (.fieldAddr 58 (.tmp 15) 1) none,
  .mk (some 17) (.load 56 (.tmp 16)) none,
  .mk (some 18) (.move (.tmp 5)) none,
  .mk (some 19) (.indexAddr 56 (.tmp 17) (.tmp 18)) none,
  .mk (some 20) (.load 62 (.tmp 19)) none,
  .mk (some 21) (.load 62 (.tmp 3)) none,
  .mk (some 22) (.binOp .eql 62 (.tmp 20) (.tmp 21) 62) none]
def r35_5 : List PS := [.mk (some 23) (.move (.tmp 5)) none,
  .mk (some 4) (.assign (.tmp 23)) none]
def r35_6 : List PS := [.mk (some 24) (.binOp .add 3 (.tmp 11) (.const (.int .i64 1)) 3) none,
  .mk (some 11) (.move (.tmp 24)) none]
def r35_7 : List PS := [.mk (some 25) (.move (.tmp 0)) none,
  .mk (some 26) (.move (.tmp 0)) none,
  .mk (some 27) (.nilCheck (.tmp 26)) none,
  .mk (some 28) (.fieldAddr 58 (.tmp 27) 1) none,
  .mk (some 29) (.load 56 (.tmp 28)) none,
  .mk (some 30) (.load 62 (.tmp 3)) none,
  .mk (some 31) (.buildSlice 56 1 #[(0, (.tmp 30))]) none,
  .mk (some 32) (.call ⟨(.builtin .append), #[(.tmp 29), (.tmp 31)], #[56, 56]⟩) none,
  .mk (some 33) (.nilCheck (.tmp 25)) none,
  .mk (some 34) (.fieldAddr 58 (.tmp 33) 1) none,
  .mk none (.store 56 (.tmp 34) (.tmp 32)) none]
def r35_8 : List PS := [.mk (some 35) (.move (.tmp 0)) none,
  .mk (some 36) (.nilCheck (.tmp 35)) none,
  .mk (some 37) (.fieldAddr 58 (.tmp 36) 1) none,
  .mk (some 38) (.load 56 (.tmp 37)) none,
  .mk (some 39) (.call ⟨(.builtin .len), #[(.tmp 38)], #[56]⟩) none,
  .mk (some 40) (.binOp .sub 3 (.tmp 39) (.const (.int .i64 1)) 3) none,
  .mk (some 4) (.assign (.tmp 40)) none]
def c35 : PC := (.seq (.reg false r35_0) (.seq (.seq (.reg false r35_1) (.block 0 (.loop (.seq (.reg false r35_2) (.seq (.cond (.tmp 12) .skip (.exit 0)) (.seq (.block 1 (.seq (.reg false r35_3) (.seq (.reg true r35_4) (.cond (.tmp 22) (.seq (.reg false r35_5) .ret) .skip)))) (.reg false r35_6))))))) (.seq (.reg true r35_7) (.seq (.reg false r35_8) .ret))))
theorem e35 {args : List PV} {h : Heap} {K : PV → Heap → Prop} (hl : args.length = 2) (s : pwp Try.prog [] c35 (fin Try.prog [.tmp 4] h K) (slots0 (olds args)) h) : CanP Try.prog 35 args h K :=
  can_of2 (n := 41) mixed Try.func35 rfl (by kernel_rfl) (by rw [hl]; kernel_rfl) rfl (by kernel_rfl) s
/-! ### naskh.trie.Build: function 22 -/
def r22_0 : List PS := [.mk (some 4) (.assign (.const (.pointer none))) none,
  .mk (some 5) (.assign (.const (.int .i64 0))) none]
def r22_1 : List PS := [.mk (some 13) (.move (.tmp 0)) none,
  .mk (some 14) (.call ⟨(.value (.func 33)), #[(.tmp 13)], #[39]⟩) none,
  .mk (some 6) (.assign (.tmp 14)) none]
def r22_2 : List PS := [.mk (some 15) (.move (.tmp 6)) none,
  .mk (some 16) (.binOp .neq 36 (.tmp 15) (.const (.int .i64 0)) 36) none]
def r22_3 : List PS := [.mk (some 17) (.move (.tmp 6)) none,
  .mk (some 4) (.assign (.const (.pointer none))) none,
  .mk (some 5) (.assign (.tmp 17)) none]
def r22_4 : List PS := [.mk (some 18) (.move (.tmp 1)) none,
  .mk (some 19) (.build 60 #[(1, (.tmp 18)), (2, (.const (.bool true)))]) none,
  .mk (some 20) (.box 60 (.tmp 19)) none,
  .mk (some 7) (.assign (.tmp 20)) none]
def r22_5 : List PS := [.mk (some 21) (.move (.tmp 7)) none,
  .mk (some 22) (.makeSlice 22 (.const (.int .i64 8704)) (.const (.int .i64 8704))) none,
  .mk (some 23) (.nilCheck (.tmp 21)) none,
  .mk (some 24) (.fieldAddr 60 (.tmp 23) 0) none,
  .mk (some 25) (.fieldAddr 58 (.tmp 24) 0) none,
  .mk none (.store 22 (.tmp 25) (.tmp 22)) none]
def r22_6 : List PS := [.mk (some 8) (.assign (.const (.int .i64 0))) none]
def r22_7 : List PS := [.mk (some 26) (.build 62 #[]) none,
  .mk (some 9) (.alloc 62) none,
  .mk none (.store 62 (.tmp 9) (.tmp 26)) none,
  .mk (some 10) (.assign (.const (.int .i64 (-1)))) none]
def r22_8 : List PS := [.mk (some 27) (.move (.const (.int .i64 0))) none]
def r22_9 : List PS := [.mk (some 28) (.binOp .lss 3 (.tmp 27) (.const (.int .i64 8704)) 3) none]
def r22_10 : List PS := [.mk (some 29) (.move (.tmp 27)) none,
  .mk (some 11) (.assign (.tmp 29)) none]
def r22_11 : List PS := [.mk (some 12) (.alloc 62) none]
def r22_12 : List PS := [.mk (some 31) (.move (.tmp 0)) none,
  .mk (some 32) (.move (.tmp 11)) none,
  .mk (some 33) (.move (.tmp 8)) none,
  .mk (some 34) (.move (.tmp 1)) none,
  .mk (some 35) (.call ⟨(.value (.func 34)), #[(.tmp 31), (.tmp 32), (.tmp 33), (.tmp 34)], #[39, 3, 3, 3]⟩) none,
  .mk (some 30) (.move (.tmp 35)) none,
  .mk (some 36) (.extract (.tmp 30) 0) none,
  .mk (some 37) (.extract (.tmp 30) 1) none,
  .mk none (.store 62 (.tmp 12) (.tmp 36)) none,
  .frz 12,
  .mk (some 8) (.assign (.tmp 37)) none]
def r22_13 : List PS := [.mk (some 38) (.move (.tmp 10)) none,
  .mk (some 39) (.binOp .lss 3 (.tmp 38) (.const (.int .i64 0)) 3) none,
  .mk (some 40) (.move (.tmp 39)) none,
  .mk (some 41) (.load 62 (.tmp 12)) (some (40, false)),
  .mk (some 42) (.load 62 (.tmp 9)) (some (40, false)),
  .mk (some 43) (.binOp .neq 62 (.tmp 41) (.tmp 42) 62) (some (40, false)),
  .mk (some 44) (.pick (.tmp 40) (.const (.bool true)) (.tmp 43)) none]
def r22_14 : List PS := [.mk (some 45) (.load 62 (.tmp 12)) none,
  .mk (some 46) (.move (.tmp 7)) none,
  .mk (some 47) (.nilCheck (.tmp 46)) none,
  .mk (some 48) (.fieldAddr 60 (.tmp 47) 0) none,
  .mk (some 49) (.load 62 (.tmp 12)) none,
  .mk (some 50) (.call ⟨(.value (.func 35)), #[(.tmp 48), (.tmp 49)], #[58, 62]⟩) none,
  .mk none (.store 62 (.tmp 9) (.tmp 45)) none,
  .mk (some 10) (.assign (.tmp 50)) none]
def r22_15 : List PS := [.mk (some 51) (.move (.tmp 7)) none,
  .mk (some 52) (.nilCheck (.tmp 51)) none,
  .mk (some 53) (.fieldAddr 60 (.tmp 52) 0) none,
  .mk (some 54) (.fieldAddr 58 (.tmp 53) 0) none,
  .mk (some 55) (.load 22 (.tmp 54)) none,
  .mk (some 56) (.move (.tmp 11)) none,
  .mk (some 57) (.move (.tmp 10)) none,
  .mk (some 58) (.indexAddr 22 (.tmp 55) (.tmp 56)) none,
  .mk none (.store 3 (.tmp 58) (.tmp 57)) none]
def r22_16 : List PS := [.mk (some 59) (.binOp .add 3 (.tmp 27) (.const (.int .i64 1)) 3) none,
  .mk (some 27) (.move (.tmp 59)) none]
def r22_17 : List PS := [.frzc 7 0,
  .frzc 7 1,
  .mk (some 60) (.move (.tmp 7)) none,
  .mk (some 4) (.assign (.tmp 60)) none,
  .mk (some 5) (.assign (.const (.int .i64 0))) none]
def c22 : PC := (.seq (.reg false r22_0) (.seq (.seq (.reg false r22_1) (.seq (.reg false r22_2) (.cond (.tmp 16) (.seq (.reg false r22_3) .ret) .skip))) (.seq (.reg false r22_4) (.seq (.reg false r22_5) (.seq (.reg false r22_6) (.seq (.reg false r22_7) (.seq (.seq (.reg false r22_8) (.block 0 (.loop (.seq (.reg false r22_9) (.seq (.cond (.tmp 28) .skip (.exit 0)) (.seq (.block 1 (.seq (.reg false r22_10) (.seq (.reg false r22_11) (.seq (.reg false r22_12) (.seq (.seq (.reg false r22_13) (.cond (.tmp 44) (.reg true r22_14) .skip)) (.reg false r22_15)))))) (.reg false r22_16))))))) (.seq (.reg false r22_17) .ret))))))))
theorem e22 {args : List PV} {h : Heap} {K : PV → Heap → Prop} (hl : args.length = 2) (s : pwp Try.prog [9, 12, 20, 45, 50] c22 (fin Try.prog [.tmp 4, .tmp 5] h K) (slots0 (olds args)) h) : CanP Try.prog 22 args h K :=
  can_of2 (n := 61) mixed Try.func22 rfl (by kernel_rfl) (by rw [hl]; kernel_rfl) rfl (by kernel_rfl) s
/-! ### naskh.api.Combining: function 23 -/
def r23_0 : List PS := [.mk (some 0) (.assign (.const (.slice none 0 0))) none]
def r23_1 : List PS := [.mk (some 1) (.build 67 #[(0, (.const (.int .i64 768))), (1, (.const (.int .i64 788))), (2, (.const (.int .i64 230)))]) none,
  .mk (some 2) (.build 67 #[(0, (.const (.int .i64 789))), (1, (.const (.int .i64 789))), (2, (.const (.int .i64 232)))]) none,
  .mk (some 3) (.build 67 #[(0, (.const (.int .i64 790))), (1, (.const (.int .i64 793))), (2, (.const (.int .i64 220)))]) none,
  .mk (some 4) (.build 67 #[(0, (.const (.int .i64 794))), (1, (.const (.int .i64 794))), (2, (.const (.int .i64 232)))]) none,
  .mk (some 5) (.build 67 #[(0, (.const (.int .i64 795))), (1, (.const (.int .i64 795))), (2, (.const (.int .i64 216)))]) none,
  .mk (some 6) (.build 67 #[(0, (.const (.int .i64 796))), (1, (.const (.int .i64 800))), (2, (.const (.int .i64 220)))]) none,
  .mk (some 7) (.build 67 #[(0, (.const (.int .i64 801))), (1, (.const (.int .i64 802))), (2, (.const (.int .i64 202)))]) none,
  .mk (some 8) (.build 67 #[(0, (.const (.int .i64 803))), (1, (.const (.int .i64 806))), (2, (.const (.int .i64 220)))]) none,
  .mk (some 9) (.build 67 #[(0, (.const (.int .i64 807))), (1, (.const (.int .i64 808))), (2, (.const (.int .i64 202)))]) none,
  .mk (some 10) (.build 67 #[(0, (.const (.int .i64 809))), (1, (.const (.int .i64 819))), (2, (.const (.int .i64 220)))]) none,
  .mk (some 11) (.build 67 #[(0, (.const (.int .i64 820))), (1, (.const (.int .i64 824))), (2, (.const (.int .i64 1)))]) none,
  .mk (some 12) (.build 67 #[(0, (.const (.int .i64 825))), (1, (.const (.int .i64 828))), (2, (.const (.int .i64 220)))]) none,
  .mk (some 13) (.build 67 #[(0, (.const (.int .i64 829))), (1, (.const (.int .i64 836))), (2, (.const (.int .i64 230)))]) none,
  .mk (some 14) (.build 67 #[(0, (.const (.int .i64 837))), (1, (.const (.int .i64 837))), (2, (.const (.int .i64 240)))]) none,
  .mk (some 15) (.build 67 #[(0, (.const (.int .i64 838))), (1, (.const (.int .i64 838))), (2, (.const (.int .i64 230)))]) none,
  .mk (some 16) (.build 67 #[(0, (.const (.int .i64 839))), (1, (.const (.int .i64 841))), (2, (.const (.int .i64 220)))]) none,
  .mk (some 17) (.build 67 #[(0, (.const (.int .i64 842))), (1, (.const (.int .i64 844))), (2, (.const (.int .i64 230)))]) none,
  .mk (some 18) (.build 67 #[(0, (.const (.int .i64 845))), (1, (.const (.int .i64 846))), (2, (.const (.int .i64 220)))]) none,
  .mk (some 19) (.build 67 #[(0, (.const (.int .i64 848))), (1, (.const (.int .i64 850))), (2, (.const (.int .i64 230)))]) none,
  .mk (some 20) (.build 67 #[(0, (.const (.int .i64 851))), (1, (.const (.int .i64 854))), (2, (.const (.int .i64 220)))]) none,
  .mk (some 21) (.build 67 #[(0, (.const (.int .i64 855))), (1, (.const (.int .i64 855))), (2, (.const (.int .i64 230)))]) none,
  .mk (some 22) (.build 67 #[(0, (.const (.int .i64 856))), (1, (.const (.int .i64 856))), (2, (.const (.int .i64 232)))]) none,
  .mk (some 23) (.build 67 #[(0, (.const (.int .i64 857))), (1, (.const (.int .i64 858))), (2, (.const (.int .i64 220)))]) none,
  .mk (some 24) (.build 67 #[(0, (.const (.int .i64 859))), (1, (.const (.int .i64 859))), (2, (.const (.int .i64 230)))]) none,
  .mk (some 25) (.build 67 #[(0, (.const (.int .i64 860))), (1, (.const (.int .i64 860))), (2, (.const (.int .i64 233)))]) none,
  .mk (some 26) (.build 67 #[(0, (.const (.int .i64 861))), (1, (.const (.int .i64 862))), (2, (.const (.int .i64 234)))]) none,
  .mk (some 27) (.build 67 #[(0, (.const (.int .i64 863))), (1, (.const (.int .i64 863))), (2, (.const (.int .i64 233)))]) none,
  .mk (some 28) (.build 67 #[(0, (.const (.int .i64 864))), (1, (.const (.int .i64 865))), (2, (.const (.int .i64 234)))]) none,
  .mk (some 29) (.build 67 #[(0, (.const (.int .i64 866))), (1, (.const (.int .i64 866))), (2, (.const (.int .i64 233)))]) none,
  .mk (some 30) (.build 67 #[(0, (.const (.int .i64 867))), (1, (.const (.int .i64 879))), (2, (.const (.int .i64 230)))]) none,
  .mk (some 31) (.build 67 #[(0, (.const (.int .i64 1425))), (1, (.const (.int .i64 1425))), (2, (.const (.int .i64 220)))]) none,
  .mk (some 32) (.build 67 #[(0, (.const (.int .i64 1426))), (1, (.const (.int .i64 1429))), (2, (.const (.int .i64 230)))]) none,
  .mk (some 33) (.build 67 #[(0, (.const (.int .i64 1430))), (1, (.const (.int .i64 1430))), (2, (.const (.int .i64 220)))]) none,
  .mk (some 34) (.build 67 #[(0, (.const (.int .i64 1431))), (1, (.const (.int .i64 1433))), (2, (.const (.int .i64 230)))]) none,
  .mk (some 35) (.build 67 #[(0, (.const (.int .i64 1434))), (1, (.const (.int .i64 1434))), (2, (.const (.int .i64 222)))]) none,
  .mk (some 36) (.build 67 #[(0, (.const (.int .i64 1435))), (1, (.const (.int .i64 1435))), (2, (.const (.int .i64 220)))]) none,
  .mk (some 37) (.build 67 #[(0, (.const (.int .i64 1436))), (1, (.const (.int .i64 1441))), (2, (.const (.int .i64 230)))]) none,
  .mk (some 38) (.build 67 #[(0, (.const (.int .i64 1442))), (1, (.const (.int .i64 1447))), (2, (.const (.int .i64 220)))]) none,
  .mk (some 39) (.build 67 #[(0, (.const (.int .i64 1448))), (1, (.const (.int .i64 1449))), (2, (.const (.int .i64 230)))]) none,
  .mk (some 40) (.build 67 #[(0, (.const (.int .i64 1450))), (1, (.const (.int .i64 1450))), (2, (.const (.int .i64 220)))]) none,
  .mk (some 41) (.build 67 #[(0, (.const (.int .i64 1451))), (1, (.const (.int .i64 1452))), (2, (.const (.int .i64 230)))]) none,
  .mk (some 42) (.build 67 #[(0, (.const (.int .i64 1453))), (1, (.const (.int .i64 1453))), (2, (.const (.int .i64 222)))]) none,
  .mk (some 43) (.build 67 #[(0, (.const (.int .i64 1454))), (1, (.const (.int .i64 1454))), (2, (.const (.int .i64 228)))]) none,
  .mk (some 44) (.build 67 #[(0, (.const (.int .i64 1455))), (1, (.const (.int .i64 1455))), (2, (.const (.int .i64 230)))]) none,
  .mk (some 45) (.build 67 #[(0, (.const (.int .i64 1456))), (1, (.const (.int .i64 1456))), (2, (.const (.int .i64 10)))]) none,
  .mk (some 46) (.build 67 #[(0, (.const (.int .i64 1457))), (1, (.const (.int .i64 1457))), (2, (.const (.int .i64 11)))]) none,
  .mk (some 47) (.build 67 #[(0, (.const (.int .i64 1458))), (1, (.const (.int .i64 1458))), (2, (.const (.int .i64 12)))]) none,
  .mk (some 48) (.build 67 #[(0, (.const (.int .i64 1459))), (1, (.const (.int .i64 1459))), (2, (.const (.int .i64 13)))]) none,
  .mk (some 49) (.build 67 #[(0, (.const (.int .i64 1460))), (1, (.const (.int .i64 1460))), (2, (.const (.int .i64 14)))]) none,
  .mk (some 50) (.build 67 #[(0, (.const (.int .i64 1461))), (1, (.const (.int .i64 1461))), (2, (.const (.int .i64 15)))]) none,
  .mk (some 51) (.build 67 #[(0, (.const (.int .i64 1462))), (1, (.const (.int .i64 1462))), (2, (.const (.int .i64 16)))]) none,
  .mk (some 52) (.build 67 #[(0, (.const (.int .i64 1463))), (1, (.const (.int .i64 1463))), (2, (.const (.int .i64 17)))]) none,
  .mk (some 53) (.build 67 #[(0, (.const (.int .i64 1464))), (1, (.const (.int .i64 1464))), (2, (.const (.int .i64 18)))]) none,
  .mk (some 54) (.build 67 #[(0, (.const (.int .i64 1465))), (1, (.const (.int .i64 1466))), (2, (.const (.int .i64 19)))]) none,
  .mk (some 55) (.build 67 #[(0, (.const (.int .i64 1467))), (1, (.const (.int .i64 1467))), (2, (.const (.int .i64 20)))]) none,
  .mk (some 56) (.build 67 #[(0, (.const (.int .i64 1468))), (1, (.const (.int .i64 1468))), (2, (.const (.int .i64 21)))]) none,
  .mk (some 57) (.build 67 #[(0, (.const (.int .i64 1469))), (1, (.const (.int .i64 1469))), (2, (.const (.int .i64 22)))]) none,
  .mk (some 58) (.build 67 #[(0, (.const (.int .i64 1471))), (1, (.const (.int .i64 1471))), (2, (.const (.int .i64 23)))]) none,
  .mk (some 59) (.build 67 #[(0, (.const (.int .i64 1473))), (1, (.const (.int .i64 1473))), (2, (.const (.int .i64 24)))]) none,
  .mk (some 60) (.build 67 #[(0, (.const (.int .i64 1474))), (1, (.const (.int .i64 1474))), (2, (.const (.int .i64 25)))]) none,
  .mk (some 61) (.build 67 #[(0, (.const (.int .i64 1476))), (1, (.const (.int .i64 1476))), (2, (.const (.int .i64 230)))]) none,
  .mk (some 62) (.build 67 #[(0, (.const (.int .i64 1477))), (1, (.const (.int .i64 1477))), (2, (.const (.int .i64 220)))]) none,
  .mk (some 63) (.build 67 #[(0, (.const (.int .i64 1479))), (1, (.const (.int .i64 1479))), (2, (.const (.int .i64 18)))]) none,
  .mk (some 64) (.build 67 #[(0, (.const (.int .i64 1552))), (1, (.const (.int .i64 1559))), (2, (.const (.int .i64 230)))]) none,
  .mk (some 65) (.build 67 #[(0, (.const (.int .i64 1560))), (1, (.const (.int .i64 1560))), (2, (.const (.int .i64 30)))]) none,
  .mk (some 66) (.build 67 #[(0, (.const (.int .i64 1561))), (1, (.const (.int .i64 1561))), (2, (.const (.int .i64 31)))]) none,
  .mk (some 67) (.build 67 #[(0, (.const (.int .i64 1562))), (1, (.const (.int .i64 1562))), (2, (.const (.int .i64 32)))]) none,
  .mk (some 68) (.build 67 #[(0, (.const (.int .i64 1611))), (1, (.const (.int .i64 1611))), (2, (.const (.int .i64 27)))]) none,
  .mk (some 69) (.build 67 #[(0, (.const (.int .i64 1612))), (1, (.const (.int .i64 1612))), (2, (.const (.int .i64 28)))]) none,
  .mk (some 70) (.build 67 #[(0, (.const (.int .i64 1613))), (1, (.const (.int .i64 1613))), (2, (.const (.int .i64 29)))]) none,
  .mk (some 71) (.build 67 #[(0, (.const (.int .i64 1614))), (1, (.const (.int .i64 1614))), (2, (.const (.int .i64 30)))]) none,
  .mk (some 72) (.build 67 #[(0, (.const (.int .i64 1615))), (1, (.const (.int .i64 1615))), (2, (.const (.int .i64 31)))]) none,
  .mk (some 73) (.build 67 #[(0, (.const (.int .i64 1616))), (1, (.const (.int .i64 1616))), (2, (.const (.int .i64 32)))]) none,
  .mk (some 74) (.build 67 #[(0, (.const (.int .i64 1617))), (1, (.const (.int .i64 1617))), (2, (.const (.int .i64 33)))]) none,
  .mk (some 75) (.build 67 #[(0, (.const (.int .i64 1618))), (1, (.const (.int .i64 1618))), (2, (.const (.int .i64 34)))]) none,
  .mk (some 76) (.build 67 #[(0, (.const (.int .i64 1619))), (1, (.const (.int .i64 1620))), (2, (.const (.int .i64 230)))]) none,
  .mk (some 77) (.build 67 #[(0, (.const (.int .i64 1621))), (1, (.const (.int .i64 1622))), (2, (.const (.int .i64 220)))]) none,
  .mk (some 78) (.build 67 #[(0, (.const (.int .i64 1623))), (1, (.const (.int .i64 1627))), (2, (.const (.int .i64 230)))]) none,
  .mk (some 79) (.build 67 #[(0, (.const (.int .i64 1628))), (1, (.const (.int .i64 1628))), (2, (.const (.int .i64 220)))]) none,
  .mk (some 80) (.build 67 #[(0, (.const (.int .i64 1629))), (1, (.const (.int .i64 1630))), (2, (.const (.int .i64 230)))]) none,
  .mk (some 81) (.build 67 #[(0, (.const (.int .i64 1631))), (1, (.const (.int .i64 1631))), (2, (.const (.int .i64 220)))]) none,
  .mk (some 82) (.build 67 #[(0, (.const (.int .i64 1648))), (1, (.const (.int .i64 1648))), (2, (.const (.int .i64 35)))]) none,
  .mk (some 83) (.build 67 #[(0, (.const (.int .i64 1750))), (1, (.const (.int .i64 1756))), (2, (.const (.int .i64 230)))]) none,
  .mk (some 84) (.build 67 #[(0, (.const (.int .i64 1759))), (1, (.const (.int .i64 1762))), (2, (.const (.int .i64 230)))]) none,
  .mk (some 85) (.build 67 #[(0, (.const (.int .i64 1763))), (1, (.const (.int .i64 1763))), (2, (.const (.int .i64 220)))]) none,
  .mk (some 86) (.build 67 #[(0, (.const (.int .i64 1764))), (1, (.const (.int .i64 1764))), (2, (.const (.int .i64 230)))]) none,
  .mk (some 87) (.build 67 #[(0, (.const (.int .i64 1767))), (1, (.const (.int .i64 1768))), (2, (.const (.int .i64 230)))]) none,
  .mk (some 88) (.build 67 #[(0, (.const (.int .i64 1770))), (1, (.const (.int .i64 1770))), (2, (.const (.int .i64 220)))]) none,
  .mk (some 89) (.build 67 #[(0, (.const (.int .i64 1771))), (1, (.const (.int .i64 1772))), (2, (.const (.int .i64 230)))]) none,
  .mk (some 90) (.build 67 #[(0, (.const (.int .i64 1773))), (1, (.const (.int .i64 1773))), (2, (.const (.int .i64 220)))]) none,
  .mk (some 91) (.build 67 #[(0, (.const (.int .i64 1809))), (1, (.const (.int .i64 1809))), (2, (.const (.int .i64 36)))]) none,
  .mk (some 92) (.build 67 #[(0, (.const (.int .i64 1840))), (1, (.const (.int .i64 1840))), (2, (.const (.int .i64 230)))]) none,
  .mk (some 93) (.build 67 #[(0, (.const (.int .i64 1841))), (1, (.const (.int .i64 1841))), (2, (.const (.int .i64 220)))]) none,
  .mk (some 94) (.build 67 #[(0, (.const (.int .i64 1842))), (1, (.const (.int .i64 1843))), (2, (.const (.int .i64 230)))]) none,
  .mk (some 95) (.build 67 #[(0, (.const (.int .i64 1844))), (1, (.const (.int .i64 1844))), (2, (.const (.int .i64 220)))]) none,
  .mk (some 96) (.build 67 #[(0, (.const (.int .i64 1845))), (1, (.const (.int .i64 1846))), (2, (.const (.int .i64 230)))]) none,
  .mk (some 97) (.build 67 #[(0, (.const (.int .i64 1847))), (1, (.const (.int .i64 1849))), (2, (.const (.int .i64 220)))]) none,
  .mk (some 98) (.build 67 #[(0, (.const (.int .i64 1850))), (1, (.const (.int .i64 1850))), (2, (.const (.int .i64 230)))]) none,
  .mk (some 99) (.build 67 #[(0, (.const (.int .i64 1851))), (1, (.const (.int .i64 1852))), (2, (.const (.int .i64 220)))]) none,
  .mk (some 100) (.build 67 #[(0, (.const (.int .i64 1853))), (1, (.const (.int .i64 1853))), (2, (.const (.int .i64 230)))]) none,
  .mk (some 101) (.build 67 #[(0, (.const (.int .i64 1854))), (1, (.const (.int .i64 1854))), (2, (.const (.int .i64 220)))]) none,
  .mk (some 102) (.build 67 #[(0, (.const (.int .i64 1855))), (1, (.const (.int .i64 1857))), (2, (.const (.int .i64 230)))]) none,
  .mk (some 103) (.build 67 #[(0, (.const (.int .i64 1858))), (1, (.const (.int .i64 1858))), (2, (.const (.int .i64 220)))]) none,
  .mk (some 104) (.build 67 #[(0, (.const (.int .i64 1859))), (1, (.const (.int .i64 1859))), (2, (.const (.int .i64 230)))]) none,
  .mk (some 105) (.build 67 #[(0, (.const (.int .i64 1860))), (1, (.const (.int .i64 1860))), (2, (.const (.int .i64 220)))]) none,
  .mk (some 106) (.build 67 #[(0, (.const (.int .i64 1861))), (1, (.const (.int .i64 1861))), (2, (.const (.int .i64 230)))]) none,
  .mk (some 107) (.build 67 #[(0, (.const (.int .i64 1862))), (1, (.const (.int .i64 1862))), (2, (.const (.int .i64 220)))]) none,
  .mk (some 108) (.build 67 #[(0, (.const (.int .i64 1863))), (1, (.const (.int .i64 1863))), (2, (.const (.int .i64 230)))]) none,
  .mk (some 109) (.build 67 #[(0, (.const (.int .i64 1864))), (1, (.const (.int .i64 1864))), (2, (.const (.int .i64 220)))]) none,
  .mk (some 110) (.build 67 #[(0, (.const (.int .i64 1865))), (1, (.const (.int .i64 1866))), (2, (.const (.int .i64 230)))]) none,
  .mk (some 111) (.build 67 #[(0, (.const (.int .i64 2259))), (1, (.const (.int .i64 2259))), (2, (.const (.int .i64 220)))]) none,
  .mk (some 112) (.build 67 #[(0, (.const (.int .i64 2260))), (1, (.const (.int .i64 2273))), (2, (.const (.int .i64 230)))]) none,
  .mk (some 113) (.build 67 #[(0, (.const (.int .i64 2275))), (1, (.const (.int .i64 2275))), (2, (.const (.int .i64 220)))]) none,
  .mk (some 114) (.build 67 #[(0, (.const (.int .i64 2276))), (1, (.const (.int .i64 2277))), (2, (.const (.int .i64 230)))]) none,
  .mk (some 115) (.build 67 #[(0, (.const (.int .i64 2278))), (1, (.const (.int .i64 2278))), (2, (.const (.int .i64 220)))]) none,
  .mk (some 116) (.build 67 #[(0, (.const (.int .i64 2279))), (1, (.const (.int .i64 2280))), (2, (.const (.int .i64 230)))]) none,
  .mk (some 117) (.build 67 #[(0, (.const (.int .i64 2281))), (1, (.const (.int .i64 2281))), (2, (.const (.int .i64 220)))]) none,
  .mk (some 118) (.build 67 #[(0, (.const (.int .i64 2282))), (1, (.const (.int .i64 2284))), (2, (.const (.int .i64 230)))]) none,
  .mk (some 119) (.build 67 #[(0, (.const (.int .i64 2285))), (1, (.const (.int .i64 2287))), (2, (.const (.int .i64 220)))]) none,
  .mk (some 120) (.build 67 #[(0, (.const (.int .i64 2288))), (1, (.const (.int .i64 2288))), (2, (.const (.int .i64 27)))]) none,
  .mk (some 121) (.build 67 #[(0, (.const (.int .i64 2289))), (1, (.const (.int .i64 2289))), (2, (.const (.int .i64 28)))]) none,
  .mk (some 122) (.build 67 #[(0, (.const (.int .i64 2290))), (1, (.const (.int .i64 2290))), (2, (.const (.int .i64 29)))]) none,
  .mk (some 123) (.build 67 #[(0, (.const (.int .i64 2291))), (1, (.const (.int .i64 2293))), (2, (.const (.int .i64 230)))]) none,
  .mk (some 124) (.build 67 #[(0, (.const (.int .i64 2294))), (1, (.const (.int .i64 2294))), (2, (.const (.int .i64 220)))]) none,
  .mk (some 125) (.build 67 #[(0, (.const (.int .i64 2295))), (1, (.const (.int .i64 2296))), (2, (.const (.int .i64 230)))]) none,
  .mk (some 126) (.build 67 #[(0, (.const (.int .i64 2297))), (1, (.const (.int .i64 2298))), (2, (.const (.int .i64 220)))]) none,
  .mk (some 127) (.build 67 #[(0, (.const (.int .i64 2299))), (1, (.const (.int .i64 2303))), (2, (.const (.int .i64 230)))]) none,
  .mk (some 128) (.build 67 #[(0, (.const (.int .i64 8400))), (1, (.const (.int .i64 8401))), (2, (.const (.int .i64 230)))]) none,
  .mk (some 129) (.build 67 #[(0, (.const (.int .i64 64286))), (1, (.const (.int .i64 64286))), (2, (.const (.int .i64 26)))]) none,
  .mk (some 130) (.build 67 #[(0, (.const (.int .i64 65056))), (1, (.const (.int .i64 65062))), (2, (.const (.int .i64 230)))]) none,
  .mk (some 131) (.build 67 #[(0, (.const (.int .i64 65063))), (1, (.const (.int .i64 65069))), (2, (.const (.int .i64 220)))]) none,
  .mk (some 132) (.build 67 #[(0, (.const (.int .i64 65070))), (1, (.const (.int .i64 65071))), (2, (.const (.int .i64 230)))]) none,
  .mk (some 133) (.buildSlice 39 132 #[(0, (.tmp 1)), (1, (.tmp 2)), (2, (.tmp 3)), (3, (.tmp 4)), (4, (.tmp 5)), (5, (.tmp 6)), (6, (.tmp 7)), (7, (.tmp 8)), (8, (.tmp 9)), (9, (.tmp 10)), (10, (.tmp 11)), (11, (.tmp 12)), (12, (.tmp 13)), (13, (.tmp 14)), (14, (.tmp 15)), (15, (.tmp 16)), (16, (.tmp 17)), (17, (.tmp 18)), (18, (.tmp 19)), (19, (.tmp 20)), (20, (.tmp 21)), (21, (.tmp 22)), (22, (.tmp 23)), (23, (.tmp 24)), (24, (.tmp 25)), (25, (.tmp 26)), (26, (.tmp 27)), (27, (.tmp 28)), (28, (.tmp 29)), (29, (.tmp 30)), (30, (.tmp 31)), (31, (.tmp 32)), (32, (.tmp 33)), (33, (.tmp 34)), (34, (.tmp 35)), (35, (.tmp 36)), (36, (.tmp 37)), (37, (.tmp 38)), (38, (.tmp 39)), (39, (.tmp 40)), (40, (.tmp 41)), (41, (.tmp 42)), (42, (.tmp 43)), (43, (.tmp 44)), (44, (.tmp 45)), (45, (.tmp 46)), (46, (.tmp 47)), (47, (.tmp 48)), (48, (.tmp 49)), (49, (.tmp 50)), (50, (.tmp 51)), (51, (.tmp 52)), (52, (.tmp 53)), (53, (.tmp 54)), (54, (.tmp 55)), (55, (.tmp 56)), (56, (.tmp 57)), (57, (.tmp 58)), (58, (.tmp 59)), (59, (.tmp 60)), (60, (.tmp 61)), (61, (.tmp 62)), (62, (.tmp 63)), (63, (.tmp 64)), (64, (.tmp 65)), (65, (.tmp 66)), (66, (.tmp 67)), (67, (.tmp 68)), (68, (.tmp 69)), (69, (.tmp 70)), (70, (.tmp 71)), (71, (.tmp 72)), (72, (.tmp 73)), (73, (.tmp 74)), (74, (.tmp 75)), (75, (.tmp 76)), (76, (.tmp 77)), (77, (.tmp 78)), (78, (.tmp 79)), (79, (.tmp 80)), (80, (.tmp 81)), (81, (.tmp 82)), (82, (.tmp 83)), (83, (.tmp 84)), (84, (.tmp 85)), (85, (.tmp 86)), (86, (.tmp 87)), (87, (.tmp 88)), (88, (.tmp 89)), (89, (.tmp 90)), (90, (.tmp 91)), (91, (.tmp 92)), (92, (.tmp 93)), (93, (.tmp 94)), (94, (.tmp 95)), (95, (.tmp 96)), (96, (.tmp 97)), (97, (.tmp 98)), (98, (.tmp 99)), (99, (.tmp 100)), (100, (.tmp 101)), (101, (.tmp 102)), (102, (.tmp 103)), (103, (.tmp 104)), (104, (.tmp 105)), (105, (.tmp 106)), (106, (.tmp 107)), (107, (.tmp 108)), (108, (.tmp 109)), (109, (.tmp 110)), (110, (.tmp 111)), (111, (.tmp 112)), (112, (.tmp 113)), (113, (.tmp 114)), (114, (.tmp 115)), (115, (.tmp 116)), (116, (.tmp 117)), (117, (.tmp 118)), (118, (.tmp 119)), (119, (.tmp 120)), (120, (.tmp 121)), (121, (.tmp 122)), (122, (.tmp 123)), (123, (.tmp 124)), (124, (.tmp 125)), (125, (.tmp 126)), (126, (.tmp 127)), (127, (.tmp 128)), (128, (.tmp 129)), (129, (.tmp 130)), (130, (.tmp 131)), (131, (.tmp 132))]) none,
  .mk (some 0) (.assign (.tmp 133)) none]
def c23 : PC := (.seq (.reg false r23_0) (.seq (.reg false r23_1) .ret))
theorem e23 {args : List PV} {h : Heap} {K : PV → Heap → Prop} (hl : args.length = 0) (s : pwp Try.prog [] c23 (fin Try.prog [.tmp 0] h K) (slots0 (olds args)) h) : CanP Try.prog 23 args h K :=
  can_of2 (n := 134) mixed Try.func23 rfl (by kernel_rfl) (by rw [hl]; kernel_rfl) rfl (by kernel_rfl) s
/-! ### naskh.ccc.New: function 8 -/
def r8_0 : List PS := [.mk (some 0) (.assign (.const (.pointer none))) none]
def r8_1 : List PS := [.mk (some 4) (.call ⟨(.value (.func 23)), #[], #[]⟩) none,
  .mk (some 5) (.call ⟨(.value (.func 22)), #[(.tmp 4), (.const (.int .i64 0))], #[39, 3]⟩) none,
  .mk (some 3) (.move (.tmp 5)) none,
  .mk (some 6) (.extract (.tmp 3) 0) none,
  .mk (some 7) (.extract (.tmp 3) 1) none,
  .mk (some 1) (.assign (.tmp 6)) none,
  .mk (some 2) (.assign (.tmp 7)) none]
def r8_2 : List PS := [.mk (some 8) (.move (.tmp 2)) none,
  .mk (some 9) (.binOp .neq 36 (.tmp 8) (.const (.int .i64 0)) 36) none]
def r8_3 : List PS := [.mk (some 0) (.assign (.const (.pointer none))) none]
def r8_4 : List PS := [.mk (some 10) (.move (.tmp 1)) none,
  .mk (some 11) (.build 42 #[(0, (.tmp 10))]) none,
  .mk (some 12) (.build 44 #[(0, (.tmp 11))]) none,
  .mk (some 13) (.box 44 (.tmp 12)) none,
  .mk (some 0) (.assign (.tmp 13)) none]
def c8 : PC := (.seq (.reg false r8_0) (.seq (.reg false r8_1) (.seq (.seq (.reg false r8_2) (.cond (.tmp 9) (.seq (.reg false r8_3) .ret) .skip)) (.seq (.reg false r8_4) .ret))))
theorem e8 {args : List PV} {h : Heap} {K : PV → Heap → Prop} (hl : args.length = 0) (s : pwp Try.prog [] c8 (fin Try.prog [.tmp 0] h K) (slots0 (olds args)) h) : CanP Try.prog 8 args h K :=
  can_of2 (n := 14) mixed Try.func8 rfl (by kernel_rfl) (by rw [hl]; kernel_rfl) rfl (by kernel_rfl) s
/-! ### slices.Equal[[]int,int]: function 9 -/
def r9_0 : List PS := [.mk (some 4) (.assign (.const (.bool false))) none]
def r9_1 : List PS := [.mk (some 6) (.move (.tmp 0)) none,
  .mk (some 7) (.call ⟨(.builtin .len), #[(.tmp 6)], #[22]⟩) none,
  .mk (some 8) (.move (.tmp 1)) none,
  .mk (some 9) (.call ⟨(.builtin .len), #[(.tmp 8)], #[22]⟩) none,
  .mk (some 10) (.binOp .neq 3 (.tmp 7) (.tmp 9) 3) none]
def r9_2 : List PS := [.mk (some 4) (.assign (.const (.bool false))) none]
def r9_3 : List PS := [.mk (some 11) (.move (.tmp 0)) none,
  .mk (some 12) (.call ⟨(.builtin .len), #[(.tmp 11)], #[22]⟩) none,
  .mk (some 13) (.move (.const (.int .i64 0))) none]
def r9_4 : List PS := [.mk (some 14) (.binOp .lss 3 (.tmp 13) (.tmp 12) 3) none]
def r9_5 : List PS := [.mk (some 15) (.move (.tmp 13)) none,
  .mk (some 5) (.assign (.tmp 15)) none]
def r9_6 : List PS := [.mk (some 16) (.move (.tmp 0)) none,
  .mk (some 17) (.move (.tmp 5)) none,
  .mk (some 18) (.indexAddr 22 (.tmp 16) (.tmp 17)) none,
  .mk (some 19) (.load 3 (.tmp 18)) none,
  .mk (some 20) (.move (.tmp 1)) none,
  .mk (some 21) (.move (.tmp 5)) none,
  .mk (some 22) (.indexAddr 22 (.tmp 20) (.tmp 21)) none,
  .mk (some 23) (.load 3 (.tmp 22)) none,
  .mk (some 24) (.binOp .neq 3 (.tmp 19) (.tmp 23) 3) none]
def r9_7 : List PS := [.mk (some 4) (.assign (.const (.bool false))) none]
def r9_8 : List PS := [.mk (some 25) (.binOp .add 3 (.tmp 13) (.const (.int .i64 1)) 3) none,
  .mk (some 13) (.move (.tmp 25)) none]
def r9_9 : List PS := [.mk (some 4) (.assign (.const (.bool true))) none]
def c9 : PC := (.seq (.reg false r9_0) (.seq (.seq (.reg false r9_1) (.cond (.tmp 10) (.seq (.reg false r9_2) .ret) .skip)) (.seq (.seq (.reg false r9_3) (.block 0 (.loop (.seq (.reg false r9_4) (.seq (.cond (.tmp 14) .skip (.exit 0)) (.seq (.block 1 (.seq (.reg false r9_5) (.seq (.reg true r9_6) (.cond (.tmp 24) (.seq (.reg false r9_7) .ret) .skip)))) (.reg false r9_8))))))) (.seq (.reg false r9_9) .ret))))
theorem e9 {args : List PV} {h : Heap} {K : PV → Heap → Prop} (hl : args.length = 2) (s : pwp Try.prog [] c9 (fin Try.prog [.tmp 4] h K) (slots0 (olds args)) h) : CanP Try.prog 9 args h K :=
  can_of2 (n := 26) mixed Try.func9 rfl (by kernel_rfl) (by rw [hl]; kernel_rfl) rfl (by kernel_rfl) s
/-! ### (*naskh.trie.Table).has: function 73 -/
def r73_0 : List PS := [.mk (some 4) (.assign (.const (.bool false))) none]
def r73_1 : List PS := [.mk (some 5) (.move (.tmp 0)) none,
  .mk (some 6) (.binOp .neq 35 (.tmp 5) (.const (.pointer none)) 35) none,
  .mk (some 7) (.move (.tmp 6)) none,
  .mk (some 8) (.move (.tmp 0)) (some (7, true)),
  .mk (some 9) (.nilCheck (.tmp 8)) (some (7, true)),
  .mk (some 10) (.fieldAddr 60 (.tmp 9) 2) (some (7, true)),
  .mk (some 11) (.load 4 (.tmp 10)) (some (7, true)),
  .mk (some 12) (.pick (.tmp 7) (.tmp 11) (.const (.bool false))) none,
  .mk (some 13) (.move (.tmp 12)) none,
  .mk (some 14) (.move (.tmp 1)) (some (13, true)),
  .mk (some 15) (.binOp .geq 3 (.tmp 14) (.const (.int .i64 0)) 3) (some (13, true)),
  .mk (some 16) (.pick (.tmp 13) (.tmp 15) (.const (.bool false))) none,
  .mk (some 17) (.move (.tmp 16)) none,
  .mk (some 18) (.move (.tmp 1)) (some (17, true)),
  .mk (some 19) (.binOp .leq 3 (.tmp 18) (.const (.int .i64 1114111)) 3) (some (17, true)),
  .mk (some 20) (.pick (.tmp 17) (.tmp 19) (.const (.bool false))) none,
  .mk (some 4) (.assign (.tmp 20)) none]
def c73 : PC := (.seq (.reg false r73_0) (.seq (.reg false r73_1) .ret))
theorem e73 {args : List PV} {h : Heap} {K : PV → Heap → Prop} (hl : args.length = 2) (s : pwp Try.prog [] c73 (fin Try.prog [.tmp 4] h K) (slots0 (olds args)) h) : CanP Try.prog 73 args h K :=
  can_of2 (n := 21) mixed Try.func73 rfl (by kernel_rfl) (by rw [hl]; kernel_rfl) rfl (by kernel_rfl) s
/-! ### (*naskh.trie.stages).at: function 74 -/
def r74_0 : List PS := [.mk (some 4) (.assign (.const (.int .i64 0))) none]
def r74_1 : List PS := [.mk (some 5) (.move (.tmp 0)) none,
  .mk (some 6) (.nilCheck (.tmp 5)) none,
  .mk (some 7) (.fieldAddr 58 (.tmp 6) 1) none,
  .mk (some 8) (.load 56 (.tmp 7)) none,
  .mk (some 9) (.move (.tmp 0)) none,
  .mk (some 10) (.nilCheck (.tmp 9)) none,
  .mk (some 11) (.fieldAddr 58 (.tmp 10) 0) none,
  .mk (some 12) (.load 22 (.tmp 11)) none,
  .mk (some 13) (.move (.tmp 1)) none,
  .mk (some 14) (.binOp .shr 3 (.tmp 13) (.const (.int .u64 7)) 54) none,
  .mk (some 15) (.indexAddr 22 (.tmp 12) (.tmp 14)) none,
  .mk (some 16) (.load 3 (.tmp 15)) none,
  .mk (some 17) (.move (.tmp 1)) none,
  .mk (some 18) (.binOp .and 3 (.tmp 17) (.const (.int .i64 127)) 3) none,
  .mk (some 19) (.indexAddr 56 (.tmp 8) (.tmp 16)) none,
  .mk (some 20) (.indexAddr 62 (.tmp 19) (.tmp 18)) none,
  .mk (some 21) (.load 3 (.tmp 20)) none,
  .mk (some 4) (.assign (.tmp 21)) none]
def c74 : PC := (.seq (.reg false r74_0) (.seq (.reg true r74_1) .ret))
theorem e74 {args : List PV} {h : Heap} {K : PV → Heap → Prop} (hl : args.length = 2) (s : pwp Try.prog [] c74 (fin Try.prog [.tmp 4] h K) (slots0 (olds args)) h) : CanP Try.prog 74 args h K :=
  can_of2 (n := 22) mixed Try.func74 rfl (by kernel_rfl) (by rw [hl]; kernel_rfl) rfl (by kernel_rfl) s
/-! ### (*naskh.trie.Table).Get: function 58 -/
def r58_0 : List PS := [.mk (some 4) (.assign (.const (.int .i64 0))) none]
def r58_1 : List PS := [.mk (some 6) (.move (.tmp 0)) none,
  .mk (some 7) (.move (.tmp 1)) none,
  .mk (some 8) (.call ⟨(.value (.func 73)), #[(.tmp 6), (.tmp 7)], #[35, 3]⟩) none,
  .mk (some 5) (.assign (.tmp 8)) none]
def r58_2 : List PS := [.mk (some 9) (.move (.tmp 0)) none,
  .mk (some 10) (.nilCheck (.tmp 9)) none,
  .mk (some 11) (.fieldAddr 60 (.tmp 10) 0) none,
  .mk (some 12) (.move (.tmp 1)) none,
  .mk (some 13) (.call ⟨(.value (.func 74)), #[(.tmp 11), (.tmp 12)], #[58, 3]⟩) none,
  .mk (some 4) (.assign (.tmp 13)) none]
def r58_3 : List PS := [.mk (some 15) (.move (.tmp 0)) none,
  .mk (some 16) (.binOp .eql 35 (.tmp 15) (.const (.pointer none)) 35) none,
  .mk (some 14) (.assign (.tmp 16)) none]
def r58_4 : List PS := [.mk (some 4) (.assign (.const (.int .i64 0))) none]
def r58_5 : List PS := [.mk (some 17) (.move (.tmp 0)) none,
  .mk (some 18) (.nilCheck (.tmp 17)) none,
  .mk (some 19) (.fieldAddr 60 (.tmp 18) 1) none,
  .mk (some 20) (.load 3 (.tmp 19)) none,
  .mk (some 4) (.assign (.tmp 20)) none]
def c58 : PC := (.seq (.reg false r58_0) (.seq (.block 0 (.seq (.reg false r58_1) (.cond (.tmp 5) (.seq (.reg false r58_2) .ret) (.seq (.reg false r58_3) (.cond (.tmp 14) (.seq (.reg false r58_4) .ret) .skip))))) (.seq (.reg false r58_5) .ret)))
theorem e58 {args : List PV} {h : Heap} {K : PV → Heap → Prop} (hl : args.length = 2) (s : pwp Try.prog [] c58 (fin Try.prog [.tmp 4] h K) (slots0 (olds args)) h) : CanP Try.prog 58 args h K :=
  can_of2 (n := 21) mixed Try.func58 rfl (by kernel_rfl) (by rw [hl]; kernel_rfl) rfl (by kernel_rfl) s
/-! ### (*naskh.ccc.Classes).Of: function 40 -/
def r40_0 : List PS := [.mk (some 4) (.assign (.const (.int .i64 0))) none]
def r40_1 : List PS := [.mk (some 5) (.move (.tmp 0)) none,
  .mk (some 6) (.binOp .eql 24 (.tmp 5) (.const (.pointer none)) 24) none,
  .mk (some 7) (.move (.tmp 6)) none,
  .mk (some 8) (.move (.tmp 0)) (some (7, false)),
  .mk (some 9) (.nilCheck (.tmp 8)) (some (7, false)),
  .mk (some 10) (.fieldAddr 44 (.tmp 9) 0) (some (7, false)),
  .mk (some 11) (.fieldAddr 42 (.tmp 10) 0) (some (7, false)),
  .mk (some 12) (.load 35 (.tmp 11)) (some (7, false)),
  .mk (some 13) (.binOp .eql 35 (.tmp 12) (.const (.pointer none)) 35) (some (7, false)),
  .mk (some 14) (.pick (.tmp 7) (.const (.bool true)) (.tmp 13)) none]
def r40_2 : List PS := [.mk (some 4) (.assign (.const (.int .i64 0))) none]
def r40_3 : List PS := [.mk (some 15) (.move (.tmp 0)) none,
  .mk (some 16) (.nilCheck (.tmp 15)) none,
  .mk (some 17) (.fieldAddr 44 (.tmp 16) 0) none,
  .mk (some 18) (.fieldAddr 42 (.tmp 17) 0) none,
  .mk (some 19) (.load 35 (.tmp 18)) none,
  .mk (some 20) (.move (.tmp 1)) none,
  .mk (some 21) (.call ⟨(.value (.func 58)), #[(.tmp 19), (.tmp 20)], #[35, 3]⟩) none,
  .mk (some 4) (.assign (.tmp 21)) none]
def c40 : PC := (.seq (.reg false r40_0) (.seq (.seq (.reg false r40_1) (.cond (.tmp 14) (.seq (.reg false r40_2) .ret) .skip)) (.seq (.reg false r40_3) .ret)))
theorem e40 {args : List PV} {h : Heap} {K : PV → Heap → Prop} (hl : args.length = 2) (s : pwp Try.prog [] c40 (fin Try.prog [.tmp 4] h K) (slots0 (olds args)) h) : CanP Try.prog 40 args h K :=
  can_of2 (n := 22) mixed Try.func40 rfl (by kernel_rfl) (by rw [hl]; kernel_rfl) rfl (by kernel_rfl) s
/-! ### (*naskh.ccc.Classes).rows: function 36 -/
def r36_0 : List PS := [.mk (some 6) (.assign (.const (.int .i64 0))) none]
def r36_1 : List PS := [.mk (some 9) (.move (.tmp 1)) none,
  .mk (some 10) (.call ⟨(.builtin .len), #[(.tmp 9)], #[22]⟩) none,
  .mk (some 11) (.move (.const (.int .i64 0))) none]
def r36_2 : List PS := [.mk (some 12) (.binOp .lss 3 (.tmp 11) (.tmp 10) 3) none]
def r36_3 : List PS := [.mk (some 13) (.move (.tmp 11)) none,
  .mk (some 14) (.indexAddr 22 (.tmp 9) (.tmp 11)) none,
  .mk (some 15) (.load 3 (.tmp 14)) none,
  .mk (some 7) (.assign (.tmp 13)) none,
  .mk (some 8) (.assign (.tmp 15)) none]
def r36_4 : List PS := [.mk (some 16) (.move (.tmp 0)) none,
  .mk (some 17) (.move (.tmp 8)) none,
  .mk (some 18) (.call ⟨(.value (.func 40)), #[(.tmp 16), (.tmp 17)], #[24, 3]⟩) none,
  .mk (some 19) (.binOp .eql 3 (.tmp 18) (.const (.int .i64 0)) 3) none]
def r36_5 : List PS := [.mk (some 20) (.move (.tmp 2)) none,
  .mk (some 21) (.move (.tmp 6)) none,
  .mk (some 22) (.move (.tmp 7)) none,
  .mk (some 23) (.call ⟨(.value (.tmp 20)), #[(.tmp 21), (.tmp 22)], #[3, 3]⟩) none]
def r36_6 : List PS := [.mk (some 24) (.move (.tmp 7)) none,
  .mk (some 25) (.binOp .add 3 (.tmp 24) (.const (.int .i64 1)) 3) none,
  .mk (some 6) (.assign (.tmp 25)) none]
def r36_7 : List PS := [.mk (some 26) (.binOp .add 3 (.tmp 11) (.const (.int .i64 1)) 3) none,
  .mk (some 11) (.move (.tmp 26)) none]
def r36_8 : List PS := [.mk (some 27) (.move (.tmp 2)) none,
  .mk (some 28) (.move (.tmp 6)) none,
  .mk (some 29) (.move (.tmp 1)) none,
  .mk (some 30) (.call ⟨(.builtin .len), #[(.tmp 29)], #[22]⟩) none,
  .mk (some 31) (.call ⟨(.value (.tmp 27)), #[(.tmp 28), (.tmp 30)], #[3, 3]⟩) none]
def c36 : PC := (.seq (.reg false r36_0) (.seq (.seq (.reg false r36_1) (.block 0 (.loop (.seq (.reg false r36_2) (.seq (.cond (.tmp 12) .skip (.exit 0)) (.seq (.block 1 (.seq (.reg false r36_3) (.seq (.reg false r36_4) (.cond (.tmp 19) (.seq (.reg false r36_5) (.reg false r36_6)) .skip)))) (.reg false r36_7))))))) (.reg false r36_8)))
theorem e36 {args : List PV} {h : Heap} {K : PV → Heap → Prop} (hl : args.length = 3) (s : pwp Try.prog [] c36 (fin Try.prog [] h K) (slots0 (olds args)) h) : CanP Try.prog 36 args h K :=
  can_of2 (n := 32) mixed Try.func36 rfl (by kernel_rfl) (by rw [hl]; kernel_rfl) rfl (by kernel_rfl) s
/-! ### slices.insertionSortCmpFunc[int]: function 71 -/
def r71_0 : List PS := [.mk (some 10) (.move (.tmp 1)) none,
  .mk (some 11) (.binOp .add 3 (.tmp 10) (.const (.int .i64 1)) 3) none,
  .mk (some 8) (.assign (.tmp 11)) none]
def r71_1 : List PS := [.mk (some 12) (.move (.tmp 8)) none,
  .mk (some 13) (.move (.tmp 2)) none,
  .mk (some 14) (.binOp .lss 3 (.tmp 12) (.tmp 13) 3) none]
def r71_2 : List PS := [.mk (some 17) (.move (.tmp 8)) none,
  .mk (some 9) (.assign (.tmp 17)) none]
def r71_3 : List PS := [.mk (some 18) (.move (.tmp 9)) none,
  .mk (some 19) (.move (.tmp 1)) none,
  .mk (some 20) (.binOp .gtr 3 (.tmp 18) (.tmp 19) 3) none,
  .mk (some 21) (.move (.tmp 20)) none,
  .mk (some 22) (.move (.tmp 3)) (some (21, true)),
  .mk (some 23) (.move (.tmp 0)) (some (21, true)),
  .mk (some 24) (.move (.tmp 9)) (some (21, true)),
  .mk (some 25) (.indexAddr 22 (.tmp 23) (.tmp 24)) (some (21, true)),
  .mk (some 26) (.load 3 (.tmp 25)) (some (21, true)),
  .mk (some 27) (.move (.tmp 0)) (some (21, true)),
  .mk (some 28) (.move (.tmp 9)) (some (21, true)),
  .mk (some 29) (.binOp .sub 3 (.tmp 28) (.const (.int .i64 1)) 3) (some (21, true)),
  .mk (some 30) (.indexAddr 22 (.tmp 27) (.tmp 29)) (some (21, true)),
  .mk (some 31) (.load 3 (.tmp 30)) (some (21, true)),
  .mk (some 32) (.call ⟨(.value (.tmp 22)), #[(.tmp 26), (.tmp 31)], #[3, 3]⟩) (some (21, true)),
  .mk (some 33) (.binOp .lss 3 (.tmp 32) (.const (.int .i64 0)) 3) (some (21, true)),
  .mk (some 34) (.pick (.tmp 21) (.tmp 33) (.const (.bool false))) none]
def r71_4 : List PS := [.mk (some 37) (.move (.tmp 0)) none,
  .mk (some 38) (.move (.tmp 9)) none,
  .mk (some 39) (.move (.tmp 0)) none,
  .mk (some 40) (.move (.tmp 9)) none,
  .mk (some 41) (.binOp .sub 3 (.tmp 40) (.const (.int .i64 1)) 3) none,
  .mk (some 42) (.move (.tmp 0)) none,
  .mk (some 43) (.move (.tmp 9)) none,
  .mk (some 44) (.binOp .sub 3 (.tmp 43) (.const (.int .i64 1)) 3) none,
  .mk (some 45) (.indexAddr 22 (.tmp 42) (.tmp 44)) none,
  .mk (some 46) (.load 3 (.tmp 45)) none,
  .mk (some 47) (.move (.tmp 0)) none,
  .mk (some 48) (.move (.tmp 9)) none,
  .mk (some 49) (.indexAddr 22 (.tmp 47) (.tmp 48)) none,
  .mk (some 50) (.load 3 (.tmp 49)) none,
  .mk (some 51) (.indexAddr 22 (.tmp 37) (.tmp 38)) none,
  .mk none (.store 3 (.tmp 51) (.tmp 46)) none,
  .mk (some 52) (.indexAddr 22 (.tmp 39) (.tmp 41)) none,
  .mk none (.store 3 (.tmp 52) (.tmp 50)) none]
def r71_5 : List PS := [.mk (some 35) (.move (.tmp 9)) none,
  .mk (some 36) (.binOp .sub 3 (.tmp 35) (.const (.int .i64 1)) 3) none,
  .mk (some 9) (.assign (.tmp 36)) none]
def r71_6 : List PS := [.mk (some 15) (.move (.tmp 8)) none,
  .mk (some 16) (.binOp .add 3 (.tmp 15) (.const (.int .i64 1)) 3) none,
  .mk (some 8) (.assign (.tmp 16)) none]
def c71 : PC := (.seq (.reg false r71_0) (.block 0 (.loop (.seq (.seq (.reg false r71_1) (.cond (.tmp 14) .skip (.exit 0))) (.seq (.block 1 (.seq (.reg false r71_2) (.block 2 (.loop (.seq (.seq (.reg true r71_3) (.cond (.tmp 34) .skip (.exit 2))) (.seq (.block 3 (.reg true r71_4)) (.reg false r71_5))))))) (.reg false r71_6))))))
theorem e71 {args : List PV} {h : Heap} {K : PV → Heap → Prop} (hl : args.length = 4) (s : pwp Try.prog [] c71 (fin Try.prog [] h K) (slots0 (olds args)) h) : CanP Try.prog 71 args h K :=
  can_of2 (n := 53) mixed Try.func71 rfl (by kernel_rfl) (by rw [hl]; kernel_rfl) rfl (by kernel_rfl) s
/-! ### slices.swapRangeCmpFunc[int]: function 77 -/
def r77_0 : List PS := [.mk (some 10) (.assign (.const (.int .i64 0))) none]
def r77_1 : List PS := [.mk (some 11) (.move (.tmp 10)) none,
  .mk (some 12) (.move (.tmp 3)) none,
  .mk (some 13) (.binOp .lss 3 (.tmp 11) (.tmp 12) 3) none]
def r77_2 : List PS := [.mk (some 16) (.move (.tmp 0)) none,
  .mk (some 17) (.move (.tmp 1)) none,
  .mk (some 18) (.move (.tmp 10)) none,
  .mk (some 19) (.binOp .add 3 (.tmp 17) (.tmp 18) 3) none,
  .mk (some 20) (.move (.tmp 0)) none,
  .mk (some 21) (.move (.tmp 2)) none,
  .mk (some 22) (.move (.tmp 10)) none,
  .mk (some 23) (.binOp .add 3 (.tmp 21) (.tmp 22) 3) none,
  .mk (some 24) (.move (.tmp 0)) none,
  .mk (some 25) (.move (.tmp 2)) none,
  .mk (some 26) (.move (.tmp 10)) none,
  .mk (some 27) (.binOp .add 3 (.tmp 25) (.tmp 26) 3) none,
  .mk (some 28) (.indexAddr 22 (.tmp 24) (.tmp 27)) none,
  .mk (some 29) (.load 3 (.tmp 28)) none,
  .mk (some 30) (.move (.tmp 0)) none,
  .mk (some 31) (.move (.tmp 1)) none,
  .mk (some 32) (.move (.tmp 10)) none,
  .mk (some 33) (.binOp .add 3 (.tmp 31) (.tmp 32) 3) none,
  .mk (some 34) (.indexAddr 22 (.tmp 30) (.tmp 33)) none,
  .mk (some 35) (.load 3 (.tmp 34)) none,
  .mk (some 36) (.indexAddr 22 (.tmp 16) (.tmp 19)) none,
  .mk none (.store 3 (.tmp 36) (.tmp 29)) none,
  .mk (some 37) (.indexAddr 22 (.tmp 20) (.tmp 23)) none,
  .mk none (.store 3 (.tmp 37) (.tmp 35)) none]
def r77_3 : List PS := [.mk (some 14) (.move (.tmp 10)) none,
  .mk (some 15) (.binOp .add 3 (.tmp 14) (.const (.int .i64 1)) 3) none,
  .mk (some 10) (.assign (.tmp 15)) none]
def c77 : PC := (.seq (.reg false r77_0) (.block 0 (.loop (.seq (.seq (.reg false r77_1) (.cond (.tmp 13) .skip (.exit 0))) (.seq (.block 1 (.reg true r77_2)) (.reg false r77_3))))))
theorem e77 {args : List PV} {h : Heap} {K : PV → Heap → Prop} (hl : args.length = 5) (s : pwp Try.prog [] c77 (fin Try.prog [] h K) (slots0 (olds args)) h) : CanP Try.prog 77 args h K :=
  can_of2 (n := 38) mixed Try.func77 rfl (by kernel_rfl) (by rw [hl]; kernel_rfl) rfl (by kernel_rfl) s
/-! ### slices.rotateCmpFunc[int]: function 76 -/
def r76_0 : List PS := [.mk (some 12) (.move (.tmp 2)) none,
  .mk (some 13) (.move (.tmp 1)) none,
  .mk (some 14) (.binOp .sub 3 (.tmp 12) (.tmp 13) 3) none,
  .mk (some 10) (.assign (.tmp 14)) none]
def r76_1 : List PS := [.mk (some 15) (.move (.tmp 3)) none,
  .mk (some 16) (.move (.tmp 2)) none,
  .mk (some 17) (.binOp .sub 3 (.tmp 15) (.tmp 16) 3) none,
  .mk (some 11) (.assign (.tmp 17)) none]
def r76_2 : List PS := [.mk (some 18) (.move (.tmp 10)) none,
  .mk (some 19) (.move (.tmp 11)) none,
  .mk (some 20) (.binOp .neq 3 (.tmp 18) (.tmp 19) 3) none]
def r76_3 : List PS := [.mk (some 21) (.move (.tmp 10)) none,
  .mk (some 22) (.move (.tmp 11)) none,
  .mk (some 23) (.binOp .gtr 3 (.tmp 21) (.tmp 22) 3) none]
def r76_4 : List PS := [.mk (some 24) (.move (.tmp 0)) none,
  .mk (some 25) (.move (.tmp 2)) none,
  .mk (some 26) (.move (.tmp 10)) none,
  .mk (some 27) (.binOp .sub 3 (.tmp 25) (.tmp 26) 3) none,
  .mk (some 28) (.move (.tmp 2)) none,
  .mk (some 29) (.move (.tmp 11)) none,
  .mk (some 30) (.move (.tmp 4)) none,
  .mk (some 31) (.call ⟨(.value (.func 77)), #[(.tmp 24), (.tmp 27), (.tmp 28), (.tmp 29), (.tmp 30)], #[22, 3, 3, 3, 70]⟩) none]
def r76_5 : List PS := [.mk (some 32) (.move (.tmp 10)) none,
  .mk (some 33) (.move (.tmp 11)) none,
  .mk (some 34) (.binOp .sub 3 (.tmp 32) (.tmp 33) 3) none,
  .mk (some 10) (.assign (.tmp 34)) none]
def r76_6 : List PS := [.mk (some 35) (.move (.tmp 0)) none,
  .mk (some 36) (.move (.tmp 2)) none,
  .mk (some 37) (.move (.tmp 10)) none,
  .mk (some 38) (.binOp .sub 3 (.tmp 36) (.tmp 37) 3) none,
  .mk (some 39) (.move (.tmp 2)) none,
  .mk (some 40) (.move (.tmp 11)) none,
  .mk (some 41) (.binOp .add 3 (.tmp 39) (.tmp 40) 3) none,
  .mk (some 42) (.move (.tmp 10)) none,
  .mk (some 43) (.binOp .sub 3 (.tmp 41) (.tmp 42) 3) none,
  .mk (some 44) (.move (.tmp 10)) none,
  .mk (some 45) (.move (.tmp 4)) none,
  .mk (some 46) (.call ⟨(.value (.func 77)), #[(.tmp 35), (.tmp 38), (.tmp 43), (.tmp 44), (.tmp 45)], #[22, 3, 3, 3, 70]⟩) none]
def r76_7 : List PS := [.mk (some 47) (.move (.tmp 11)) none,
  .mk (some 48) (.move (.tmp 10)) none,
  .mk (some 49) (.binOp .sub 3 (.tmp 47) (.tmp 48) 3) none,
  .mk (some 11) (.assign (.tmp 49)) none]
def r76_8 : List PS := [.mk (some 50) (.move (.tmp 0)) none,
  .mk (some 51) (.move (.tmp 2)) none,
  .mk (some 52) (.move (.tmp 10)) none,
  .mk (some 53) (.binOp .sub 3 (.tmp 51) (.tmp 52) 3) none,
  .mk (some 54) (.move (.tmp 2)) none,
  .mk (some 55) (.move (.tmp 10)) none,
  .mk (some 56) (.move (.tmp 4)) none,
  .mk (some 57) (.call ⟨(.value (.func 77)), #[(.tmp 50), (.tmp 53), (.tmp 54), (.tmp 55), (.tmp 56)], #[22, 3, 3, 3, 70]⟩) none]
def c76 : PC := (.seq (.reg false r76_0) (.seq (.reg false r76_1) (.seq (.block 0 (.loop (.seq (.seq (.reg false r76_2) (.cond (.tmp 20) .skip (.exit 0))) (.block 1 (.seq (.reg false r76_3) (.cond (.tmp 23) (.seq (.reg false r76_4) (.reg false r76_5)) (.seq (.reg false r76_6) (.reg false r76_7)))))))) (.reg false r76_8))))
theorem e76 {args : List PV} {h : Heap} {K : PV → Heap → Prop} (hl : args.length = 5) (s : pwp Try.prog [] c76 (fin Try.prog [] h K) (slots0 (olds args)) h) : CanP Try.prog 76 args h K :=
  can_of2 (n := 58) mixed Try.func76 rfl (by kernel_rfl) (by rw [hl]; kernel_rfl) rfl (by kernel_rfl) s
/-! ### slices.symMergeCmpFunc[int]: function 72 -/
def r72_0 : List PS := [.mk (some 25) (.move (.tmp 2)) none,
  .mk (some 26) (.move (.tmp 1)) none,
  .mk (some 27) (.binOp .sub 3 (.tmp 25) (.tmp 26) 3) none,
  .mk (some 28) (.binOp .eql 3 (.tmp 27) (.const (.int .i64 1)) 3) none]
def r72_1 : List PS := [.mk (some 29) (.move (.tmp 2)) none,
  .mk (some 10) (.assign (.tmp 29)) none]
def r72_2 : List PS := [.mk (some 30) (.move (.tmp 3)) none,
  .mk (some 11) (.assign (.tmp 30)) none]
def r72_3 : List PS := [.mk (some 31) (.move (.tmp 10)) none,
  .mk (some 32) (.move (.tmp 11)) none,
  .mk (some 33) (.binOp .lss 3 (.tmp 31) (.tmp 32) 3) none]
def r72_4 : List PS := [.mk (some 34) (.move (.tmp 10)) none,
  .mk (some 35) (.move (.tmp 11)) none,
  .mk (some 36) (.binOp .add 3 (.tmp 34) (.tmp 35) 3) none,
  .mk (some 37) (.convert 3 54 (.tmp 36)) none,
  .mk (some 38) (.binOp .shr 54 (.tmp 37) (.const (.int .u64 1)) 54) none,
  .mk (some 39) (.convert 54 3 (.tmp 38)) none,
  .mk (some 12) (.assign (.tmp 39)) none]
def r72_5 : List PS := [.mk (some 40) (.move (.tmp 4)) none,
  .mk (some 41) (.move (.tmp 0)) none,
  .mk (some 42) (.move (.tmp 12)) none,
  .mk (some 43) (.indexAddr 22 (.tmp 41) (.tmp 42)) none,
  .mk (some 44) (.load 3 (.tmp 43)) none,
  .mk (some 45) (.move (.tmp 0)) none,
  .mk (some 46) (.move (.tmp 1)) none,
  .mk (some 47) (.indexAddr 22 (.tmp 45) (.tmp 46)) none,
  .mk (some 48) (.load 3 (.tmp 47)) none,
  .mk (some 49) (.call ⟨(.value (.tmp 40)), #[(.tmp 44), (.tmp 48)], #[3, 3]⟩) none,
  .mk (some 50) (.binOp .lss 3 (.tmp 49) (.const (.int .i64 0)) 3) none]
def r72_6 : List PS := [.mk (some 51) (.move (.tmp 12)) none,
  .mk (some 52) (.binOp .add 3 (.tmp 51) (.const (.int .i64 1)) 3) none,
  .mk (some 10) (.assign (.tmp 52)) none]
def r72_7 : List PS := [.mk (some 53) (.move (.tmp 12)) none,
  .mk (some 11) (.assign (.tmp 53)) none]
def r72_8 : List PS := [.mk (some 54) (.move (.tmp 1)) none,
  .mk (some 13) (.assign (.tmp 54)) none]
def r72_9 : List PS := [.mk (some 55) (.move (.tmp 13)) none,
  .mk (some 56) (.move (.tmp 10)) none,
  .mk (some 57) (.binOp .sub 3 (.tmp 56) (.const (.int .i64 1)) 3) none,
  .mk (some 58) (.binOp .lss 3 (.tmp 55) (.tmp 57) 3) none]
def r72_10 : List PS := [.mk (some 61) (.move (.tmp 0)) none,
  .mk (some 62) (.move (.tmp 13)) none,
  .mk (some 63) (.move (.tmp 0)) none,
  .mk (some 64) (.move (.tmp 13)) none,
  .mk (some 65) (.binOp .add 3 (.tmp 64) (.const (.int .i64 1)) 3) none,
  .mk (some 66) (.move (.tmp 0)) none,
  .mk (some 67) (.move (.tmp 13)) none,
  .mk (some 68) (.binOp .add 3 (.tmp 67) (.const (.int .i64 1)) 3) none,
  .mk (some 69) (.indexAddr 22 (.tmp 66) (.tmp 68)) none,
  .mk (some 70) (.load 3 (.tmp 69)) none,
  .mk (some 71) (.move (.tmp 0)) none,
  .mk (some 72) (.move (.tmp 13)) none,
  .mk (some 73) (.indexAddr 22 (.tmp 71) (.tmp 72)) none,
  .mk (some 74) (.load 3 (.tmp 73)) none,
  .mk (some 75) (.indexAddr 22 (.tmp 61) (.tmp 62)) none,
  .mk none (.store 3 (.tmp 75) (.tmp 70)) none,
  .mk (some 76) (.indexAddr 22 (.tmp 63) (.tmp 65)) none,
  .mk none (.store 3 (.tmp 76) (.tmp 74)) none]
def r72_11 : List PS := [.mk (some 59) (.move (.tmp 13)) none,
  .mk (some 60) (.binOp .add 3 (.tmp 59) (.const (.int .i64 1)) 3) none,
  .mk (some 13) (.assign (.tmp 60)) none]
def r72_12 : List PS := [.mk (some 77) (.move (.tmp 3)) none,
  .mk (some 78) (.move (.tmp 2)) none,
  .mk (some 79) (.binOp .sub 3 (.tmp 77) (.tmp 78) 3) none,
  .mk (some 80) (.binOp .eql 3 (.tmp 79) (.const (.int .i64 1)) 3) none]
def r72_13 : List PS := [.mk (some 81) (.move (.tmp 1)) none,
  .mk (some 14) (.assign (.tmp 81)) none]
def r72_14 : List PS := [.mk (some 82) (.move (.tmp 2)) none,
  .mk (some 15) (.assign (.tmp 82)) none]
def r72_15 : List PS := [.mk (some 83) (.move (.tmp 14)) none,
  .mk (some 84) (.move (.tmp 15)) none,
  .mk (some 85) (.binOp .lss 3 (.tmp 83) (.tmp 84) 3) none]
def r72_16 : List PS := [.mk (some 86) (.move (.tmp 14)) none,
  .mk (some 87) (.move (.tmp 15)) none,
  .mk (some 88) (.binOp .add 3 (.tmp 86) (.tmp 87) 3) none,
  .mk (some 89) (.convert 3 54 (.tmp 88)) none,
  .mk (some 90) (.binOp .shr 54 (.tmp 89) (.const (.int .u64 1)) 54) none,
  .mk (some 91) (.convert 54 3 (.tmp 90)) none,
  .mk (some 16) (.assign (.tmp 91)) none]
def r72_17 : List PS := [.mk (some 92) (.move (.tmp 4)) none,
  .mk (some 93) (.move (.tmp 0)) none,
  .mk (some 94) (.move (.tmp 2)) none,
  .mk (some 95) (.indexAddr 22 (.tmp 93) (.tmp 94)) none,
  .mk (some 96) (.load 3 (.tmp 95)) none,
  .mk (some 97) (.move (.tmp 0)) none,
  .mk (some 98) (.move (.tmp 16)) none,
  .mk (some 99) (.indexAddr 22 (.tmp 97) (.tmp 98)) none,
  .mk (some 100) (.load 3 (.tmp 99)) none,
  .mk (some 101) (.call ⟨(.value (.tmp 92)), #[(.tmp 96), (.tmp 100)], #[3, 3]⟩) none,
  .mk (some 102) (.binOp .lss 3 (.tmp 101) (.const (.int .i64 0)) 3) none,
  .mk (some 103) (.unOp .not 4 (.tmp 102)) none]
def r72_18 : List PS := [.mk (some 104) (.move (.tmp 16)) none,
  .mk (some 105) (.binOp .add 3 (.tmp 104) (.const (.int .i64 1)) 3) none,
  .mk (some 14) (.assign (.tmp 105)) none]
def r72_19 : List PS := [.mk (some 106) (.move (.tmp 16)) none,
  .mk (some 15) (.assign (.tmp 106)) none]
def r72_20 : List PS := [.mk (some 107) (.move (.tmp 2)) none,
  .mk (some 17) (.assign (.tmp 107)) none]
def r72_21 : List PS := [.mk (some 108) (.move (.tmp 17)) none,
  .mk (some 109) (.move (.tmp 14)) none,
  .mk (some 110) (.binOp .gtr 3 (.tmp 108) (.tmp 109) 3) none]
def r72_22 : List PS := [.mk (some 113) (.move (.tmp 0)) none,
  .mk (some 114) (.move (.tmp 17)) none,
  .mk (some 115) (.move (.tmp 0)) none,
  .mk (some 116) (.move (.tmp 17)) none,
  .mk (some 117) (.binOp .sub 3 (.tmp 116) (.const (.int .i64 1)) 3) none,
  .mk (some 118) (.move (.tmp 0)) none,
  .mk (some 119) (.move (.tmp 17)) none,
  .mk (some 120) (.binOp .sub 3 (.tmp 119) (.const (.int .i64 1)) 3) none,
  .mk (some 121) (.indexAddr 22 (.tmp 118) (.tmp 120)) none,
  .mk (some 122) (.load 3 (.tmp 121)) none,
  .mk (some 123) (.move (.tmp 0)) none,
  .mk (some 124) (.move (.tmp 17)) none,
  .mk (some 125) (.indexAddr 22 (.tmp 123) (.tmp 124)) none,
  .mk (some 126) (.load 3 (.tmp 125)) none,
  .mk (some 127) (.indexAddr 22 (.tmp 113) (.tmp 114)) none,
  .mk none (.store 3 (.tmp 127) (.tmp 122)) none,
  .mk (some 128) (.indexAddr 22 (.tmp 115) (.tmp 117)) none,
  .mk none (.store 3 (.tmp 128) (.tmp 126)) none]
def r72_23 : List PS := [.mk (some 111) (.move (.tmp 17)) none,
  .mk (some 112) (.binOp .sub 3 (.tmp 111) (.const (.int .i64 1)) 3) none,
  .mk (some 17) (.assign (.tmp 112)) none]
def r72_24 : List PS := [.mk (some 129) (.move (.tmp 1)) none,
  .mk (some 130) (.move (.tmp 3)) none,
  .mk (some 131) (.binOp .add 3 (.tmp 129) (.tmp 130) 3) none,
  .mk (some 132) (.convert 3 54 (.tmp 131)) none,
  .mk (some 133) (.binOp .shr 54 (.tmp 132) (.const (.int .u64 1)) 54) none,
  .mk (some 134) (.convert 54 3 (.tmp 133)) none,
  .mk (some 18) (.assign (.tmp 134)) none]
def r72_25 : List PS := [.mk (some 135) (.move (.tmp 18)) none,
  .mk (some 136) (.move (.tmp 2)) none,
  .mk (some 137) (.binOp .add 3 (.tmp 135) (.tmp 136) 3) none,
  .mk (some 19) (.assign (.tmp 137)) none]
def r72_26 : List PS := [.mk (some 20) (.assign (.const (.int .i64 0))) none,
  .mk (some 21) (.assign (.const (.int .i64 0))) none]
def r72_27 : List PS := [.mk (some 138) (.move (.tmp 2)) none,
  .mk (some 139) (.move (.tmp 18)) none,
  .mk (some 140) (.binOp .gtr 3 (.tmp 138) (.tmp 139) 3) none]
def r72_28 : List PS := [.mk (some 141) (.move (.tmp 19)) none,
  .mk (some 142) (.move (.tmp 3)) none,
  .mk (some 143) (.binOp .sub 3 (.tmp 141) (.tmp 142) 3) none,
  .mk (some 20) (.assign (.tmp 143)) none]
def r72_29 : List PS := [.mk (some 144) (.move (.tmp 18)) none,
  .mk (some 21) (.assign (.tmp 144)) none]
def r72_30 : List PS := [.mk (some 145) (.move (.tmp 1)) none,
  .mk (some 20) (.assign (.tmp 145)) none]
def r72_31 : List PS := [.mk (some 146) (.move (.tmp 2)) none,
  .mk (some 21) (.assign (.tmp 146)) none]
def r72_32 : List PS := [.mk (some 147) (.move (.tmp 19)) none,
  .mk (some 148) (.binOp .sub 3 (.tmp 147) (.const (.int .i64 1)) 3) none,
  .mk (some 22) (.assign (.tmp 148)) none]
def r72_33 : List PS := [.mk (some 149) (.move (.tmp 20)) none,
  .mk (some 150) (.move (.tmp 21)) none,
  .mk (some 151) (.binOp .lss 3 (.tmp 149) (.tmp 150) 3) none]
def r72_34 : List PS := [.mk (some 152) (.move (.tmp 20)) none,
  .mk (some 153) (.move (.tmp 21)) none,
  .mk (some 154) (.binOp .add 3 (.tmp 152) (.tmp 153) 3) none,
  .mk (some 155) (.convert 3 54 (.tmp 154)) none,
  .mk (some 156) (.binOp .shr 54 (.tmp 155) (.const (.int .u64 1)) 54) none,
  .mk (some 157) (.convert 54 3 (.tmp 156)) none,
  .mk (some 23) (.assign (.tmp 157)) none]
def r72_35 : List PS := [.mk (some 158) (.move (.tmp 4)) none,
  .mk (some 159) (.move (.tmp 0)) none,
  .mk (some 160) (.move (.tmp 22)) none,
  .mk (some 161) (.move (.tmp 23)) none,
  .mk (some 162) (.binOp .sub 3 (.tmp 160) (.tmp 161) 3) none,
  .mk (some 163) (.indexAddr 22 (.tmp 159) (.tmp 162)) none,
  .mk (some 164) (.load 3 (.tmp 163)) none,
  .mk (some 165) (.move (.tmp 0)) none,
  .mk (some 166) (.move (.tmp 23)) none,
  .mk (some 167) (.indexAddr 22 (.tmp 165) (.tmp 166)) none,
  .mk (some 168) (.load 3 (.tmp 167)) none,
  .mk (some 169) (.call ⟨(.value (.tmp 158)), #[(.tmp 164), (.tmp 168)], #[3, 3]⟩) none,
  .mk (some 170) (.binOp .lss 3 (.tmp 169) (.const (.int .i64 0)) 3) none,
  .mk (some 171) (.unOp .not 4 (.tmp 170)) none]
def r72_36 : List PS := [.mk (some 172) (.move (.tmp 23)) none,
  .mk (some 173) (.binOp .add 3 (.tmp 172) (.const (.int .i64 1)) 3) none,
  .mk (some 20) (.assign (.tmp 173)) none]
def r72_37 : List PS := [.mk (some 174) (.move (.tmp 23)) none,
  .mk (some 21) (.assign (.tmp 174)) none]
def r72_38 : List PS := [.mk (some 175) (.move (.tmp 19)) none,
  .mk (some 176) (.move (.tmp 20)) none,
  .mk (some 177) (.binOp .sub 3 (.tmp 175) (.tmp 176) 3) none,
  .mk (some 24) (.assign (.tmp 177)) none]
def r72_39 : List PS := [.mk (some 178) (.move (.tmp 20)) none,
  .mk (some 179) (.move (.tmp 2)) none,
  .mk (some 180) (.binOp .lss 3 (.tmp 178) (.tmp 179) 3) none,
  .mk (some 181) (.move (.tmp 180)) none,
  .mk (some 182) (.move (.tmp 2)) (some (181, true)),
  .mk (some 183) (.move (.tmp 24)) (some (181, true)),
  .mk (some 184) (.binOp .lss 3 (.tmp 182) (.tmp 183) 3) (some (181, true)),
  .mk (some 185) (.pick (.tmp 181) (.tmp 184) (.const (.bool false))) none]
def r72_40 : List PS := [.mk (some 186) (.move (.tmp 0)) none,
  .mk (some 187) (.move (.tmp 20)) none,
  .mk (some 188) (.move (.tmp 2)) none,
  .mk (some 189) (.move (.tmp 24)) none,
  .mk (some 190) (.move (.tmp 4)) none,
  .mk (some 191) (.call ⟨(.value (.func 76)), #[(.tmp 186), (.tmp 187), (.tmp 188), (.tmp 189), (.tmp 190)], #[22, 3, 3, 3, 70]⟩) none]
def r72_41 : List PS := [.mk (some 192) (.move (.tmp 1)) none,
  .mk (some 193) (.move (.tmp 20)) none,
  .mk (some 194) (.binOp .lss 3 (.tmp 192) (.tmp 193) 3) none,
  .mk (some 195) (.move (.tmp 194)) none,
  .mk (some 196) (.move (.tmp 20)) (some (195, true)),
  .mk (some 197) (.move (.tmp 18)) (some (195, true)),
  .mk (some 198) (.binOp .lss 3 (.tmp 196) (.tmp 197) 3) (some (195, true)),
  .mk (some 199) (.pick (.tmp 195) (.tmp 198) (.const (.bool false))) none]
def r72_42 : List PS := [.mk (some 200) (.move (.tmp 0)) none,
  .mk (some 201) (.move (.tmp 1)) none,
  .mk (some 202) (.move (.tmp 20)) none,
  .mk (some 203) (.move (.tmp 18)) none,
  .mk (some 204) (.move (.tmp 4)) none,
  .mk (some 205) (.call ⟨(.value (.func 72)), #[(.tmp 200), (.tmp 201), (.tmp 202), (.tmp 203), (.tmp 204)], #[22, 3, 3, 3, 70]⟩) none]
def r72_43 : List PS := [.mk (some 206) (.move (.tmp 18)) none,
  .mk (some 207) (.move (.tmp 24)) none,
  .mk (some 208) (.binOp .lss 3 (.tmp 206) (.tmp 207) 3) none,
  .mk (some 209) (.move (.tmp 208)) none,
  .mk (some 210) (.move (.tmp 24)) (some (209, true)),
  .mk (some 211) (.move (.tmp 3)) (some (209, true)),
  .mk (some 212) (.binOp .lss 3 (.tmp 210) (.tmp 211) 3) (some (209, true)),
  .mk (some 213) (.pick (.tmp 209) (.tmp 212) (.const (.bool false))) none]
def r72_44 : List PS := [.mk (some 214) (.move (.tmp 0)) none,
  .mk (some 215) (.move (.tmp 18)) none,
  .mk (some 216) (.move (.tmp 24)) none,
  .mk (some 217) (.move (.tmp 3)) none,
  .mk (some 218) (.move (.tmp 4)) none,
  .mk (some 219) (.call ⟨(.value (.func 72)), #[(.tmp 214), (.tmp 215), (.tmp 216), (.tmp 217), (.tmp 218)], #[22, 3, 3, 3, 70]⟩) none]
def c72 : PC := (.seq (.seq (.reg false r72_0) (.cond (.tmp 28) (.seq (.reg false r72_1) (.seq (.reg false r72_2) (.seq (.block 0 (.loop (.seq (.seq (.reg false r72_3) (.cond (.tmp 33) .skip (.exit 0))) (.block 1 (.seq (.reg false r72_4) (.seq (.reg true r72_5) (.cond (.tmp 50) (.reg false r72_6) (.reg false r72_7)))))))) (.seq (.seq (.reg false r72_8) (.block 2 (.loop (.seq (.seq (.reg false r72_9) (.cond (.tmp 58) .skip (.exit 2))) (.seq (.block 3 (.reg true r72_10)) (.reg false r72_11)))))) .ret)))) .skip)) (.seq (.seq (.reg false r72_12) (.cond (.tmp 80) (.seq (.reg false r72_13) (.seq (.reg false r72_14) (.seq (.block 4 (.loop (.seq (.seq (.reg false r72_15) (.cond (.tmp 85) .skip (.exit 4))) (.block 5 (.seq (.reg false r72_16) (.seq (.reg true r72_17) (.cond (.tmp 103) (.reg false r72_18) (.reg false r72_19)))))))) (.seq (.seq (.reg false r72_20) (.block 6 (.loop (.seq (.seq (.reg false r72_21) (.cond (.tmp 110) .skip (.exit 6))) (.seq (.block 7 (.reg true r72_22)) (.reg false r72_23)))))) .ret)))) .skip)) (.seq (.reg false r72_24) (.seq (.reg false r72_25) (.seq (.reg false r72_26) (.seq (.seq (.reg false r72_27) (.cond (.tmp 140) (.seq (.reg false r72_28) (.reg false r72_29)) (.seq (.reg false r72_30) (.reg false r72_31)))) (.seq (.reg false r72_32) (.seq (.block 8 (.loop (.seq (.seq (.reg false r72_33) (.cond (.tmp 151) .skip (.exit 8))) (.block 9 (.seq (.reg false r72_34) (.seq (.reg true r72_35) (.cond (.tmp 171) (.reg false r72_36) (.reg false r72_37)))))))) (.seq (.reg false r72_38) (.seq (.seq (.reg false r72_39) (.cond (.tmp 185) (.reg false r72_40) .skip)) (.seq (.seq (.reg false r72_41) (.cond (.tmp 199) (.reg false r72_42) .skip)) (.seq (.reg false r72_43) (.cond (.tmp 213) (.reg false r72_44) .skip)))))))))))))
theorem e72 {args : List PV} {h : Heap} {K : PV → Heap → Prop} (hl : args.length = 5) (s : pwp Try.prog [] c72 (fin Try.prog [] h K) (slots0 (olds args)) h) : CanP Try.prog 72 args h K :=
  can_of2 (n := 220) mixed Try.func72 rfl (by kernel_rfl) (by rw [hl]; kernel_rfl) rfl (by kernel_rfl) s
/-! ### slices.stableCmpFunc[int]: function 57 -/
def r57_0 : List PS := [.mk (some 6) (.assign (.const (.int .i64 20))) none]
def r57_1 : List PS := [.mk (some 10) (.move (.tmp 6)) none,
  .mk (some 7) (.assign (.const (.int .i64 0))) none,
  .mk (some 8) (.assign (.tmp 10)) none]
def r57_2 : List PS := [.mk (some 11) (.move (.tmp 8)) none,
  .mk (some 12) (.move (.tmp 1)) none,
  .mk (some 13) (.binOp .leq 3 (.tmp 11) (.tmp 12) 3) none]
def r57_3 : List PS := [.mk (some 14) (.move (.tmp 0)) none,
  .mk (some 15) (.move (.tmp 7)) none,
  .mk (some 16) (.move (.tmp 8)) none,
  .mk (some 17) (.move (.tmp 2)) none,
  .mk (some 18) (.call ⟨(.value (.func 71)), #[(.tmp 14), (.tmp 15), (.tmp 16), (.tmp 17)], #[22, 3, 3, 70]⟩) none]
def r57_4 : List PS := [.mk (some 19) (.move (.tmp 8)) none,
  .mk (some 7) (.assign (.tmp 19)) none]
def r57_5 : List PS := [.mk (some 20) (.move (.tmp 8)) none,
  .mk (some 21) (.move (.tmp 6)) none,
  .mk (some 22) (.binOp .add 3 (.tmp 20) (.tmp 21) 3) none,
  .mk (some 8) (.assign (.tmp 22)) none]
def r57_6 : List PS := [.mk (some 23) (.move (.tmp 0)) none,
  .mk (some 24) (.move (.tmp 7)) none,
  .mk (some 25) (.move (.tmp 1)) none,
  .mk (some 26) (.move (.tmp 2)) none,
  .mk (some 27) (.call ⟨(.value (.func 71)), #[(.tmp 23), (.tmp 24), (.tmp 25), (.tmp 26)], #[22, 3, 3, 70]⟩) none]
def r57_7 : List PS := [.mk (some 28) (.move (.tmp 6)) none,
  .mk (some 29) (.move (.tmp 1)) none,
  .mk (some 30) (.binOp .lss 3 (.tmp 28) (.tmp 29) 3) none]
def r57_8 : List PS := [.mk (some 31) (.move (.tmp 6)) none,
  .mk (some 32) (.binOp .mul 3 (.const (.int .i64 2)) (.tmp 31) 3) none,
  .mk (some 7) (.assign (.const (.int .i64 0))) none,
  .mk (some 8) (.assign (.tmp 32)) none]
def r57_9 : List PS := [.mk (some 33) (.move (.tmp 8)) none,
  .mk (some 34) (.move (.tmp 1)) none,
  .mk (some 35) (.binOp .leq 3 (.tmp 33) (.tmp 34) 3) none]
def r57_10 : List PS := [.mk (some 36) (.move (.tmp 0)) none,
  .mk (some 37) (.move (.tmp 7)) none,
  .mk (some 38) (.move (.tmp 7)) none,
  .mk (some 39) (.move (.tmp 6)) none,
  .mk (some 40) (.binOp .add 3 (.tmp 38) (.tmp 39) 3) none,
  .mk (some 41) (.move (.tmp 8)) none,
  .mk (some 42) (.move (.tmp 2)) none,
  .mk (some 43) (.call ⟨(.value (.func 72)), #[(.tmp 36), (.tmp 37), (.tmp 40), (.tmp 41), (.tmp 42)], #[22, 3, 3, 3, 70]⟩) none]
def r57_11 : List PS := [.mk (some 44) (.move (.tmp 8)) none,
  .mk (some 7) (.assign (.tmp 44)) none]
def r57_12 : List PS := [.mk (some 45) (.move (.tmp 8)) none,
  .mk (some 46) (.move (.tmp 6)) none,
  .mk (some 47) (.binOp .mul 3 (.const (.int .i64 2)) (.tmp 46) 3) none,
  .mk (some 48) (.binOp .add 3 (.tmp 45) (.tmp 47) 3) none,
  .mk (some 8) (.assign (.tmp 48)) none]
def r57_13 : List PS := [.mk (some 49) (.move (.tmp 7)) none,
  .mk (some 50) (.move (.tmp 6)) none,
  .mk (some 51) (.binOp .add 3 (.tmp 49) (.tmp 50) 3) none,
  .mk (some 9) (.assign (.tmp 51)) none]
def r57_14 : List PS := [.mk (some 52) (.move (.tmp 9)) none,
  .mk (some 53) (.move (.tmp 1)) none,
  .mk (some 54) (.binOp .lss 3 (.tmp 52) (.tmp 53) 3) none]
def r57_15 : List PS := [.mk (some 55) (.move (.tmp 0)) none,
  .mk (some 56) (.move (.tmp 7)) none,
  .mk (some 57) (.move (.tmp 9)) none,
  .mk (some 58) (.move (.tmp 1)) none,
  .mk (some 59) (.move (.tmp 2)) none,
  .mk (some 60) (.call ⟨(.value (.func 72)), #[(.tmp 55), (.tmp 56), (.tmp 57), (.tmp 58), (.tmp 59)], #[22, 3, 3, 3, 70]⟩) none]
def r57_16 : List PS := [.mk (some 61) (.move (.tmp 6)) none,
  .mk (some 62) (.binOp .mul 3 (.tmp 61) (.const (.int .i64 2)) 3) none,
  .mk (some 6) (.assign (.tmp 62)) none]
def c57 : PC := (.seq (.reg false r57_0) (.seq (.reg false r57_1) (.seq (.block 0 (.loop (.seq (.seq (.reg false r57_2) (.cond (.tmp 13) .skip (.exit 0))) (.block 1 (.seq (.reg false r57_3) (.seq (.reg false r57_4) (.reg false r57_5))))))) (.seq (.reg false r57_6) (.block 2 (.loop (.seq (.seq (.reg false r57_7) (.cond (.tmp 30) .skip (.exit 2))) (.block 3 (.seq (.reg false r57_8) (.seq (.block 4 (.loop (.seq (.seq (.reg false r57_9) (.cond (.tmp 35) .skip (.exit 4))) (.block 5 (.seq (.reg false r57_10) (.seq (.reg false r57_11) (.reg false r57_12))))))) (.seq (.seq (.reg false r57_13) (.seq (.reg false r57_14) (.cond (.tmp 54) (.reg false r57_15) .skip))) (.reg false r57_16))))))))))))
theorem e57 {args : List PV} {h : Heap} {K : PV → Heap → Prop} (hl : args.length = 3) (s : pwp Try.prog [] c57 (fin Try.prog [] h K) (slots0 (olds args)) h) : CanP Try.prog 57 args h K :=
  can_of2 (n := 63) mixed Try.func57 rfl (by kernel_rfl) (by rw [hl]; kernel_rfl) rfl (by kernel_rfl) s
/-! ### slices.SortStableFunc[[]int,int]: function 38 -/
def r38_0 : List PS := [.mk (some 4) (.move (.tmp 0)) none,
  .mk (some 5) (.move (.tmp 0)) none,
  .mk (some 6) (.call ⟨(.builtin .len), #[(.tmp 5)], #[22]⟩) none,
  .mk (some 7) (.move (.tmp 1)) none,
  .mk (some 8) (.call ⟨(.value (.func 57)), #[(.tmp 4), (.tmp 6), (.tmp 7)], #[22, 3, 70]⟩) none]
def c38 : PC := (.reg false r38_0)
theorem e38 {args : List PV} {h : Heap} {K : PV → Heap → Prop} (hl : args.length = 2) (s : pwp Try.prog [] c38 (fin Try.prog [] h K) (slots0 (olds args)) h) : CanP Try.prog 38 args h K :=
  can_of2 (n := 9) mixed Try.func38 rfl (by kernel_rfl) (by rw [hl]; kernel_rfl) rfl (by kernel_rfl) s
/-! ### (*naskh.ccc.Classes).Places$1$1: function 39 -/
def r39_0 : List PS := [.mk (some 6) (.assign (.const (.int .i64 0))) none]
def r39_1 : List PS := [.mk (some 7) (.load 24 (.tmp 2)) none,
  .mk (some 8) (.load 22 (.tmp 3)) none,
  .mk (some 9) (.move (.tmp 0)) none,
  .mk (some 10) (.indexAddr 22 (.tmp 8) (.tmp 9)) none,
  .mk (some 11) (.load 3 (.tmp 10)) none,
  .mk (some 12) (.call ⟨(.value (.func 40)), #[(.tmp 7), (.tmp 11)], #[24, 3]⟩) none,
  .mk (some 13) (.load 24 (.tmp 2)) none,
  .mk (some 14) (.load 22 (.tmp 3)) none,
  .mk (some 15) (.move (.tmp 1)) none,
  .mk (some 16) (.indexAddr 22 (.tmp 14) (.tmp 15)) none,
  .mk (some 17) (.load 3 (.tmp 16)) none,
  .mk (some 18) (.call ⟨(.value (.func 40)), #[(.tmp 13), (.tmp 17)], #[24, 3]⟩) none,
  .mk (some 19) (.binOp .sub 3 (.tmp 12) (.tmp 18) 3) none,
  .mk (some 6) (.assign (.tmp 19)) none]
def c39 : PC := (.seq (.reg false r39_0) (.seq (.reg true r39_1) .ret))
theorem e39 {args : List PV} {h : Heap} {K : PV → Heap → Prop} (hl : args.length = 4) (s : pwp Try.prog [] c39 (fin Try.prog [.tmp 6] h K) (slots0 (olds args)) h) : CanP Try.prog 39 args h K :=
  can_of2 (n := 20) mixed Try.func39 rfl (by kernel_rfl) (by rw [hl]; kernel_rfl) rfl (by kernel_rfl) s
/-! ### (*naskh.ccc.Classes).Places$1: function 37 -/
def r37_0 : List PS := [.mk (some 7) (.load 22 (.tmp 2)) none,
  .mk (some 8) (.move (.tmp 0)) none,
  .mk (some 9) (.move (.tmp 1)) none,
  .mk (some 10) (.slice 22 (.tmp 7) (some (.tmp 8)) (some (.tmp 9)) none) none,
  .mk (some 11) (.makeFunc (.func 39) #[] #[(.tmp 3), (.tmp 4)]) none,
  .mk (some 12) (.call ⟨(.value (.func 38)), #[(.tmp 10), (.tmp 11)], #[22, 70]⟩) none]
def c37 : PC := (.reg false r37_0)
theorem e37 {args : List PV} {h : Heap} {K : PV → Heap → Prop} (hl : args.length = 5) (s : pwp Try.prog [] c37 (fin Try.prog [] h K) (slots0 (olds args)) h) : CanP Try.prog 37 args h K :=
  can_of2 (n := 13) mixed Try.func37 rfl (by kernel_rfl) (by rw [hl]; kernel_rfl) rfl (by kernel_rfl) s
/-! ### (*naskh.ccc.Classes).Places: function 24 -/
def r24_0 : List PS := [.mk (some 2) (.box 24 (.tmp 0)) none,
  .mk (some 3) (.box 22 (.tmp 1)) none,
  .mk (some 4) (.assign (.const (.slice none 0 0))) none]
def r24_1 : List PS := [.mk (some 7) (.load 22 (.tmp 3)) none,
  .mk (some 8) (.call ⟨(.builtin .len), #[(.tmp 7)], #[22]⟩) none,
  .mk (some 9) (.makeSlice 22 (.tmp 8) (.tmp 8)) none,
  .mk (some 5) (.alloc 22) none,
  .mk none (.store 22 (.tmp 5) (.tmp 9)) none,
  .frz 5]
def r24_2 : List PS := [.mk (some 10) (.load 22 (.tmp 5)) none,
  .mk (some 11) (.call ⟨(.builtin .len), #[(.tmp 10)], #[22]⟩) none,
  .mk (some 12) (.move (.const (.int .i64 0))) none]
def r24_3 : List PS := [.mk (some 13) (.binOp .lss 3 (.tmp 12) (.tmp 11) 3) none]
def r24_4 : List PS := [.mk (some 14) (.move (.tmp 12)) none,
  .mk (some 6) (.assign (.tmp 14)) none]
def r24_5 : List PS := [.mk (some 15) (.load 22 (.tmp 5)) none,
  .mk (some 16) (.move (.tmp 6)) none,
  .mk (some 17) (.move (.tmp 6)) none,
  .mk (some 18) (.indexAddr 22 (.tmp 15) (.tmp 16)) none,
  .mk none (.store 3 (.tmp 18) (.tmp 17)) none]
def r24_6 : List PS := [.mk (some 19) (.binOp .add 3 (.tmp 12) (.const (.int .i64 1)) 3) none,
  .mk (some 12) (.move (.tmp 19)) none]
def r24_7 : List PS := [.mk (some 20) (.load 24 (.tmp 2)) none,
  .mk (some 21) (.load 22 (.tmp 3)) none,
  .mk (some 22) (.makeFunc (.func 37) #[] #[(.tmp 5), (.tmp 2), (.tmp 3)]) none,
  .mk (some 23) (.call ⟨(.value (.func 36)), #[(.tmp 20), (.tmp 21), (.tmp 22)], #[24, 22, 71]⟩) none]
def r24_8 : List PS := [.mk (some 24) (.load 22 (.tmp 5)) none,
  .mk (some 4) (.assign (.tmp 24)) none]
def c24 : PC := (.seq (.reg false r24_0) (.seq (.reg false r24_1) (.seq (.seq (.reg false r24_2) (.block 0 (.loop (.seq (.reg false r24_3) (.seq (.cond (.tmp 13) .skip (.exit 0)) (.seq (.block 1 (.seq (.reg false r24_4) (.reg false r24_5))) (.reg false r24_6))))))) (.seq (.reg false r24_7) (.seq (.reg false r24_8) .ret)))))
theorem e24 {args : List PV} {h : Heap} {K : PV → Heap → Prop} (hl : args.length = 2) (s : pwp Try.prog [5] c24 (fin Try.prog [.tmp 4] h K) (slots0 (olds args)) h) : CanP Try.prog 24 args h K :=
  can_of2 (n := 25) mixed Try.func24 rfl (by kernel_rfl) (by rw [hl]; kernel_rfl) rfl (by kernel_rfl) s
/-! ### (*naskh.amtra.row).of: function 25 -/
def r25_0 : List PS := [.mk (some 6) (.assign (.const (.bool false))) none]
def r25_1 : List PS := [.mk (some 7) (.move (.tmp 0)) none,
  .mk (some 8) (.nilCheck (.tmp 7)) none,
  .mk (some 9) (.fieldAddr 47 (.tmp 8) 0) none,
  .mk (some 10) (.load 24 (.tmp 9)) none,
  .mk (some 11) (.move (.tmp 0)) none,
  .mk (some 12) (.nilCheck (.tmp 11)) none,
  .mk (some 13) (.fieldAddr 47 (.tmp 12) 1) none,
  .mk (some 14) (.load 22 (.tmp 13)) none,
  .mk (some 15) (.move (.tmp 1)) none,
  .mk (some 16) (.indexAddr 22 (.tmp 14) (.tmp 15)) none,
  .mk (some 17) (.load 3 (.tmp 16)) none,
  .mk (some 18) (.call ⟨(.value (.func 40)), #[(.tmp 10), (.tmp 17)], #[24, 3]⟩) none,
  .mk (some 19) (.move (.tmp 2)) none,
  .mk (some 20) (.binOp .eql 3 (.tmp 18) (.tmp 19) 3) none,
  .mk (some 6) (.assign (.tmp 20)) none]
def c25 : PC := (.seq (.reg false r25_0) (.seq (.reg true r25_1) .ret))
theorem e25 {args : List PV} {h : Heap} {K : PV → Heap → Prop} (hl : args.length = 3) (s : pwp Try.prog [] c25 (fin Try.prog [.tmp 6] h K) (slots0 (olds args)) h) : CanP Try.prog 25 args h K :=
  can_of2 (n := 21) mixed Try.func25 rfl (by kernel_rfl) (by rw [hl]; kernel_rfl) rfl (by kernel_rfl) s
/-! ### (*naskh.amtra.row).take: function 59 -/
def r59_0 : List PS := [.mk (some 6) (.assign (.const (.slice none 0 0))) none]
def r59_1 : List PS := [.mk (some 7) (.assign (.const (.slice none 0 0))) none,
  .mk (some 8) (.assign (.const (.slice none 0 0))) none]
def r59_2 : List PS := [.mk (some 9) (.assign (.const (.bool false))) none]
def r59_3 : List PS := [.mk (some 12) (.move (.tmp 0)) none,
  .mk (some 13) (.nilCheck (.tmp 12)) none,
  .mk (some 14) (.fieldAddr 47 (.tmp 13) 2) none,
  .mk (some 15) (.load 22 (.tmp 14)) none,
  .mk (some 16) (.call ⟨(.builtin .len), #[(.tmp 15)], #[22]⟩) none,
  .mk (some 17) (.move (.const (.int .i64 0))) none]
def r59_4 : List PS := [.mk (some 18) (.binOp .lss 3 (.tmp 17) (.tmp 16) 3) none]
def r59_5 : List PS := [.mk (some 19) (.indexAddr 22 (.tmp 15) (.tmp 17)) none,
  .mk (some 20) (.load 3 (.tmp 19)) none,
  .mk (some 11) (.assign (.tmp 20)) none]
def r59_6 : List PS := [.mk (some 21) (.move (.tmp 9)) none,
  .mk (some 22) (.move (.tmp 21)) none,
  .mk (some 23) (.move (.tmp 2)) (some (22, false)),
  .mk (some 24) (.move (.tmp 11)) (some (22, false)),
  .mk (some 25) (.call ⟨(.value (.tmp 23)), #[(.tmp 24)], #[3]⟩) (some (22, false)),
  .mk (some 26) (.pick (.tmp 22) (.const (.bool true)) (.tmp 25)) none,
  .mk (some 9) (.assign (.tmp 26)) none]
def r59_7 : List PS := [.mk (some 27) (.move (.tmp 9)) none,
  .mk (some 28) (.unOp .not 4 (.tmp 27)) none,
  .mk (some 29) (.move (.tmp 28)) none,
  .mk (some 30) (.move (.tmp 1)) (some (29, true)),
  .mk (some 31) (.move (.tmp 11)) (some (29, true)),
  .mk (some 32) (.call ⟨(.value (.tmp 30)), #[(.tmp 31)], #[3]⟩) (some (29, true)),
  .mk (some 33) (.pick (.tmp 29) (.tmp 32) (.const (.bool false))) none]
def r59_8 : List PS := [.mk (some 34) (.move (.tmp 7)) none,
  .mk (some 35) (.move (.tmp 11)) none,
  .mk (some 36) (.buildSlice 22 1 #[(0, (.tmp 35))]) none,
  .mk (some 37) (.call ⟨(.builtin .append), #[(.tmp 34), (.tmp 36)], #[22, 22]⟩) none,
  .mk (some 7) (.assign (.tmp 37)) none]
def r59_9 : List PS := [.mk (some 38) (.move (.tmp 8)) none,
  .mk (some 39) (.move (.tmp 11)) none,
  .mk (some 40) (.buildSlice 22 1 #[(0, (.tmp 39))]) none,
  .mk (some 41) (.call ⟨(.builtin .append), #[(.tmp 38), (.tmp 40)], #[22, 22]⟩) none,
  .mk (some 8) (.assign (.tmp 41)) none]
def r59_10 : List PS := [.mk (some 42) (.binOp .add 3 (.tmp 17) (.const (.int .i64 1)) 3) none,
  .mk (some 17) (.move (.tmp 42)) none]
def r59_11 : List PS := [.mk (some 43) (.move (.tmp 0)) none,
  .mk (some 44) (.move (.tmp 8)) none,
  .mk (some 45) (.nilCheck (.tmp 43)) none,
  .mk (some 46) (.fieldAddr 47 (.tmp 45) 2) none,
  .mk none (.store 22 (.tmp 46) (.tmp 44)) none]
def r59_12 : List PS := [.mk (some 47) (.move (.tmp 7)) none,
  .mk (some 6) (.assign (.tmp 47)) none]
def c59 : PC := (.seq (.reg false r59_0) (.seq (.reg false r59_1) (.seq (.reg false r59_2) (.seq (.seq (.reg false r59_3) (.block 0 (.loop (.seq (.reg false r59_4) (.seq (.cond (.tmp 18) .skip (.exit 0)) (.seq (.block 1 (.seq (.reg false r59_5) (.seq (.reg false r59_6) (.seq (.reg false r59_7) (.cond (.tmp 33) (.reg false r59_8) (.reg false r59_9)))))) (.reg false r59_10))))))) (.seq (.reg false r59_11) (.seq (.reg false r59_12) .ret))))))
theorem e59 {args : List PV} {h : Heap} {K : PV → Heap → Prop} (hl : args.length = 3) (s : pwp Try.prog [] c59 (fin Try.prog [.tmp 6] h K) (slots0 (olds args)) h) : CanP Try.prog 59 args h K :=
  can_of2 (n := 48) mixed Try.func59 rfl (by kernel_rfl) (by rw [hl]; kernel_rfl) rfl (by kernel_rfl) s
/-! ### (*naskh.amtra.row).shaddas$1: function 60 -/
def r60_0 : List PS := [.mk (some 3) (.assign (.const (.bool false))) none]
def r60_1 : List PS := [.mk (some 4) (.load 45 (.tmp 1)) none,
  .mk (some 5) (.move (.tmp 0)) none,
  .mk (some 6) (.call ⟨(.value (.func 25)), #[(.tmp 4), (.tmp 5), (.const (.int .i64 33))], #[45, 3, 3]⟩) none,
  .mk (some 3) (.assign (.tmp 6)) none]
def c60 : PC := (.seq (.reg false r60_0) (.seq (.reg false r60_1) .ret))
theorem e60 {args : List PV} {h : Heap} {K : PV → Heap → Prop} (hl : args.length = 2) (s : pwp Try.prog [] c60 (fin Try.prog [.tmp 3] h K) (slots0 (olds args)) h) : CanP Try.prog 60 args h K :=
  can_of2 (n := 7) mixed Try.func60 rfl (by kernel_rfl) (by rw [hl]; kernel_rfl) rfl (by kernel_rfl) s
/-! ### naskh.amtra.never: function 61 -/
def r61_0 : List PS := [.mk (some 2) (.assign (.const (.bool false))) none]
def r61_1 : List PS := [.mk (some 2) (.assign (.const (.bool false))) none]
def c61 : PC := (.seq (.reg false r61_0) (.seq (.reg false r61_1) .ret))
theorem e61 {args : List PV} {h : Heap} {K : PV → Heap → Prop} (hl : args.length = 1) (s : pwp Try.prog [] c61 (fin Try.prog [.tmp 2] h K) (slots0 (olds args)) h) : CanP Try.prog 61 args h K :=
  can_of2 (n := 3) mixed Try.func61 rfl (by kernel_rfl) (by rw [hl]; kernel_rfl) rfl (by kernel_rfl) s
/-! ### (*naskh.amtra.row).shaddas: function 41 -/
def r41_0 : List PS := [.mk (some 1) (.box 45 (.tmp 0)) none,
  .mk (some 2) (.assign (.const (.slice none 0 0))) none]
def r41_1 : List PS := [.mk (some 3) (.load 45 (.tmp 1)) none,
  .mk (some 4) (.makeFunc (.func 60) #[] #[(.tmp 1)]) none,
  .mk (some 5) (.call ⟨(.value (.func 59)), #[(.tmp 3), (.tmp 4), (.func 61)], #[45, 29, 29]⟩) none,
  .mk (some 2) (.assign (.tmp 5)) none]
def c41 : PC := (.seq (.reg false r41_0) (.seq (.reg false r41_1) .ret))
theorem e41 {args : List PV} {h : Heap} {K : PV → Heap → Prop} (hl : args.length = 1) (s : pwp Try.prog [] c41 (fin Try.prog [.tmp 2] h K) (slots0 (olds args)) h) : CanP Try.prog 41 args h K :=
  can_of2 (n := 6) mixed Try.func41 rfl (by kernel_rfl) (by rw [hl]; kernel_rfl) rfl (by kernel_rfl) s
/-! ### (*naskh.amtra.row).movables$1: function 62 -/
def r62_0 : List PS := [.mk (some 4) (.assign (.const (.bool false))) none]
def r62_1 : List PS := [.mk (some 5) (.load 45 (.tmp 1)) none,
  .mk (some 6) (.move (.tmp 0)) none,
  .mk (some 7) (.load 3 (.tmp 2)) none,
  .mk (some 8) (.call ⟨(.value (.func 25)), #[(.tmp 5), (.tmp 6), (.tmp 7)], #[45, 3, 3]⟩) none,
  .mk (some 4) (.assign (.tmp 8)) none]
def c62 : PC := (.seq (.reg false r62_0) (.seq (.reg false r62_1) .ret))
theorem e62 {args : List PV} {h : Heap} {K : PV → Heap → Prop} (hl : args.length = 3) (s : pwp Try.prog [] c62 (fin Try.prog [.tmp 4] h K) (slots0 (olds args)) h) : CanP Try.prog 62 args h K :=
  can_of2 (n := 9) mixed Try.func62 rfl (by kernel_rfl) (by rw [hl]; kernel_rfl) rfl (by kernel_rfl) s
/-! ### slices.Index[[]int,int]: function 29 -/
def r29_0 : List PS := [.mk (some 4) (.assign (.const (.int .i64 0))) none]
def r29_1 : List PS := [.mk (some 6) (.move (.tmp 0)) none,
  .mk (some 7) (.call ⟨(.builtin .len), #[(.tmp 6)], #[22]⟩) none,
  .mk (some 8) (.move (.const (.int .i64 0))) none]
def r29_2 : List PS := [.mk (some 9) (.binOp .lss 3 (.tmp 8) (.tmp 7) 3) none]
def r29_3 : List PS := [.mk (some 10) (.move (.tmp 8)) none,
  .mk (some 5) (.assign (.tmp 10)) none]
def r29_4 : List PS := [.mk (some 11) (.move (.tmp 1)) none,
  .mk (some 12) (.move (.tmp 0)) none,
  .mk (some 13) (.move (.tmp 5)) none,
  .mk (some 14) (.indexAddr 22 (.tmp 12) (.tmp 13)) none,
  .mk (some 15) (.load 3 (.tmp 14)) none,
  .mk (some 16) (.binOp .eql 3 (.tmp 11) (.tmp 15) 3) none]
def r29_5 : List PS := [.mk (some 17) (.move (.tmp 5)) none,
  .mk (some 4) (.assign (.tmp 17)) none]
def r29_6 : List PS := [.mk (some 18) (.binOp .add 3 (.tmp 8) (.const (.int .i64 1)) 3) none,
  .mk (some 8) (.move (.tmp 18)) none]
def r29_7 : List PS := [.mk (some 4) (.assign (.const (.int .i64 (-1)))) none]
def c29 : PC := (.seq (.reg false r29_0) (.seq (.seq (.reg false r29_1) (.block 0 (.loop (.seq (.reg false r29_2) (.seq (.cond (.tmp 9) .skip (.exit 0)) (.seq (.block 1 (.seq (.reg false r29_3) (.seq (.reg false r29_4) (.cond (.tmp 16) (.seq (.reg false r29_5) .ret) .skip)))) (.reg false r29_6))))))) (.seq (.reg false r29_7) .ret)))
theorem e29 {args : List PV} {h : Heap} {K : PV → Heap → Prop} (hl : args.length = 2) (s : pwp Try.prog [] c29 (fin Try.prog [.tmp 4] h K) (slots0 (olds args)) h) : CanP Try.prog 29 args h K :=
  can_of2 (n := 19) mixed Try.func29 rfl (by kernel_rfl) (by rw [hl]; kernel_rfl) rfl (by kernel_rfl) s
/-! ### slices.Contains[[]int,int]: function 17 -/
def r17_0 : List PS := [.mk (some 4) (.assign (.const (.bool false))) none]
def r17_1 : List PS := [.mk (some 5) (.move (.tmp 0)) none,
  .mk (some 6) (.move (.tmp 1)) none,
  .mk (some 7) (.call ⟨(.value (.func 29)), #[(.tmp 5), (.tmp 6)], #[22, 3]⟩) none,
  .mk (some 8) (.binOp .geq 3 (.tmp 7) (.const (.int .i64 0)) 3) none,
  .mk (some 4) (.assign (.tmp 8)) none]
def c17 : PC := (.seq (.reg false r17_0) (.seq (.reg false r17_1) .ret))
theorem e17 {args : List PV} {h : Heap} {K : PV → Heap → Prop} (hl : args.length = 2) (s : pwp Try.prog [] c17 (fin Try.prog [.tmp 4] h K) (slots0 (olds args)) h) : CanP Try.prog 17 args h K :=
  can_of2 (n := 9) mixed Try.func17 rfl (by kernel_rfl) (by rw [hl]; kernel_rfl) rfl (by kernel_rfl) s
/-! ### naskh.api.Movable: function 18 -/
def r18_0 : List PS := [.mk (some 0) (.assign (.const (.slice none 0 0))) none]
def r18_1 : List PS := [.mk (some 1) (.buildSlice 22 9 #[(0, (.const (.int .i64 1620))), (1, (.const (.int .i64 1621))), (2, (.const (.int .i64 1624))), (3, (.const (.int .i64 1756))), (4, (.const (.int .i64 1763))), (5, (.const (.int .i64 1767))), (6, (.const (.int .i64 1768))), (7, (.const (.int .i64 2259))), (8, (.const (.int .i64 2291)))]) none,
  .mk (some 0) (.assign (.tmp 1)) none]
def c18 : PC := (.seq (.reg false r18_0) (.seq (.reg false r18_1) .ret))
theorem e18 {args : List PV} {h : Heap} {K : PV → Heap → Prop} (hl : args.length = 0) (s : pwp Try.prog [] c18 (fin Try.prog [.tmp 0] h K) (slots0 (olds args)) h) : CanP Try.prog 18 args h K :=
  can_of2 (n := 2) mixed Try.func18 rfl (by kernel_rfl) (by rw [hl]; kernel_rfl) rfl (by kernel_rfl) s
/-! ### naskh.amtra.Movable: function 14 -/
def r14_0 : List PS := [.mk (some 2) (.assign (.const (.bool false))) none]
def r14_1 : List PS := [.mk (some 3) (.call ⟨(.value (.func 18)), #[], #[]⟩) none,
  .mk (some 4) (.move (.tmp 0)) none,
  .mk (some 5) (.call ⟨(.value (.func 17)), #[(.tmp 3), (.tmp 4)], #[22, 3]⟩) none,
  .mk (some 2) (.assign (.tmp 5)) none]
def c14 : PC := (.seq (.reg false r14_0) (.seq (.reg false r14_1) .ret))
theorem e14 {args : List PV} {h : Heap} {K : PV → Heap → Prop} (hl : args.length = 1) (s : pwp Try.prog [] c14 (fin Try.prog [.tmp 2] h K) (slots0 (olds args)) h) : CanP Try.prog 14 args h K :=
  can_of2 (n := 6) mixed Try.func14 rfl (by kernel_rfl) (by rw [hl]; kernel_rfl) rfl (by kernel_rfl) s
/-! ### (*naskh.amtra.row).movables$2: function 63 -/
def r63_0 : List PS := [.mk (some 4) (.assign (.const (.bool false))) none]
def r63_1 : List PS := [.mk (some 5) (.load 29 (.tmp 1)) none,
  .mk (some 6) (.move (.tmp 0)) none,
  .mk (some 7) (.call ⟨(.value (.tmp 5)), #[(.tmp 6)], #[3]⟩) none,
  .mk (some 8) (.move (.tmp 7)) none,
  .mk (some 9) (.load 45 (.tmp 2)) (some (8, true)),
  .mk (some 10) (.nilCheck (.tmp 9)) (some (8, true)),
  .mk (some 11) (.fieldAddr 47 (.tmp 10) 1) (some (8, true)),
  .mk (some 12) (.load 22 (.tmp 11)) (some (8, true)),
  .mk (some 13) (.move (.tmp 0)) (some (8, true)),
  .mk (some 14) (.indexAddr 22 (.tmp 12) (.tmp 13)) (some (8, true)),
  .mk (some 15) (.load 3 (.tmp 14)) (some (8, true)),
  .mk (some 16) (.call ⟨(.value (.func 14)), #[(.tmp 15)], #[3]⟩) (some (8, true)),
  .mk (some 17) (.unOp .not 4 (.tmp 16)) (some (8, true)),
  .mk (some 18) (.pick (.tmp 8) (.tmp 17) (.const (.bool false))) none,
  .mk (some 4) (.assign (.tmp 18)) none]
def c63 : PC := (.seq (.reg false r63_0) (.seq (.reg false r63_1) .ret))
theorem e63 {args : List PV} {h : Heap} {K : PV → Heap → Prop} (hl : args.length = 3) (s : pwp Try.prog [] c63 (fin Try.prog [.tmp 4] h K) (slots0 (olds args)) h) : CanP Try.prog 63 args h K :=
  can_of2 (n := 19) mixed Try.func63 rfl (by kernel_rfl) (by rw [hl]; kernel_rfl) rfl (by kernel_rfl) s
/-! ### (*naskh.amtra.row).movables: function 42 -/
def r42_0 : List PS := [.mk (some 2) (.box 45 (.tmp 0)) none,
  .mk (some 4) (.assign (.const (.slice none 0 0))) none]
def r42_1 : List PS := [.mk (some 5) (.assign (.const (.slice none 0 0))) none]
def r42_2 : List PS := [.mk (some 10) (.move (.tmp 1)) none,
  .mk (some 11) (.call ⟨(.builtin .len), #[(.tmp 10)], #[22]⟩) none,
  .mk (some 12) (.move (.const (.int .i64 0))) none]
def r42_3 : List PS := [.mk (some 13) (.binOp .lss 3 (.tmp 12) (.tmp 11) 3) none]
def r42_4 : List PS := [.mk (some 14) (.indexAddr 22 (.tmp 10) (.tmp 12)) none,
  .mk (some 15) (.load 3 (.tmp 14)) none,
  .mk (some 7) (.alloc 3) none,
  .mk none (.store 3 (.tmp 7) (.tmp 15)) none,
  .frz 7]
def r42_5 : List PS := [.mk (some 16) (.makeFunc (.func 62) #[] #[(.tmp 2), (.tmp 7)]) none,
  .mk (some 8) (.alloc 29) none,
  .mk none (.store 29 (.tmp 8) (.tmp 16)) none,
  .frz 8]
def r42_6 : List PS := [.mk (some 17) (.makeFunc (.func 63) #[] #[(.tmp 8), (.tmp 2)]) none,
  .mk (some 9) (.assign (.tmp 17)) none]
def r42_7 : List PS := [.mk (some 18) (.move (.tmp 5)) none,
  .mk (some 19) (.load 45 (.tmp 2)) none,
  .mk (some 20) (.load 29 (.tmp 8)) none,
  .mk (some 21) (.move (.tmp 9)) none,
  .mk (some 22) (.call ⟨(.value (.func 59)), #[(.tmp 19), (.tmp 20), (.tmp 21)], #[45, 29, 29]⟩) none,
  .mk (some 23) (.call ⟨(.builtin .append), #[(.tmp 18), (.tmp 22)], #[22, 22]⟩) none,
  .mk (some 5) (.assign (.tmp 23)) none]
def r42_8 : List PS := [.mk (some 24) (.binOp .add 3 (.tmp 12) (.const (.int .i64 1)) 3) none,
  .mk (some 12) (.move (.tmp 24)) none]
def r42_9 : List PS := [.mk (some 25) (.move (.tmp 5)) none,
  .mk (some 4) (.assign (.tmp 25)) none]
def c42 : PC := (.seq (.reg false r42_0) (.seq (.reg false r42_1) (.seq (.seq (.reg false r42_2) (.block 0 (.loop (.seq (.reg false r42_3) (.seq (.cond (.tmp 13) .skip (.exit 0)) (.seq (.block 1 (.seq (.reg false r42_4) (.seq (.reg false r42_5) (.seq (.reg false r42_6) (.reg false r42_7))))) (.reg false r42_8))))))) (.seq (.reg false r42_9) .ret))))
theorem e42 {args : List PV} {h : Heap} {K : PV → Heap → Prop} (hl : args.length = 2) (s : pwp Try.prog [7, 8] c42 (fin Try.prog [.tmp 4] h K) (slots0 (olds args)) h) : CanP Try.prog 42 args h K :=
  can_of2 (n := 26) mixed Try.func42 rfl (by kernel_rfl) (by rw [hl]; kernel_rfl) rfl (by kernel_rfl) s
/-! ### slices.Grow[[]int,int]: function 64 -/
def r64_0 : List PS := [.mk (some 4) (.assign (.const (.slice none 0 0))) none]
def r64_1 : List PS := [.mk (some 5) (.move (.tmp 1)) none,
  .mk (some 6) (.binOp .lss 3 (.tmp 5) (.const (.int .i64 0)) 3) none]
def r64_2 : List PS := [.mk (some 7) (.makeInterface 9 (.const (.string ⟨#[99, 97, 110, 110, 111, 116, 32, 98, 101, 32, 110, 101, 103, 97, 116, 105, 118, 101]⟩))) none,
  .mk none (.panic (.tmp 7)) none]
def r64_3 : List PS := [.mk (some 8) (.move (.tmp 1)) none,
  .mk (some 9) (.move (.tmp 0)) none,
  .mk (some 10) (.call ⟨(.builtin .cap), #[(.tmp 9)], #[22]⟩) none,
  .mk (some 11) (.move (.tmp 0)) none,
  .mk (some 12) (.call ⟨(.builtin .len), #[(.tmp 11)], #[22]⟩) none,
  .mk (some 13) (.binOp .sub 3 (.tmp 10) (.tmp 12) 3) none,
  .mk (some 14) (.binOp .sub 3 (.tmp 8) (.tmp 13) 3) none,
  .mk (some 1) (.assign (.tmp 14)) none]
def r64_4 : List PS := [.mk (some 15) (.move (.tmp 1)) none,
  .mk (some 16) (.binOp .gtr 3 (.tmp 15) (.const (.int .i64 0)) 3) none]
def r64_5 : List PS := [.mk (some 17) (.move (.tmp 0)) none,
  .mk (some 18) (.move (.tmp 0)) none,
  .mk (some 19) (.call ⟨(.builtin .cap), #[(.tmp 18)], #[22]⟩) none,
  .mk (some 20) (.slice 22 (.tmp 17) none (some (.tmp 19)) none) none,
  .mk (some 21) (.move (.tmp 1)) none,
  .mk (some 22) (.call ⟨(.builtin .append), #[(.tmp 20), (.tmp 21)], #[22, 3]⟩) none,
  .mk (some 23) (.move (.tmp 0)) none,
  .mk (some 24) (.call ⟨(.builtin .len), #[(.tmp 23)], #[22]⟩) none,
  .mk (some 25) (.slice 22 (.tmp 22) none (some (.tmp 24)) none) none,
  .mk (some 0) (.assign (.tmp 25)) none]
def r64_6 : List PS := [.mk (some 26) (.move (.tmp 0)) none,
  .mk (some 4) (.assign (.tmp 26)) none]
def c64 : PC := (.seq (.reg false r64_0) (.seq (.seq (.reg false r64_1) (.cond (.tmp 6) (.reg false r64_2) .skip)) (.seq (.seq (.reg false r64_3) (.seq (.reg false r64_4) (.cond (.tmp 16) (.reg false r64_5) .skip))) (.seq (.reg false r64_6) .ret))))
theorem e64 {args : List PV} {h : Heap} {K : PV → Heap → Prop} (hl : args.length = 2) (s : pwp Try.prog [] c64 (fin Try.prog [.tmp 4] h K) (slots0 (olds args)) h) : CanP Try.prog 64 args h K :=
  can_of2 (n := 27) mixed Try.func64 rfl (by kernel_rfl) (by rw [hl]; kernel_rfl) rfl (by kernel_rfl) s
/-! ### slices.Concat[[]int,int]: function 43 -/
def r43_0 : List PS := [.mk (some 2) (.assign (.const (.slice none 0 0))) none]
def r43_1 : List PS := [.mk (some 3) (.assign (.const (.int .i64 0))) none]
def r43_2 : List PS := [.mk (some 9) (.move (.tmp 0)) none,
  .mk (some 10) (.call ⟨(.builtin .len), #[(.tmp 9)], #[92]⟩) none,
  .mk (some 11) (.move (.const (.int .i64 0))) none]
def r43_3 : List PS := [.mk (some 12) (.binOp .lss 3 (.tmp 11) (.tmp 10) 3) none]
def r43_4 : List PS := [.mk (some 13) (.indexAddr 92 (.tmp 9) (.tmp 11)) none,
  .mk (some 14) (.load 22 (.tmp 13)) none,
  .mk (some 5) (.assign (.tmp 14)) none]
def r43_5 : List PS := [.mk (some 15) (.move (.tmp 3)) none,
  .mk (some 16) (.move (.tmp 5)) none,
  .mk (some 17) (.call ⟨(.builtin .len), #[(.tmp 16)], #[22]⟩) none,
  .mk (some 18) (.binOp .add 3 (.tmp 15) (.tmp 17) 3) none,
  .mk (some 3) (.assign (.tmp 18)) none]
def r43_6 : List PS := [.mk (some 19) (.move (.tmp 3)) none,
  .mk (some 20) (.binOp .lss 3 (.tmp 19) (.const (.int .i64 0)) 3) none]
def r43_7 : List PS := [.mk (some 21) (.makeInterface 9 (.const (.string ⟨#[108, 101, 110, 32, 111, 117, 116, 32, 111, 102, 32, 114, 97, 110, 103, 101]⟩))) none,
  .mk none (.panic (.tmp 21)) none]
def r43_8 : List PS := [.mk (some 22) (.binOp .add 3 (.tmp 11) (.const (.int .i64 1)) 3) none,
  .mk (some 11) (.move (.tmp 22)) none]
def r43_9 : List PS := [.mk (some 23) (.move (.tmp 3)) none,
  .mk (some 24) (.call ⟨(.value (.func 64)), #[(.const (.slice none 0 0)), (.tmp 23)], #[22, 3]⟩) none,
  .mk (some 6) (.assign (.tmp 24)) none]
def r43_10 : List PS := [.mk (some 25) (.move (.tmp 0)) none,
  .mk (some 26) (.call ⟨(.builtin .len), #[(.tmp 25)], #[92]⟩) none,
  .mk (some 27) (.move (.const (.int .i64 0))) none]
def r43_11 : List PS := [.mk (some 28) (.binOp .lss 3 (.tmp 27) (.tmp 26) 3) none]
def r43_12 : List PS := [.mk (some 29) (.indexAddr 92 (.tmp 25) (.tmp 27)) none,
  .mk (some 30) (.load 22 (.tmp 29)) none,
  .mk (some 8) (.assign (.tmp 30)) none]
def r43_13 : List PS := [.mk (some 31) (.move (.tmp 6)) none,
  .mk (some 32) (.move (.tmp 8)) none,
  .mk (some 33) (.call ⟨(.builtin .append), #[(.tmp 31), (.tmp 32)], #[22, 22]⟩) none,
  .mk (some 6) (.assign (.tmp 33)) none]
def r43_14 : List PS := [.mk (some 34) (.binOp .add 3 (.tmp 27) (.const (.int .i64 1)) 3) none,
  .mk (some 27) (.move (.tmp 34)) none]
def r43_15 : List PS := [.mk (some 35) (.move (.tmp 6)) none,
  .mk (some 2) (.assign (.tmp 35)) none]
def c43 : PC := (.seq (.reg false r43_0) (.seq (.reg false r43_1) (.seq (.seq (.reg false r43_2) (.block 0 (.loop (.seq (.reg false r43_3) (.seq (.cond (.tmp 12) .skip (.exit 0)) (.seq (.block 1 (.seq (.reg false r43_4) (.seq (.reg false r43_5) (.seq (.reg false r43_6) (.cond (.tmp 20) (.reg false r43_7) .skip))))) (.reg false r43_8))))))) (.seq (.reg false r43_9) (.seq (.seq (.reg false r43_10) (.block 2 (.loop (.seq (.reg false r43_11) (.seq (.cond (.tmp 28) .skip (.exit 2)) (.seq (.block 3 (.seq (.reg false r43_12) (.reg false r43_13))) (.reg false r43_14))))))) (.seq (.reg false r43_15) .ret))))))
theorem e43 {args : List PV} {h : Heap} {K : PV → Heap → Prop} (hl : args.length = 1) (s : pwp Try.prog [] c43 (fin Try.prog [.tmp 2] h K) (slots0 (olds args)) h) : CanP Try.prog 43 args h K :=
  can_of2 (n := 36) mixed Try.func43 rfl (by kernel_rfl) (by rw [hl]; kernel_rfl) rfl (by kernel_rfl) s
/-! ### (*naskh.amtra.row).drawn: function 26 -/
def r26_0 : List PS := [.mk (some 2) (.assign (.const (.slice none 0 0))) none]
def r26_1 : List PS := [.mk (some 5) (.move (.tmp 0)) none,
  .mk (some 6) (.call ⟨(.value (.func 41)), #[(.tmp 5)], #[45]⟩) none,
  .mk (some 3) (.assign (.tmp 6)) none]
def r26_2 : List PS := [.mk (some 7) (.move (.tmp 0)) none,
  .mk (some 8) (.buildSlice 22 2 #[(0, (.const (.int .i64 230))), (1, (.const (.int .i64 220)))]) none,
  .mk (some 9) (.call ⟨(.value (.func 42)), #[(.tmp 7), (.tmp 8)], #[45, 22]⟩) none,
  .mk (some 4) (.assign (.tmp 9)) none]
def r26_3 : List PS := [.mk (some 10) (.move (.tmp 3)) none,
  .mk (some 11) (.move (.tmp 4)) none,
  .mk (some 12) (.move (.tmp 0)) none,
  .mk (some 13) (.nilCheck (.tmp 12)) none,
  .mk (some 14) (.fieldAddr 47 (.tmp 13) 2) none,
  .mk (some 15) (.load 22 (.tmp 14)) none,
  .mk (some 16) (.buildSlice 92 3 #[(0, (.tmp 10)), (1, (.tmp 11)), (2, (.tmp 15))]) none,
  .mk (some 17) (.call ⟨(.value (.func 43)), #[(.tmp 16)], #[92]⟩) none,
  .mk (some 2) (.assign (.tmp 17)) none]
def c26 : PC := (.seq (.reg false r26_0) (.seq (.reg false r26_1) (.seq (.reg false r26_2) (.seq (.reg false r26_3) .ret))))
theorem e26 {args : List PV} {h : Heap} {K : PV → Heap → Prop} (hl : args.length = 1) (s : pwp Try.prog [] c26 (fin Try.prog [.tmp 2] h K) (slots0 (olds args)) h) : CanP Try.prog 26 args h K :=
  can_of2 (n := 18) mixed Try.func26 rfl (by kernel_rfl) (by rw [hl]; kernel_rfl) rfl (by kernel_rfl) s
/-! ### naskh.amtra.Places: function 10 -/
def r10_0 : List PS := [.mk (some 4) (.assign (.const (.slice none 0 0))) none]
def r10_1 : List PS := [.mk (some 5) (.assign (.const (.slice none 0 0))) none]
def r10_2 : List PS := [.mk (some 9) (.move (.tmp 0)) none,
  .mk (some 10) (.move (.tmp 1)) none,
  .mk (some 11) (.build 47 #[(0, (.tmp 9)), (1, (.tmp 10))]) none,
  .mk (some 12) (.box 47 (.tmp 11)) none,
  .mk (some 6) (.assign (.tmp 12)) none]
def r10_3 : List PS := [.mk (some 13) (.move (.tmp 0)) none,
  .mk (some 14) (.move (.tmp 1)) none,
  .mk (some 15) (.call ⟨(.value (.func 24)), #[(.tmp 13), (.tmp 14)], #[24, 22]⟩) none,
  .mk (some 16) (.call ⟨(.builtin .len), #[(.tmp 15)], #[22]⟩) none,
  .mk (some 17) (.move (.const (.int .i64 0))) none]
def r10_4 : List PS := [.mk (some 18) (.binOp .lss 3 (.tmp 17) (.tmp 16) 3) none]
def r10_5 : List PS := [.mk (some 19) (.indexAddr 22 (.tmp 15) (.tmp 17)) none,
  .mk (some 20) (.load 3 (.tmp 19)) none,
  .mk (some 8) (.assign (.tmp 20)) none]
def r10_6 : List PS := [.mk (some 21) (.move (.tmp 6)) none,
  .mk (some 22) (.move (.tmp 8)) none,
  .mk (some 23) (.call ⟨(.value (.func 25)), #[(.tmp 21), (.tmp 22), (.const (.int .i64 0))], #[45, 3, 3]⟩) none,
  .mk (some 24) (.unOp .not 4 (.tmp 23)) none]
def r10_7 : List PS := [.mk (some 25) (.move (.tmp 6)) none,
  .mk (some 26) (.move (.tmp 6)) none,
  .mk (some 27) (.nilCheck (.tmp 26)) none,
  .mk (some 28) (.fieldAddr 47 (.tmp 27) 2) none,
  .mk (some 29) (.load 22 (.tmp 28)) none,
  .mk (some 30) (.move (.tmp 8)) none,
  .mk (some 31) (.buildSlice 22 1 #[(0, (.tmp 30))]) none,
  .mk (some 32) (.call ⟨(.builtin .append), #[(.tmp 29), (.tmp 31)], #[22, 22]⟩) none,
  .mk (some 33) (.nilCheck (.tmp 25)) none,
  .mk (some 34) (.fieldAddr 47 (.tmp 33) 2) none,
  .mk none (.store 22 (.tmp 34) (.tmp 32)) none]
def r10_8 : List PS := [.mk (some 35) (.move (.tmp 5)) none,
  .mk (some 36) (.move (.tmp 6)) none,
  .mk (some 37) (.call ⟨(.value (.func 26)), #[(.tmp 36)], #[45]⟩) none,
  .mk (some 38) (.call ⟨(.builtin .append), #[(.tmp 35), (.tmp 37)], #[22, 22]⟩) none,
  .mk (some 5) (.assign (.tmp 38)) none]
def r10_9 : List PS := [.mk (some 39) (.move (.tmp 5)) none,
  .mk (some 40) (.move (.tmp 8)) none,
  .mk (some 41) (.buildSlice 22 1 #[(0, (.tmp 40))]) none,
  .mk (some 42) (.call ⟨(.builtin .append), #[(.tmp 39), (.tmp 41)], #[22, 22]⟩) none,
  .mk (some 5) (.assign (.tmp 42)) none]
def r10_10 : List PS := [.mk (some 43) (.move (.tmp 6)) none,
  .mk (some 44) (.nilCheck (.tmp 43)) none,
  .mk (some 45) (.fieldAddr 47 (.tmp 44) 2) none,
  .mk none (.store 22 (.tmp 45) (.const (.slice none 0 0))) none]
def r10_11 : List PS := [.mk (some 46) (.binOp .add 3 (.tmp 17) (.const (.int .i64 1)) 3) none,
  .mk (some 17) (.move (.tmp 46)) none]
def r10_12 : List PS := [.mk (some 47) (.move (.tmp 5)) none,
  .mk (some 48) (.move (.tmp 6)) none,
  .mk (some 49) (.call ⟨(.value (.func 26)), #[(.tmp 48)], #[45]⟩) none,
  .mk (some 50) (.call ⟨(.builtin .append), #[(.tmp 47), (.tmp 49)], #[22, 22]⟩) none,
  .mk (some 4) (.assign (.tmp 50)) none]
def c10 : PC := (.seq (.reg false r10_0) (.seq (.reg false r10_1) (.seq (.reg false r10_2) (.seq (.seq (.reg false r10_3) (.block 0 (.loop (.seq (.reg false r10_4) (.seq (.cond (.tmp 18) .skip (.exit 0)) (.seq (.block 1 (.seq (.reg false r10_5) (.seq (.seq (.reg false r10_6) (.cond (.tmp 24) (.seq (.reg false r10_7) (.exit 1)) .skip)) (.seq (.reg false r10_8) (.seq (.reg false r10_9) (.reg false r10_10)))))) (.reg false r10_11))))))) (.seq (.reg false r10_12) .ret)))))
theorem e10 {args : List PV} {h : Heap} {K : PV → Heap → Prop} (hl : args.length = 2) (s : pwp Try.prog [12] c10 (fin Try.prog [.tmp 4] h K) (slots0 (olds args)) h) : CanP Try.prog 10 args h K :=
  can_of2 (n := 51) mixed Try.func10 rfl (by kernel_rfl) (by rw [hl]; kernel_rfl) rfl (by kernel_rfl) s
/-! ### naskh.amtra.Order: function 12 -/
def r12_0 : List PS := [.mk (some 4) (.assign (.const (.slice none 0 0))) none]
def r12_1 : List PS := [.mk (some 8) (.move (.tmp 1)) none,
  .mk (some 9) (.call ⟨(.builtin .len), #[(.tmp 8)], #[22]⟩) none,
  .mk (some 10) (.makeSlice 22 (.tmp 9) (.tmp 9)) none,
  .mk (some 5) (.assign (.tmp 10)) none]
def r12_2 : List PS := [.mk (some 11) (.move (.tmp 0)) none,
  .mk (some 12) (.move (.tmp 1)) none,
  .mk (some 13) (.call ⟨(.value (.func 10)), #[(.tmp 11), (.tmp 12)], #[24, 22]⟩) none,
  .mk (some 14) (.call ⟨(.builtin .len), #[(.tmp 13)], #[22]⟩) none,
  .mk (some 15) (.move (.const (.int .i64 0))) none]
def r12_3 : List PS := [.mk (some 16) (.binOp .lss 3 (.tmp 15) (.tmp 14) 3) none]
def r12_4 : List PS := [.mk (some 17) (.move (.tmp 15)) none,
  .mk (some 18) (.indexAddr 22 (.tmp 13) (.tmp 15)) none,
  .mk (some 19) (.load 3 (.tmp 18)) none,
  .mk (some 6) (.assign (.tmp 17)) none,
  .mk (some 7) (.assign (.tmp 19)) none]
def r12_5 : List PS := [.mk (some 20) (.move (.tmp 5)) none,
  .mk (some 21) (.move (.tmp 6)) none,
  .mk (some 22) (.move (.tmp 1)) none,
  .mk (some 23) (.move (.tmp 7)) none,
  .mk (some 24) (.indexAddr 22 (.tmp 22) (.tmp 23)) none,
  .mk (some 25) (.load 3 (.tmp 24)) none,
  .mk (some 26) (.indexAddr 22 (.tmp 20) (.tmp 21)) none,
  .mk none (.store 3 (.tmp 26) (.tmp 25)) none]
def r12_6 : List PS := [.mk (some 27) (.binOp .add 3 (.tmp 15) (.const (.int .i64 1)) 3) none,
  .mk (some 15) (.move (.tmp 27)) none]
def r12_7 : List PS := [.mk (some 28) (.move (.tmp 5)) none,
  .mk (some 4) (.assign (.tmp 28)) none]
def c12 : PC := (.seq (.reg false r12_0) (.seq (.reg false r12_1) (.seq (.seq (.reg false r12_2) (.block 0 (.loop (.seq (.reg false r12_3) (.seq (.cond (.tmp 16) .skip (.exit 0)) (.seq (.block 1 (.seq (.reg false r12_4) (.reg false r12_5))) (.reg false r12_6))))))) (.seq (.reg false r12_7) .ret))))
theorem e12 {args : List PV} {h : Heap} {K : PV → Heap → Prop} (hl : args.length = 2) (s : pwp Try.prog [] c12 (fin Try.prog [.tmp 4] h K) (slots0 (olds args)) h) : CanP Try.prog 12 args h K :=
  can_of2 (n := 29) mixed Try.func12 rfl (by kernel_rfl) (by rw [hl]; kernel_rfl) rfl (by kernel_rfl) s
/-! ### naskh.naskhlaw38.awake: function 7 -/
def r7_0 : List PS := [.mk (some 0) (.assign (.const (.bool false))) none]
def r7_1 : List PS := [.mk (some 1) (.call ⟨(.value (.func 8)), #[], #[]⟩) none,
  .mk (some 2) (.buildSlice 22 2 #[(0, (.const (.int .i64 1614))), (1, (.const (.int .i64 1617)))]) none,
  .mk (some 3) (.call ⟨(.value (.func 12)), #[(.tmp 1), (.tmp 2)], #[24, 22]⟩) none,
  .mk (some 4) (.buildSlice 22 2 #[(0, (.const (.int .i64 1617))), (1, (.const (.int .i64 1614)))]) none,
  .mk (some 5) (.call ⟨(.value (.func 9)), #[(.tmp 3), (.tmp 4)], #[22, 22]⟩) none,
  .mk (some 6) (.move (.tmp 5)) none,
  .mk (some 7) (.call ⟨(.value (.func 14)), #[(.const (.int .i64 1620))], #[3]⟩) (some (6, true)),
  .mk (some 8) (.pick (.tmp 6) (.tmp 7) (.const (.bool false))) none,
  .mk (some 0) (.assign (.tmp 8)) none]
def c7 : PC := (.seq (.reg false r7_0) (.seq (.reg false r7_1) .ret))
theorem e7 {args : List PV} {h : Heap} {K : PV → Heap → Prop} (hl : args.length = 0) (s : pwp Try.prog [] c7 (fin Try.prog [.tmp 0] h K) (slots0 (olds args)) h) : CanP Try.prog 7 args h K :=
  can_of2 (n := 9) mixed Try.func7 rfl (by kernel_rfl) (by rw [hl]; kernel_rfl) rfl (by kernel_rfl) s
/-! ### naskh.naskhref06.Get: function 30 -/
def r30_0 : List PS := [.mk (some 6) (.assign (.const (.int .i64 0))) none]
def r30_1 : List PS := [.mk (some 7) (.assign (.const (.int .i64 0))) none]
def r30_2 : List PS := [.mk (some 8) (.move (.tmp 7)) none,
  .mk (some 9) (.move (.tmp 0)) none,
  .mk (some 10) (.call ⟨(.builtin .len), #[(.tmp 9)], #[39]⟩) none,
  .mk (some 11) (.binOp .lss 3 (.tmp 8) (.tmp 10) 3) none]
def r30_3 : List PS := [.mk (some 14) (.move (.tmp 2)) none,
  .mk (some 15) (.move (.tmp 0)) none,
  .mk (some 16) (.move (.tmp 7)) none,
  .mk (some 17) (.indexAddr 39 (.tmp 15) (.tmp 16)) none,
  .mk (some 18) (.fieldAddr 67 (.tmp 17) 0) none,
  .mk (some 19) (.load 3 (.tmp 18)) none,
  .mk (some 20) (.binOp .geq 3 (.tmp 14) (.tmp 19) 3) none,
  .mk (some 21) (.move (.tmp 20)) none,
  .mk (some 22) (.move (.tmp 2)) (some (21, true)),
  .mk (some 23) (.move (.tmp 0)) (some (21, true)),
  .mk (some 24) (.move (.tmp 7)) (some (21, true)),
  .mk (some 25) (.indexAddr 39 (.tmp 23) (.tmp 24)) (some (21, true)),
  .mk (some 26) (.fieldAddr 67 (.tmp 25) 1) (some (21, true)),
  .mk (some 27) (.load 3 (.tmp 26)) (some (21, true)),
  .mk (some 28) (.binOp .leq 3 (.tmp 22) (.tmp 27) 3) (some (21, true)),
  .mk (some 29) (.pick (.tmp 21) (.tmp 28) (.const (.bool false))) none]
def r30_4 : List PS := [.mk (some 30) (.move (.tmp 0)) none,
  .mk (some 31) (.move (.tmp 7)) none,
  .mk (some 32) (.indexAddr 39 (.tmp 30) (.tmp 31)) none,
  .mk (some 33) (.fieldAddr 67 (.tmp 32) 2) none,
  .mk (some 34) (.load 3 (.tmp 33)) none,
  .mk (some 6) (.assign (.tmp 34)) none]
def r30_5 : List PS := [.mk (some 12) (.move (.tmp 7)) none,
  .mk (some 13) (.binOp .add 3 (.tmp 12) (.const (.int .i64 1)) 3) none,
  .mk (some 7) (.assign (.tmp 13)) none]
def r30_6 : List PS := [.mk (some 35) (.move (.tmp 1)) none,
  .mk (some 6) (.assign (.tmp 35)) none]
def c30 : PC := (.seq (.reg false r30_0) (.seq (.seq (.reg false r30_1) (.block 0 (.loop (.seq (.seq (.reg false r30_2) (.cond (.tmp 11) .skip (.exit 0))) (.seq (.block 1 (.seq (.reg false r30_3) (.cond (.tmp 29) (.seq (.reg false r30_4) .ret) .skip))) (.reg false r30_5)))))) (.seq (.reg false r30_6) .ret)))
theorem e30 {args : List PV} {h : Heap} {K : PV → Heap → Prop} (hl : args.length = 3) (s : pwp Try.prog [] c30 (fin Try.prog [.tmp 6] h K) (slots0 (olds args)) h) : CanP Try.prog 30 args h K :=
  can_of2 (n := 36) mixed Try.func30 rfl (by kernel_rfl) (by rw [hl]; kernel_rfl) rfl (by kernel_rfl) s
/-! ### naskh.naskhref37.Of: function 19 -/
def r19_0 : List PS := [.mk (some 2) (.assign (.const (.int .i64 0))) none]
def r19_1 : List PS := [.mk (some 3) (.call ⟨(.value (.func 23)), #[], #[]⟩) none,
  .mk (some 4) (.move (.tmp 0)) none,
  .mk (some 5) (.call ⟨(.value (.func 30)), #[(.tmp 3), (.const (.int .i64 0)), (.tmp 4)], #[39, 3, 3]⟩) none,
  .mk (some 2) (.assign (.tmp 5)) none]
def c19 : PC := (.seq (.reg false r19_0) (.seq (.reg false r19_1) .ret))
theorem e19 {args : List PV} {h : Heap} {K : PV → Heap → Prop} (hl : args.length = 1) (s : pwp Try.prog [] c19 (fin Try.prog [.tmp 2] h K) (slots0 (olds args)) h) : CanP Try.prog 19 args h K :=
  can_of2 (n := 6) mixed Try.func19 rfl (by kernel_rfl) (by rw [hl]; kernel_rfl) rfl (by kernel_rfl) s
/-! ### naskh.naskhref37.Places: function 27 -/
def r27_0 : List PS := [.mk (some 2) (.assign (.const (.slice none 0 0))) none]
def r27_1 : List PS := [.mk (some 3) (.assign (.const (.slice none 0 0))) none]
def r27_2 : List PS := [.mk (some 4) (.assign (.const (.int .i64 0))) none]
def r27_3 : List PS := [.mk (some 6) (.move (.tmp 4)) none,
  .mk (some 7) (.move (.tmp 0)) none,
  .mk (some 8) (.call ⟨(.builtin .len), #[(.tmp 7)], #[22]⟩) none,
  .mk (some 9) (.binOp .lss 3 (.tmp 6) (.tmp 8) 3) none]
def r27_4 : List PS := [.frz 3,
  .mk (some 12) (.move (.tmp 3)) none,
  .mk (some 13) (.call ⟨(.builtin .len), #[(.tmp 12)], #[22]⟩) none,
  .mk (some 5) (.assign (.tmp 13)) none]
def r27_5 : List PS := [.mk (some 14) (.move (.tmp 0)) none,
  .mk (some 15) (.move (.tmp 4)) none,
  .mk (some 16) (.indexAddr 22 (.tmp 14) (.tmp 15)) none,
  .mk (some 17) (.load 3 (.tmp 16)) none,
  .mk (some 18) (.call ⟨(.value (.func 19)), #[(.tmp 17)], #[3]⟩) none,
  .mk (some 19) (.binOp .gtr 3 (.tmp 18) (.const (.int .i64 0)) 3) none,
  .mk (some 20) (.move (.tmp 19)) none,
  .mk (some 21) (.move (.tmp 5)) (some (20, true)),
  .mk (some 22) (.binOp .gtr 3 (.tmp 21) (.const (.int .i64 0)) 3) (some (20, true)),
  .mk (some 23) (.pick (.tmp 20) (.tmp 22) (.const (.bool false))) none,
  .mk (some 24) (.move (.tmp 23)) none,
  .mk (some 25) (.move (.tmp 0)) (some (24, true)),
  .mk (some 26) (.move (.tmp 3)) (some (24, true)),
  .mk (some 27) (.move (.tmp 5)) (some (24, true)),
  .mk (some 28) (.binOp .sub 3 (.tmp 27) (.const (.int .i64 1)) 3) (some (24, true)),
  .mk (some 29) (.indexAddr 22 (.tmp 26) (.tmp 28)) (some (24, true)),
  .mk (some 30) (.load 3 (.tmp 29)) (some (24, true)),
  .mk (some 31) (.indexAddr 22 (.tmp 25) (.tmp 30)) (some (24, true)),
  .mk (some 32) (.load 3 (.tmp 31)) (some (24, true)),
  .mk (some 33) (.call ⟨(.value (.func 19)), #[(.tmp 32)], #[3]⟩) (some (24, true)),
  .mk (some 34) (.move (.tmp 0)) (some (24, true)),
  .mk (some 35) (.move (.tmp 4)) (some (24, true)),
  .mk (some 36) (.indexAddr 22 (.tmp 34) (.tmp 35)) (some (24, true)),
  .mk (some 37) (.load 3 (.tmp 36)) (some (24, true)),
  .mk (some 38) (.call ⟨(.value (.func 19)), #[(.tmp 37)], #[3]⟩) (some (24, true)),
  .mk (some 39) (.binOp .gtr 3 (.tmp 33) (.tmp 38) 3) (some (24, true)),
  .mk (some 40) (.pick (.tmp 24) (.tmp 39) (.const (.bool false))) none]
def r27_6 : List PS := [.mk (some 41) (.move (.tmp 5)) none,
  .mk (some 42) (.binOp .sub 3 (.tmp 41) (.const (.int .i64 1)) 3) none,
  .mk (some 5) (.assign (.tmp 42)) none]
def r27_7 : List PS := [.mk (some 43) (.move (.tmp 3)) none,
  .mk (some 44) (.move (.tmp 5)) none,
  .mk (some 45) (.slice 22 (.tmp 43) none (some (.tmp 44)) none) none,
  .mk (some 46) (.call ⟨(.builtin .append), #[(.const (.slice none 0 0)), (.tmp 45)], #[22, 22]⟩) none,
  .mk (some 47) (.move (.tmp 4)) none,
  .mk (some 48) (.buildSlice 22 1 #[(0, (.tmp 47))]) none,
  .mk (some 49) (.call ⟨(.builtin .append), #[(.tmp 46), (.tmp 48)], #[22, 22]⟩) none,
  .mk (some 50) (.move (.tmp 3)) none,
  .mk (some 51) (.move (.tmp 5)) none,
  .mk (some 52) (.slice 22 (.tmp 50) (some (.tmp 51)) none none) none,
  .mk (some 53) (.call ⟨(.builtin .append), #[(.tmp 49), (.tmp 52)], #[22, 22]⟩) none,
  .mk (some 3) (.assign (.tmp 53)) none]
def r27_8 : List PS := [.mk (some 10) (.move (.tmp 4)) none,
  .mk (some 11) (.binOp .add 3 (.tmp 10) (.const (.int .i64 1)) 3) none,
  .mk (some 4) (.assign (.tmp 11)) none]
def r27_9 : List PS := [.mk (some 54) (.move (.tmp 3)) none,
  .mk (some 2) (.assign (.tmp 54)) none]
def c27 : PC := (.seq (.reg false r27_0) (.seq (.reg false r27_1) (.seq (.seq (.reg false r27_2) (.block 0 (.loop (.seq (.seq (.reg false r27_3) (.cond (.tmp 9) .skip (.exit 0))) (.seq (.block 1 (.seq (.reg false r27_4) (.seq (.block 2 (.loop (.seq (.seq (.reg true r27_5) (.cond (.tmp 40) .skip (.exit 2))) (.block 3 (.reg false r27_6))))) (.reg true r27_7)))) (.reg false r27_8)))))) (.seq (.reg false r27_9) .ret))))
theorem e27 {args : List PV} {h : Heap} {K : PV → Heap → Prop} (hl : args.length = 1) (s : pwp Try.prog [] c27 (fin Try.prog [.tmp 2] h K) (slots0 (olds args)) h) : CanP Try.prog 27 args h K :=
  can_of2 (n := 55) mixed Try.func27 rfl (by kernel_rfl) (by rw [hl]; kernel_rfl) rfl (by kernel_rfl) s
/-! ### naskh.naskhref38.Movable: function 15 -/
def r15_0 : List PS := [.mk (some 2) (.assign (.const (.bool false))) none]
def r15_1 : List PS := [.mk (some 5) (.call ⟨(.value (.func 18)), #[], #[]⟩) none,
  .mk (some 3) (.assign (.tmp 5)) none]
def r15_2 : List PS := [.mk (some 4) (.assign (.const (.int .i64 0))) none]
def r15_3 : List PS := [.mk (some 6) (.move (.tmp 4)) none,
  .mk (some 7) (.move (.tmp 3)) none,
  .mk (some 8) (.call ⟨(.builtin .len), #[(.tmp 7)], #[22]⟩) none,
  .mk (some 9) (.binOp .lss 3 (.tmp 6) (.tmp 8) 3) none]
def r15_4 : List PS := [.mk (some 12) (.move (.tmp 3)) none,
  .mk (some 13) (.move (.tmp 4)) none,
  .mk (some 14) (.indexAddr 22 (.tmp 12) (.tmp 13)) none,
  .mk (some 15) (.load 3 (.tmp 14)) none,
  .mk (some 16) (.move (.tmp 0)) none,
  .mk (some 17) (.binOp .eql 3 (.tmp 15) (.tmp 16) 3) none]
def r15_5 : List PS := [.mk (some 2) (.assign (.const (.bool true))) none]
def r15_6 : List PS := [.mk (some 10) (.move (.tmp 4)) none,
  .mk (some 11) (.binOp .add 3 (.tmp 10) (.const (.int .i64 1)) 3) none,
  .mk (some 4) (.assign (.tmp 11)) none]
def r15_7 : List PS := [.mk (some 2) (.assign (.const (.bool false))) none]
def c15 : PC := (.seq (.reg false r15_0) (.seq (.reg false r15_1) (.seq (.seq (.reg false r15_2) (.block 0 (.loop (.seq (.seq (.reg false r15_3) (.cond (.tmp 9) .skip (.exit 0))) (.seq (.block 1 (.seq (.reg false r15_4) (.cond (.tmp 17) (.seq (.reg false r15_5) .ret) .skip))) (.reg false r15_6)))))) (.seq (.reg false r15_7) .ret))))
theorem e15 {args : List PV} {h : Heap} {K : PV → Heap → Prop} (hl : args.length = 1) (s : pwp Try.prog [] c15 (fin Try.prog [.tmp 2] h K) (slots0 (olds args)) h) : CanP Try.prog 15 args h K :=
  can_of2 (n := 18) mixed Try.func15 rfl (by kernel_rfl) (by rw [hl]; kernel_rfl) rfl (by kernel_rfl) s
/-! ### naskh.naskhref38.moved: function 44 -/
def r44_0 : List PS := [.mk (some 6) (.assign (.const (.slice none 0 0))) none]
def r44_1 : List PS := [.mk (some 10) (.move (.tmp 1)) none,
  .mk (some 11) (.call ⟨(.builtin .len), #[(.tmp 10)], #[22]⟩) none,
  .mk (some 12) (.makeSlice 74 (.tmp 11) (.tmp 11)) none,
  .mk (some 7) (.assign (.tmp 12)) none]
def r44_2 : List PS := [.mk (some 8) (.assign (.const (.int .i64 0))) none]
def r44_3 : List PS := [.mk (some 13) (.move (.tmp 8)) none,
  .mk (some 14) (.move (.tmp 1)) none,
  .mk (some 15) (.call ⟨(.builtin .len), #[(.tmp 14)], #[22]⟩) none,
  .mk (some 16) (.binOp .lss 3 (.tmp 13) (.tmp 15) 3) none]
def r44_4 : List PS := [.mk (some 19) (.move (.tmp 0)) none,
  .mk (some 20) (.move (.tmp 1)) none,
  .mk (some 21) (.move (.tmp 8)) none,
  .mk (some 22) (.indexAddr 22 (.tmp 20) (.tmp 21)) none,
  .mk (some 23) (.load 3 (.tmp 22)) none,
  .mk (some 24) (.indexAddr 22 (.tmp 19) (.tmp 23)) none,
  .mk (some 25) (.load 3 (.tmp 24)) none,
  .mk (some 9) (.assign (.tmp 25)) none]
def r44_5 : List PS := [.mk (some 26) (.move (.tmp 9)) none,
  .mk (some 27) (.call ⟨(.value (.func 19)), #[(.tmp 26)], #[3]⟩) none,
  .mk (some 28) (.move (.tmp 2)) none,
  .mk (some 29) (.binOp .neq 3 (.tmp 27) (.tmp 28) 3) none]
def r44_6 : List PS := [.mk (some 30) (.move (.tmp 2)) none,
  .mk (some 31) (.binOp .neq 3 (.tmp 30) (.const (.int .i64 33)) 3) none,
  .mk (some 32) (.move (.tmp 31)) none,
  .mk (some 33) (.move (.tmp 9)) (some (32, true)),
  .mk (some 34) (.call ⟨(.value (.func 15)), #[(.tmp 33)], #[3]⟩) (some (32, true)),
  .mk (some 35) (.unOp .not 4 (.tmp 34)) (some (32, true)),
  .mk (some 36) (.pick (.tmp 32) (.tmp 35) (.const (.bool false))) none]
def r44_7 : List PS := [.mk (some 37) (.move (.tmp 7)) none,
  .mk (some 6) (.assign (.tmp 37)) none]
def r44_8 : List PS := [.mk (some 38) (.move (.tmp 7)) none,
  .mk (some 39) (.move (.tmp 8)) none,
  .mk (some 40) (.indexAddr 74 (.tmp 38) (.tmp 39)) none,
  .mk none (.store 4 (.tmp 40) (.const (.bool true))) none]
def r44_9 : List PS := [.mk (some 17) (.move (.tmp 8)) none,
  .mk (some 18) (.binOp .add 3 (.tmp 17) (.const (.int .i64 1)) 3) none,
  .mk (some 8) (.assign (.tmp 18)) none]
def r44_10 : List PS := [.mk (some 41) (.move (.tmp 7)) none,
  .mk (some 6) (.assign (.tmp 41)) none]
def c44 : PC := (.seq (.reg false r44_0) (.seq (.reg false r44_1) (.seq (.seq (.reg false r44_2) (.block 0 (.loop (.seq (.seq (.reg false r44_3) (.cond (.tmp 16) .skip (.exit 0))) (.seq (.block 1 (.seq (.reg false r44_4) (.seq (.seq (.reg false r44_5) (.cond (.tmp 29) (.exit 1) .skip)) (.seq (.seq (.reg false r44_6) (.cond (.tmp 36) (.seq (.reg false r44_7) .ret) .skip)) (.reg false r44_8))))) (.reg false r44_9)))))) (.seq (.reg false r44_10) .ret))))
theorem e44 {args : List PV} {h : Heap} {K : PV → Heap → Prop} (hl : args.length = 3) (s : pwp Try.prog [] c44 (fin Try.prog [.tmp 6] h K) (slots0 (olds args)) h) : CanP Try.prog 44 args h K :=
  can_of2 (n := 42) mixed Try.func44 rfl (by kernel_rfl) (by rw [hl]; kernel_rfl) rfl (by kernel_rfl) s
/-! ### naskh.naskhref38.put: function 28 -/
def r28_0 : List PS := [.mk (some 4) (.assign (.const (.slice none 0 0))) none]
def r28_1 : List PS := [.mk (some 12) (.move (.tmp 0)) none,
  .mk (some 13) (.move (.tmp 1)) none,
  .mk (some 14) (.call ⟨(.value (.func 44)), #[(.tmp 12), (.tmp 13), (.const (.int .i64 33))], #[22, 22, 3]⟩) none,
  .mk (some 15) (.move (.tmp 0)) none,
  .mk (some 16) (.move (.tmp 1)) none,
  .mk (some 17) (.call ⟨(.value (.func 44)), #[(.tmp 15), (.tmp 16), (.const (.int .i64 230))], #[22, 22, 3]⟩) none,
  .mk (some 18) (.move (.tmp 0)) none,
  .mk (some 19) (.move (.tmp 1)) none,
  .mk (some 20) (.call ⟨(.value (.func 44)), #[(.tmp 18), (.tmp 19), (.const (.int .i64 220))], #[22, 22, 3]⟩) none,
  .mk (some 5) (.assign (.tmp 14)) none,
  .mk (some 6) (.assign (.tmp 17)) none,
  .mk (some 7) (.assign (.tmp 20)) none]
def r28_2 : List PS := [.mk (some 8) (.assign (.const (.slice none 0 0))) none]
def r28_3 : List PS := [.mk (some 9) (.assign (.const (.int .i64 0))) none]
def r28_4 : List PS := [.mk (some 21) (.move (.tmp 9)) none,
  .mk (some 22) (.binOp .lss 3 (.tmp 21) (.const (.int .i64 4)) 3) none]
def r28_5 : List PS := [.mk (some 10) (.assign (.const (.int .i64 0))) none]
def r28_6 : List PS := [.mk (some 25) (.move (.tmp 10)) none,
  .mk (some 26) (.move (.tmp 1)) none,
  .mk (some 27) (.call ⟨(.builtin .len), #[(.tmp 26)], #[22]⟩) none,
  .mk (some 28) (.binOp .lss 3 (.tmp 25) (.tmp 27) 3) none]
def r28_7 : List PS := [.mk (some 31) (.move (.tmp 5)) none,
  .mk (some 32) (.move (.tmp 10)) none,
  .mk (some 33) (.indexAddr 74 (.tmp 31) (.tmp 32)) none,
  .mk (some 34) (.load 4 (.tmp 33)) none,
  .mk (some 35) (.move (.tmp 34)) none,
  .mk (some 36) (.move (.tmp 9)) (some (35, true)),
  .mk (some 37) (.binOp .eql 3 (.tmp 36) (.const (.int .i64 0)) 3) (some (35, true)),
  .mk (some 38) (.pick (.tmp 35) (.tmp 37) (.const (.bool false))) none,
  .mk (some 39) (.move (.tmp 38)) none,
  .mk (some 40) (.move (.tmp 6)) (some (39, false)),
  .mk (some 41) (.move (.tmp 10)) (some (39, false)),
  .mk (some 42) (.indexAddr 74 (.tmp 40) (.tmp 41)) (some (39, false)),
  .mk (some 43) (.load 4 (.tmp 42)) (some (39, false)),
  .mk (some 44) (.move (.tmp 43)) (some (39, false)),
  .mk (some 45) (.move (.tmp 9)) (some (44, true)),
  .mk (some 46) (.binOp .eql 3 (.tmp 45) (.const (.int .i64 1)) 3) (some (44, true)),
  .mk (some 47) (.pick (.tmp 44) (.tmp 46) (.const (.bool false))) (some (39, false)),
  .mk (some 48) (.pick (.tmp 39) (.const (.bool true)) (.tmp 47)) none,
  .mk (some 49) (.move (.tmp 48)) none,
  .mk (some 50) (.move (.tmp 7)) (some (49, false)),
  .mk (some 51) (.move (.tmp 10)) (some (49, false)),
  .mk (some 52) (.indexAddr 74 (.tmp 50) (.tmp 51)) (some (49, false)),
  .mk (some 53) (.load 4 (.tmp 52)) (some (49, false)),
  .mk (some 54) (.move (.tmp 53)) (some (49, false)),
  .mk (some 55) (.move (.tmp 9)) (some (54, true)),
  .mk (some 56) (.binOp .eql 3 (.tmp 55) (.const (.int .i64 2)) 3) (some (54, true)),
  .mk (some 57) (.pick (.tmp 54) (.tmp 56) (.const (.bool false))) (some (49, false)),
  .mk (some 58) (.pick (.tmp 49) (.const (.bool true)) (.tmp 57)) none,
  .mk (some 59) (.move (.tmp 58)) none,
  .mk (some 60) (.move (.tmp 5)) (some (59, false)),
  .mk (some 61) (.move (.tmp 10)) (some (59, false)),
  .mk (some 62) (.indexAddr 74 (.tmp 60) (.tmp 61)) (some (59, false)),
  .mk (some 63) (.load 4 (.tmp 62)) (some (59, false)),
  .mk (some 64) (.unOp .not 4 (.tmp 63)) (some (59, false)),
  .mk (some 65) (.move (.tmp 64)) (some (59, false)),
  .mk (some 66) (.move (.tmp 6)) (some (65, true)),
  .mk (some 67) (.move (.tmp 10)) (some (65, true)),
  .mk (some 68) (.indexAddr 74 (.tmp 66) (.tmp 67)) (some (65, true)),
  .mk (some 69) (.load 4 (.tmp 68)) (some (65, true)),
  .mk (some 70) (.unOp .not 4 (.tmp 69)) (some (65, true)),
  .mk (some 71) (.pick (.tmp 65) (.tmp 70) (.const (.bool false))) (some (59, false)),
  .mk (some 72) (.move (.tmp 71)) (some (59, false)),
  .mk (some 73) (.move (.tmp 7)) (some (72, true)),
  .mk (some 74) (.move (.tmp 10)) (some (72, true)),
  .mk (some 75) (.indexAddr 74 (.tmp 73) (.tmp 74)) (some (72, true)),
  .mk (some 76) (.load 4 (.tmp 75)) (some (72, true)),
  .mk (some 77) (.unOp .not 4 (.tmp 76)) (some (72, true)),
  .mk (some 78) (.pick (.tmp 72) (.tmp 77) (.const (.bool false))) (some (59, false)),
  .mk (some 79) (.move (.tmp 78)) (some (59, false)),
  .mk (some 80) (.move (.tmp 9)) (some (79, true)),
  .mk (some 81) (.binOp .eql 3 (.tmp 80) (.const (.int .i64 3)) 3) (some (79, true)),
  .mk (some 82) (.pick (.tmp 79) (.tmp 81) (.const (.bool false))) (some (59, false)),
  .mk (some 83) (.pick (.tmp 59) (.const (.bool true)) (.tmp 82)) none,
  .mk (some 11) (.assign (.tmp 83)) none]
def r28_8 : List PS := [.mk (some 84) (.move (.tmp 11)) none]
def r28_9 : List PS := [.mk (some 85) (.move (.tmp 8)) none,
  .mk (some 86) (.move (.tmp 1)) none,
  .mk (some 87) (.move (.tmp 10)) none,
  .mk (some 88) (.indexAddr 22 (.tmp 86) (.tmp 87)) none,
  .mk (some 89) (.load 3 (.tmp 88)) none,
  .mk (some 90) (.buildSlice 22 1 #[(0, (.tmp 89))]) none,
  .mk (some 91) (.call ⟨(.builtin .append), #[(.tmp 85), (.tmp 90)], #[22, 22]⟩) none,
  .mk (some 8) (.assign (.tmp 91)) none]
def r28_10 : List PS := [.mk (some 29) (.move (.tmp 10)) none,
  .mk (some 30) (.binOp .add 3 (.tmp 29) (.const (.int .i64 1)) 3) none,
  .mk (some 10) (.assign (.tmp 30)) none]
def r28_11 : List PS := [.mk (some 23) (.move (.tmp 9)) none,
  .mk (some 24) (.binOp .add 3 (.tmp 23) (.const (.int .i64 1)) 3) none,
  .mk (some 9) (.assign (.tmp 24)) none]
def r28_12 : List PS := [.mk (some 92) (.move (.tmp 8)) none,
  .mk (some 4) (.assign (.tmp 92)) none]
def c28 : PC := (.seq (.reg false r28_0) (.seq (.reg false r28_1) (.seq (.reg false r28_2) (.seq (.seq (.reg false r28_3) (.block 0 (.loop (.seq (.seq (.reg false r28_4) (.cond (.tmp 22) .skip (.exit 0))) (.seq (.block 1 (.seq (.reg false r28_5) (.block 2 (.loop (.seq (.seq (.reg false r28_6) (.cond (.tmp 28) .skip (.exit 2))) (.seq (.block 3 (.seq (.reg false r28_7) (.seq (.reg false r28_8) (.cond (.tmp 84) (.reg false r28_9) .skip)))) (.reg false r28_10))))))) (.reg false r28_11)))))) (.seq (.reg false r28_12) .ret)))))
theorem e28 {args : List PV} {h : Heap} {K : PV → Heap → Prop} (hl : args.length = 2) (s : pwp Try.prog [] c28 (fin Try.prog [.tmp 4] h K) (slots0 (olds args)) h) : CanP Try.prog 28 args h K :=
  can_of2 (n := 93) mixed Try.func28 rfl (by kernel_rfl) (by rw [hl]; kernel_rfl) rfl (by kernel_rfl) s
/-! ### naskh.naskhref38.Places: function 11 -/
def r11_0 : List PS := [.mk (some 2) (.assign (.const (.slice none 0 0))) none]
def r11_1 : List PS := [.mk (some 7) (.move (.tmp 0)) none,
  .mk (some 8) (.call ⟨(.value (.func 27)), #[(.tmp 7)], #[22]⟩) none,
  .mk (some 3) (.assign (.tmp 8)) none]
def r11_2 : List PS := [.mk (some 4) (.assign (.const (.slice none 0 0))) none,
  .mk (some 5) (.assign (.const (.slice none 0 0))) none]
def r11_3 : List PS := [.mk (some 6) (.assign (.const (.int .i64 0))) none]
def r11_4 : List PS := [.mk (some 9) (.move (.tmp 6)) none,
  .mk (some 10) (.move (.tmp 3)) none,
  .mk (some 11) (.call ⟨(.builtin .len), #[(.tmp 10)], #[22]⟩) none,
  .mk (some 12) (.binOp .lss 3 (.tmp 9) (.tmp 11) 3) none]
def r11_5 : List PS := [.mk (some 15) (.move (.tmp 0)) none,
  .mk (some 16) (.move (.tmp 3)) none,
  .mk (some 17) (.move (.tmp 6)) none,
  .mk (some 18) (.indexAddr 22 (.tmp 16) (.tmp 17)) none,
  .mk (some 19) (.load 3 (.tmp 18)) none,
  .mk (some 20) (.indexAddr 22 (.tmp 15) (.tmp 19)) none,
  .mk (some 21) (.load 3 (.tmp 20)) none,
  .mk (some 22) (.call ⟨(.value (.func 19)), #[(.tmp 21)], #[3]⟩) none,
  .mk (some 23) (.binOp .gtr 3 (.tmp 22) (.const (.int .i64 0)) 3) none]
def r11_6 : List PS := [.mk (some 24) (.move (.tmp 5)) none,
  .mk (some 25) (.move (.tmp 3)) none,
  .mk (some 26) (.move (.tmp 6)) none,
  .mk (some 27) (.indexAddr 22 (.tmp 25) (.tmp 26)) none,
  .mk (some 28) (.load 3 (.tmp 27)) none,
  .mk (some 29) (.buildSlice 22 1 #[(0, (.tmp 28))]) none,
  .mk (some 30) (.call ⟨(.builtin .append), #[(.tmp 24), (.tmp 29)], #[22, 22]⟩) none,
  .mk (some 5) (.assign (.tmp 30)) none]
def r11_7 : List PS := [.mk (some 31) (.move (.tmp 4)) none,
  .mk (some 32) (.move (.tmp 0)) none,
  .mk (some 33) (.move (.tmp 5)) none,
  .mk (some 34) (.call ⟨(.value (.func 28)), #[(.tmp 32), (.tmp 33)], #[22, 22]⟩) none,
  .mk (some 35) (.call ⟨(.builtin .append), #[(.tmp 31), (.tmp 34)], #[22, 22]⟩) none,
  .mk (some 36) (.move (.tmp 3)) none,
  .mk (some 37) (.move (.tmp 6)) none,
  .mk (some 38) (.indexAddr 22 (.tmp 36) (.tmp 37)) none,
  .mk (some 39) (.load 3 (.tmp 38)) none,
  .mk (some 40) (.buildSlice 22 1 #[(0, (.tmp 39))]) none,
  .mk (some 41) (.call ⟨(.builtin .append), #[(.tmp 35), (.tmp 40)], #[22, 22]⟩) none,
  .mk (some 4) (.assign (.tmp 41)) none]
def r11_8 : List PS := [.mk (some 5) (.assign (.const (.slice none 0 0))) none]
def r11_9 : List PS := [.mk (some 13) (.move (.tmp 6)) none,
  .mk (some 14) (.binOp .add 3 (.tmp 13) (.const (.int .i64 1)) 3) none,
  .mk (some 6) (.assign (.tmp 14)) none]
def r11_10 : List PS := [.mk (some 42) (.move (.tmp 4)) none,
  .mk (some 43) (.move (.tmp 0)) none,
  .mk (some 44) (.move (.tmp 5)) none,
  .mk (some 45) (.call ⟨(.value (.func 28)), #[(.tmp 43), (.tmp 44)], #[22, 22]⟩) none,
  .mk (some 46) (.call ⟨(.builtin .append), #[(.tmp 42), (.tmp 45)], #[22, 22]⟩) none,
  .mk (some 2) (.assign (.tmp 46)) none]
def c11 : PC := (.seq (.reg false r11_0) (.seq (.reg false r11_1) (.seq (.reg false r11_2) (.seq (.seq (.reg false r11_3) (.block 0 (.loop (.seq (.seq (.reg false r11_4) (.cond (.tmp 12) .skip (.exit 0))) (.seq (.block 1 (.seq (.seq (.reg false r11_5) (.cond (.tmp 23) (.seq (.reg false r11_6) (.exit 1)) .skip)) (.seq (.reg true r11_7) (.reg false r11_8)))) (.reg false r11_9)))))) (.seq (.reg false r11_10) .ret)))))
theorem e11 {args : List PV} {h : Heap} {K : PV → Heap → Prop} (hl : args.length = 1) (s : pwp Try.prog [39] c11 (fin Try.prog [.tmp 2] h K) (slots0 (olds args)) h) : CanP Try.prog 11 args h K :=
  can_of2 (n := 47) mixed Try.func11 rfl (by kernel_rfl) (by rw [hl]; kernel_rfl) rfl (by kernel_rfl) s
/-! ### naskh.naskhref38.Order: function 13 -/
def r13_0 : List PS := [.mk (some 2) (.assign (.const (.slice none 0 0))) none]
def r13_1 : List PS := [.mk (some 3) (.assign (.const (.slice none 0 0))) none]
def r13_2 : List PS := [.mk (some 6) (.move (.tmp 0)) none,
  .mk (some 7) (.call ⟨(.value (.func 11)), #[(.tmp 6)], #[22]⟩) none,
  .mk (some 4) (.assign (.tmp 7)) none]
def r13_3 : List PS := [.mk (some 5) (.assign (.const (.int .i64 0))) none]
def r13_4 : List PS := [.mk (some 8) (.move (.tmp 5)) none,
  .mk (some 9) (.move (.tmp 4)) none,
  .mk (some 10) (.call ⟨(.builtin .len), #[(.tmp 9)], #[22]⟩) none,
  .mk (some 11) (.binOp .lss 3 (.tmp 8) (.tmp 10) 3) none]
def r13_5 : List PS := [.mk (some 14) (.move (.tmp 3)) none,
  .mk (some 15) (.move (.tmp 0)) none,
  .mk (some 16) (.move (.tmp 4)) none,
  .mk (some 17) (.move (.tmp 5)) none,
  .mk (some 18) (.indexAddr 22 (.tmp 16) (.tmp 17)) none,
  .mk (some 19) (.load 3 (.tmp 18)) none,
  .mk (some 20) (.indexAddr 22 (.tmp 15) (.tmp 19)) none,
  .mk (some 21) (.load 3 (.tmp 20)) none,
  .mk (some 22) (.buildSlice 22 1 #[(0, (.tmp 21))]) none,
  .mk (some 23) (.call ⟨(.builtin .append), #[(.tmp 14), (.tmp 22)], #[22, 22]⟩) none,
  .mk (some 3) (.assign (.tmp 23)) none]
def r13_6 : List PS := [.mk (some 12) (.move (.tmp 5)) none,
  .mk (some 13) (.binOp .add 3 (.tmp 12) (.const (.int .i64 1)) 3) none,
  .mk (some 5) (.assign (.tmp 13)) none]
def r13_7 : List PS := [.mk (some 24) (.move (.tmp 3)) none,
  .mk (some 2) (.assign (.tmp 24)) none]
def c13 : PC := (.seq (.reg false r13_0) (.seq (.reg false r13_1) (.seq (.reg false r13_2) (.seq (.seq (.reg false r13_3) (.block 0 (.loop (.seq (.seq (.reg false r13_4) (.cond (.tmp 11) .skip (.exit 0))) (.seq (.block 1 (.reg false r13_5)) (.reg false r13_6)))))) (.seq (.reg false r13_7) .ret)))))
theorem e13 {args : List PV} {h : Heap} {K : PV → Heap → Prop} (hl : args.length = 1) (s : pwp Try.prog [] c13 (fin Try.prog [.tmp 2] h K) (slots0 (olds args)) h) : CanP Try.prog 13 args h K :=
  can_of2 (n := 25) mixed Try.func13 rfl (by kernel_rfl) (by rw [hl]; kernel_rfl) rfl (by kernel_rfl) s
/-! ### naskh.naskhlaw38.AmtraOrders: function 3 -/
def r3_0 : List PS := [.mk (some 4) (.assign (.const (.bool false))) none]
def r3_1 : List PS := [.mk (some 6) (.move (.tmp 0)) none,
  .mk (some 7) (.call ⟨(.builtin .len), #[(.tmp 6)], #[22]⟩) none,
  .mk (some 8) (.binOp .gtr 3 (.tmp 7) (.const (.int .i64 100)) 3) none]
def r3_2 : List PS := [.mk (some 9) (.call ⟨(.value (.func 7)), #[], #[]⟩) none,
  .mk (some 4) (.assign (.tmp 9)) none]
def r3_3 : List PS := [.mk (some 10) (.call ⟨(.value (.func 8)), #[], #[]⟩) none,
  .mk (some 5) (.assign (.tmp 10)) none]
def r3_4 : List PS := [.mk (some 11) (.move (.tmp 5)) none,
  .mk (some 12) (.move (.tmp 0)) none,
  .mk (some 13) (.call ⟨(.value (.func 10)), #[(.tmp 11), (.tmp 12)], #[24, 22]⟩) none,
  .mk (some 14) (.move (.tmp 0)) none,
  .mk (some 15) (.call ⟨(.value (.func 11)), #[(.tmp 14)], #[22]⟩) none,
  .mk (some 16) (.call ⟨(.value (.func 9)), #[(.tmp 13), (.tmp 15)], #[22, 22]⟩) none,
  .mk (some 17) (.move (.tmp 16)) none,
  .mk (some 18) (.move (.tmp 5)) (some (17, true)),
  .mk (some 19) (.move (.tmp 0)) (some (17, true)),
  .mk (some 20) (.call ⟨(.value (.func 12)), #[(.tmp 18), (.tmp 19)], #[24, 22]⟩) (some (17, true)),
  .mk (some 21) (.move (.tmp 0)) (some (17, true)),
  .mk (some 22) (.call ⟨(.value (.func 13)), #[(.tmp 21)], #[22]⟩) (some (17, true)),
  .mk (some 23) (.call ⟨(.value (.func 9)), #[(.tmp 20), (.tmp 22)], #[22, 22]⟩) (some (17, true)),
  .mk (some 24) (.pick (.tmp 17) (.tmp 23) (.const (.bool false))) none,
  .mk (some 25) (.move (.tmp 24)) none,
  .mk (some 26) (.move (.tmp 1)) (some (25, true)),
  .mk (some 27) (.call ⟨(.value (.func 14)), #[(.tmp 26)], #[3]⟩) (some (25, true)),
  .mk (some 28) (.move (.tmp 1)) (some (25, true)),
  .mk (some 29) (.call ⟨(.value (.func 15)), #[(.tmp 28)], #[3]⟩) (some (25, true)),
  .mk (some 30) (.binOp .eql 4 (.tmp 27) (.tmp 29) 4) (some (25, true)),
  .mk (some 31) (.pick (.tmp 25) (.tmp 30) (.const (.bool false))) none,
  .mk (some 32) (.move (.tmp 31)) none,
  .mk (some 33) (.call ⟨(.value (.func 7)), #[], #[]⟩) (some (32, true)),
  .mk (some 34) (.pick (.tmp 32) (.tmp 33) (.const (.bool false))) none,
  .mk (some 4) (.assign (.tmp 34)) none]
def c3 : PC := (.seq (.reg false r3_0) (.seq (.seq (.reg false r3_1) (.cond (.tmp 8) (.seq (.reg false r3_2) .ret) .skip)) (.seq (.reg false r3_3) (.seq (.reg false r3_4) .ret))))
theorem e3 {args : List PV} {h : Heap} {K : PV → Heap → Prop} (hl : args.length = 2) (s : pwp Try.prog [] c3 (fin Try.prog [.tmp 4] h K) (slots0 (olds args)) h) : CanP Try.prog 3 args h K :=
  can_of2 (n := 35) mixed Try.func3 rfl (by kernel_rfl) (by rw [hl]; kernel_rfl) rfl (by kernel_rfl) s
/-! ### naskh.naskhlaw38.AmtraTwice: function 4 -/
def r4_0 : List PS := [.mk (some 2) (.assign (.const (.bool false))) none]
def r4_1 : List PS := [.mk (some 5) (.move (.tmp 0)) none,
  .mk (some 6) (.call ⟨(.builtin .len), #[(.tmp 5)], #[22]⟩) none,
  .mk (some 7) (.binOp .gtr 3 (.tmp 6) (.const (.int .i64 200)) 3) none]
def r4_2 : List PS := [.mk (some 8) (.call ⟨(.value (.func 7)), #[], #[]⟩) none,
  .mk (some 2) (.assign (.tmp 8)) none]
def r4_3 : List PS := [.mk (some 9) (.call ⟨(.value (.func 8)), #[], #[]⟩) none,
  .mk (some 3) (.assign (.tmp 9)) none]
def r4_4 : List PS := [.mk (some 10) (.move (.tmp 3)) none,
  .mk (some 11) (.move (.tmp 0)) none,
  .mk (some 12) (.call ⟨(.value (.func 12)), #[(.tmp 10), (.tmp 11)], #[24, 22]⟩) none,
  .mk (some 4) (.assign (.tmp 12)) none]
def r4_5 : List PS := [.mk (some 13) (.move (.tmp 3)) none,
  .mk (some 14) (.move (.tmp 4)) none,
  .mk (some 15) (.call ⟨(.value (.func 12)), #[(.tmp 13), (.tmp 14)], #[24, 22]⟩) none,
  .mk (some 16) (.move (.tmp 4)) none,
  .mk (some 17) (.call ⟨(.value (.func 9)), #[(.tmp 15), (.tmp 16)], #[22, 22]⟩) none,
  .mk (some 18) (.move (.tmp 17)) none,
  .mk (some 19) (.call ⟨(.value (.func 7)), #[], #[]⟩) (some (18, true)),
  .mk (some 20) (.pick (.tmp 18) (.tmp 19) (.const (.bool false))) none,
  .mk (some 2) (.assign (.tmp 20)) none]
def c4 : PC := (.seq (.reg false r4_0) (.seq (.seq (.reg false r4_1) (.cond (.tmp 7) (.seq (.reg false r4_2) .ret) .skip)) (.seq (.reg false r4_3) (.seq (.reg false r4_4) (.seq (.reg false r4_5) .ret)))))
theorem e4 {args : List PV} {h : Heap} {K : PV → Heap → Prop} (hl : args.length = 1) (s : pwp Try.prog [] c4 (fin Try.prog [.tmp 2] h K) (slots0 (olds args)) h) : CanP Try.prog 4 args h K :=
  can_of2 (n := 21) mixed Try.func4 rfl (by kernel_rfl) (by rw [hl]; kernel_rfl) rfl (by kernel_rfl) s
/-! ### (*naskh.ccc.Classes).Order: function 16 -/
def r16_0 : List PS := [.mk (some 4) (.assign (.const (.slice none 0 0))) none]
def r16_1 : List PS := [.mk (some 8) (.move (.tmp 1)) none,
  .mk (some 9) (.call ⟨(.builtin .len), #[(.tmp 8)], #[22]⟩) none,
  .mk (some 10) (.makeSlice 22 (.const (.int .i64 0)) (.tmp 9)) none,
  .mk (some 5) (.assign (.tmp 10)) none]
def r16_2 : List PS := [.mk (some 11) (.move (.tmp 0)) none,
  .mk (some 12) (.move (.tmp 1)) none,
  .mk (some 13) (.call ⟨(.value (.func 24)), #[(.tmp 11), (.tmp 12)], #[24, 22]⟩) none,
  .mk (some 14) (.call ⟨(.builtin .len), #[(.tmp 13)], #[22]⟩) none,
  .mk (some 15) (.move (.const (.int .i64 0))) none]
def r16_3 : List PS := [.mk (some 16) (.binOp .lss 3 (.tmp 15) (.tmp 14) 3) none]
def r16_4 : List PS := [.mk (some 17) (.indexAddr 22 (.tmp 13) (.tmp 15)) none,
  .mk (some 18) (.load 3 (.tmp 17)) none,
  .mk (some 7) (.assign (.tmp 18)) none]
def r16_5 : List PS := [.mk (some 19) (.move (.tmp 5)) none,
  .mk (some 20) (.move (.tmp 1)) none,
  .mk (some 21) (.move (.tmp 7)) none,
  .mk (some 22) (.indexAddr 22 (.tmp 20) (.tmp 21)) none,
  .mk (some 23) (.load 3 (.tmp 22)) none,
  .mk (some 24) (.buildSlice 22 1 #[(0, (.tmp 23))]) none,
  .mk (some 25) (.call ⟨(.builtin .append), #[(.tmp 19), (.tmp 24)], #[22, 22]⟩) none,
  .mk (some 5) (.assign (.tmp 25)) none]
def r16_6 : List PS := [.mk (some 26) (.binOp .add 3 (.tmp 15) (.const (.int .i64 1)) 3) none,
  .mk (some 15) (.move (.tmp 26)) none]
def r16_7 : List PS := [.mk (some 27) (.move (.tmp 5)) none,
  .mk (some 4) (.assign (.tmp 27)) none]
def c16 : PC := (.seq (.reg false r16_0) (.seq (.reg false r16_1) (.seq (.seq (.reg false r16_2) (.block 0 (.loop (.seq (.reg false r16_3) (.seq (.cond (.tmp 16) .skip (.exit 0)) (.seq (.block 1 (.seq (.reg false r16_4) (.reg false r16_5))) (.reg false r16_6))))))) (.seq (.reg false r16_7) .ret))))
theorem e16 {args : List PV} {h : Heap} {K : PV → Heap → Prop} (hl : args.length = 2) (s : pwp Try.prog [] c16 (fin Try.prog [.tmp 4] h K) (slots0 (olds args)) h) : CanP Try.prog 16 args h K :=
  can_of2 (n := 28) mixed Try.func16 rfl (by kernel_rfl) (by rw [hl]; kernel_rfl) rfl (by kernel_rfl) s
/-! ### naskh.naskhlaw38.AmtraAlike: function 5 -/
def r5_0 : List PS := [.mk (some 2) (.assign (.const (.bool false))) none]
def r5_1 : List PS := [.mk (some 4) (.move (.tmp 0)) none,
  .mk (some 5) (.call ⟨(.builtin .len), #[(.tmp 4)], #[22]⟩) none,
  .mk (some 6) (.binOp .gtr 3 (.tmp 5) (.const (.int .i64 100)) 3) none]
def r5_2 : List PS := [.mk (some 7) (.call ⟨(.value (.func 7)), #[], #[]⟩) none,
  .mk (some 2) (.assign (.tmp 7)) none]
def r5_3 : List PS := [.mk (some 8) (.call ⟨(.value (.func 8)), #[], #[]⟩) none,
  .mk (some 3) (.assign (.tmp 8)) none]
def r5_4 : List PS := [.mk (some 9) (.move (.tmp 3)) none,
  .mk (some 10) (.move (.tmp 3)) none,
  .mk (some 11) (.move (.tmp 0)) none,
  .mk (some 12) (.call ⟨(.value (.func 16)), #[(.tmp 10), (.tmp 11)], #[24, 22]⟩) none,
  .mk (some 13) (.call ⟨(.value (.func 12)), #[(.tmp 9), (.tmp 12)], #[24, 22]⟩) none,
  .mk (some 14) (.move (.tmp 3)) none,
  .mk (some 15) (.move (.tmp 0)) none,
  .mk (some 16) (.call ⟨(.value (.func 12)), #[(.tmp 14), (.tmp 15)], #[24, 22]⟩) none,
  .mk (some 17) (.call ⟨(.value (.func 9)), #[(.tmp 13), (.tmp 16)], #[22, 22]⟩) none,
  .mk (some 18) (.move (.tmp 17)) none,
  .mk (some 19) (.move (.tmp 3)) (some (18, true)),
  .mk (some 20) (.move (.tmp 0)) (some (18, true)),
  .mk (some 21) (.call ⟨(.value (.func 10)), #[(.tmp 19), (.tmp 20)], #[24, 22]⟩) (some (18, true)),
  .mk (some 22) (.call ⟨(.builtin .len), #[(.tmp 21)], #[22]⟩) (some (18, true)),
  .mk (some 23) (.move (.tmp 0)) (some (18, true)),
  .mk (some 24) (.call ⟨(.builtin .len), #[(.tmp 23)], #[22]⟩) (some (18, true)),
  .mk (some 25) (.binOp .eql 3 (.tmp 22) (.tmp 24) 3) (some (18, true)),
  .mk (some 26) (.pick (.tmp 18) (.tmp 25) (.const (.bool false))) none,
  .mk (some 27) (.move (.tmp 26)) none,
  .mk (some 28) (.call ⟨(.value (.func 14)), #[(.const (.int .i64 1617))], #[3]⟩) (some (27, true)),
  .mk (some 29) (.call ⟨(.value (.func 18)), #[], #[]⟩) (some (27, true)),
  .mk (some 30) (.call ⟨(.value (.func 17)), #[(.tmp 29), (.const (.int .i64 1617))], #[22, 3]⟩) (some (27, true)),
  .mk (some 31) (.binOp .eql 4 (.tmp 28) (.tmp 30) 4) (some (27, true)),
  .mk (some 32) (.pick (.tmp 27) (.tmp 31) (.const (.bool false))) none,
  .mk (some 33) (.move (.tmp 32)) none,
  .mk (some 34) (.call ⟨(.value (.func 7)), #[], #[]⟩) (some (33, true)),
  .mk (some 35) (.pick (.tmp 33) (.tmp 34) (.const (.bool false))) none,
  .mk (some 2) (.assign (.tmp 35)) none]
def c5 : PC := (.seq (.reg false r5_0) (.seq (.seq (.reg false r5_1) (.cond (.tmp 6) (.seq (.reg false r5_2) .ret) .skip)) (.seq (.reg false r5_3) (.seq (.reg false r5_4) .ret))))
theorem e5 {args : List PV} {h : Heap} {K : PV → Heap → Prop} (hl : args.length = 1) (s : pwp Try.prog [] c5 (fin Try.prog [.tmp 2] h K) (slots0 (olds args)) h) : CanP Try.prog 5 args h K :=
  can_of2 (n := 36) mixed Try.func5 rfl (by kernel_rfl) (by rw [hl]; kernel_rfl) rfl (by kernel_rfl) s
/-! ### slices.Clone[[]int,int]: function 20 -/
def r20_0 : List PS := [.mk (some 2) (.assign (.const (.slice none 0 0))) none]
def r20_1 : List PS := [.mk (some 3) (.move (.tmp 0)) none,
  .mk (some 4) (.binOp .eql 22 (.tmp 3) (.const (.slice none 0 0)) 22) none]
def r20_2 : List PS := [.mk (some 2) (.assign (.const (.slice none 0 0))) none]
def r20_3 : List PS := [.mk (some 5) (.buildSlice 22 0 #[]) none,
  .mk (some 6) (.move (.tmp 0)) none,
  .mk (some 7) (.call ⟨(.builtin .append), #[(.tmp 5), (.tmp 6)], #[22, 22]⟩) none,
  .mk (some 2) (.assign (.tmp 7)) none]
def c20 : PC := (.seq (.reg false r20_0) (.seq (.seq (.reg false r20_1) (.cond (.tmp 4) (.seq (.reg false r20_2) .ret) .skip)) (.seq (.reg false r20_3) .ret)))
theorem e20 {args : List PV} {h : Heap} {K : PV → Heap → Prop} (hl : args.length = 1) (s : pwp Try.prog [5] c20 (fin Try.prog [.tmp 2] h K) (slots0 (olds args)) h) : CanP Try.prog 20 args h K :=
  can_of2 (n := 8) mixed Try.func20 rfl (by kernel_rfl) (by rw [hl]; kernel_rfl) rfl (by kernel_rfl) s
/-! ### cmp.isNaN[int]: function 70 -/
def r70_0 : List PS := [.mk (some 2) (.assign (.const (.bool false))) none]
def r70_1 : List PS := [.mk (some 3) (.move (.tmp 0)) none,
  .mk (some 4) (.move (.tmp 0)) none,
  .mk (some 5) (.binOp .neq 3 (.tmp 3) (.tmp 4) 3) none,
  .mk (some 2) (.assign (.tmp 5)) none]
def c70 : PC := (.seq (.reg false r70_0) (.seq (.reg false r70_1) .ret))
theorem e70 {args : List PV} {h : Heap} {K : PV → Heap → Prop} (hl : args.length = 1) (s : pwp Try.prog [] c70 (fin Try.prog [.tmp 2] h K) (slots0 (olds args)) h) : CanP Try.prog 70 args h K :=
  can_of2 (n := 6) mixed Try.func70 rfl (by kernel_rfl) (by rw [hl]; kernel_rfl) rfl (by kernel_rfl) s
/-! ### cmp.Less[int]: function 51 -/
def r51_0 : List PS := [.mk (some 4) (.assign (.const (.bool false))) none]
def r51_1 : List PS := [.mk (some 5) (.move (.tmp 0)) none,
  .mk (some 6) (.call ⟨(.value (.func 70)), #[(.tmp 5)], #[3]⟩) none,
  .mk (some 7) (.move (.tmp 6)) none,
  .mk (some 8) (.move (.tmp 1)) (some (7, true)),
  .mk (some 9) (.call ⟨(.value (.func 70)), #[(.tmp 8)], #[3]⟩) (some (7, true)),
  .mk (some 10) (.unOp .not 4 (.tmp 9)) (some (7, true)),
  .mk (some 11) (.pick (.tmp 7) (.tmp 10) (.const (.bool false))) none,
  .mk (some 12) (.move (.tmp 11)) none,
  .mk (some 13) (.move (.tmp 0)) (some (12, false)),
  .mk (some 14) (.move (.tmp 1)) (some (12, false)),
  .mk (some 15) (.binOp .lss 3 (.tmp 13) (.tmp 14) 3) (some (12, false)),
  .mk (some 16) (.pick (.tmp 12) (.const (.bool true)) (.tmp 15)) none,
  .mk (some 4) (.assign (.tmp 16)) none]
def c51 : PC := (.seq (.reg false r51_0) (.seq (.reg false r51_1) .ret))
theorem e51 {args : List PV} {h : Heap} {K : PV → Heap → Prop} (hl : args.length = 2) (s : pwp Try.prog [] c51 (fin Try.prog [.tmp 4] h K) (slots0 (olds args)) h) : CanP Try.prog 51 args h K :=
  can_of2 (n := 17) mixed Try.func51 rfl (by kernel_rfl) (by rw [hl]; kernel_rfl) rfl (by kernel_rfl) s
/-! ### slices.insertionSortOrdered[int]: function 45 -/
def r45_0 : List PS := [.mk (some 8) (.move (.tmp 1)) none,
  .mk (some 9) (.binOp .add 3 (.tmp 8) (.const (.int .i64 1)) 3) none,
  .mk (some 6) (.assign (.tmp 9)) none]
def r45_1 : List PS := [.mk (some 10) (.move (.tmp 6)) none,
  .mk (some 11) (.move (.tmp 2)) none,
  .mk (some 12) (.binOp .lss 3 (.tmp 10) (.tmp 11) 3) none]
def r45_2 : List PS := [.mk (some 15) (.move (.tmp 6)) none,
  .mk (some 7) (.assign (.tmp 15)) none]
def r45_3 : List PS := [.mk (some 16) (.move (.tmp 7)) none,
  .mk (some 17) (.move (.tmp 1)) none,
  .mk (some 18) (.binOp .gtr 3 (.tmp 16) (.tmp 17) 3) none,
  .mk (some 19) (.move (.tmp 18)) none,
  .mk (some 20) (.move (.tmp 0)) (some (19, true)),
  .mk (some 21) (.move (.tmp 7)) (some (19, true)),
  .mk (some 22) (.indexAddr 22 (.tmp 20) (.tmp 21)) (some (19, true)),
  .mk (some 23) (.load 3 (.tmp 22)) (some (19, true)),
  .mk (some 24) (.move (.tmp 0)) (some (19, true)),
  .mk (some 25) (.move (.tmp 7)) (some (19, true)),
  .mk (some 26) (.binOp .sub 3 (.tmp 25) (.const (.int .i64 1)) 3) (some (19, true)),
  .mk (some 27) (.indexAddr 22 (.tmp 24) (.tmp 26)) (some (19, true)),
  .mk (some 28) (.load 3 (.tmp 27)) (some (19, true)),
  .mk (some 29) (.call ⟨(.value (.func 51)), #[(.tmp 23), (.tmp 28)], #[3, 3]⟩) (some (19, true)),
  .mk (some 30) (.pick (.tmp 19) (.tmp 29) (.const (.bool false))) none]
def r45_4 : List PS := [.mk (some 33) (.move (.tmp 0)) none,
  .mk (some 34) (.move (.tmp 7)) none,
  .mk (some 35) (.move (.tmp 0)) none,
  .mk (some 36) (.move (.tmp 7)) none,
  .mk (some 37) (.binOp .sub 3 (.tmp 36) (.const (.int .i64 1)) 3) none,
  .mk (some 38) (.move (.tmp 0)) none,
  .mk (some 39) (.move (.tmp 7)) none,
  .mk (some 40) (.binOp .sub 3 (.tmp 39) (.const (.int .i64 1)) 3) none,
  .mk (some 41) (.indexAddr 22 (.tmp 38) (.tmp 40)) none,
  .mk (some 42) (.load 3 (.tmp 41)) none,
  .mk (some 43) (.move (.tmp 0)) none,
  .mk (some 44) (.move (.tmp 7)) none,
  .mk (some 45) (.indexAddr 22 (.tmp 43) (.tmp 44)) none,
  .mk (some 46) (.load 3 (.tmp 45)) none,
  .mk (some 47) (.indexAddr 22 (.tmp 33) (.tmp 34)) none,
  .mk none (.store 3 (.tmp 47) (.tmp 42)) none,
  .mk (some 48) (.indexAddr 22 (.tmp 35) (.tmp 37)) none,
  .mk none (.store 3 (.tmp 48) (.tmp 46)) none]
def r45_5 : List PS := [.mk (some 31) (.move (.tmp 7)) none,
  .mk (some 32) (.binOp .sub 3 (.tmp 31) (.const (.int .i64 1)) 3) none,
  .mk (some 7) (.assign (.tmp 32)) none]
def r45_6 : List PS := [.mk (some 13) (.move (.tmp 6)) none,
  .mk (some 14) (.binOp .add 3 (.tmp 13) (.const (.int .i64 1)) 3) none,
  .mk (some 6) (.assign (.tmp 14)) none]
def c45 : PC := (.seq (.reg false r45_0) (.block 0 (.loop (.seq (.seq (.reg false r45_1) (.cond (.tmp 12) .skip (.exit 0))) (.seq (.block 1 (.seq (.reg false r45_2) (.block 2 (.loop (.seq (.seq (.reg true r45_3) (.cond (.tmp 30) .skip (.exit 2))) (.seq (.block 3 (.reg true r45_4)) (.reg false r45_5))))))) (.reg false r45_6))))))
theorem e45 {args : List PV} {h : Heap} {K : PV → Heap → Prop} (hl : args.length = 3) (s : pwp Try.prog [] c45 (fin Try.prog [] h K) (slots0 (olds args)) h) : CanP Try.prog 45 args h K :=
  can_of2 (n := 49) mixed Try.func45 rfl (by kernel_rfl) (by rw [hl]; kernel_rfl) rfl (by kernel_rfl) s
/-! ### slices.siftDownOrdered[int]: function 65 -/
def r65_0 : List PS := [.mk (some 10) (.move (.tmp 1)) none,
  .mk (some 8) (.assign (.tmp 10)) none]
def r65_1 : List PS := [.mk (some 11) (.move (.tmp 8)) none,
  .mk (some 12) (.binOp .mul 3 (.const (.int .i64 2)) (.tmp 11) 3) none,
  .mk (some 13) (.binOp .add 3 (.tmp 12) (.const (.int .i64 1)) 3) none,
  .mk (some 9) (.assign (.tmp 13)) none]
def r65_2 : List PS := [.mk (some 14) (.move (.tmp 9)) none,
  .mk (some 15) (.move (.tmp 2)) none,
  .mk (some 16) (.binOp .geq 3 (.tmp 14) (.tmp 15) 3) none]
def r65_3 : List PS := [.mk (some 17) (.move (.tmp 9)) none,
  .mk (some 18) (.binOp .add 3 (.tmp 17) (.const (.int .i64 1)) 3) none,
  .mk (some 19) (.move (.tmp 2)) none,
  .mk (some 20) (.binOp .lss 3 (.tmp 18) (.tmp 19) 3) none,
  .mk (some 21) (.move (.tmp 20)) none,
  .mk (some 22) (.move (.tmp 0)) (some (21, true)),
  .mk (some 23) (.move (.tmp 3)) (some (21, true)),
  .mk (some 24) (.move (.tmp 9)) (some (21, true)),
  .mk (some 25) (.binOp .add 3 (.tmp 23) (.tmp 24) 3) (some (21, true)),
  .mk (some 26) (.indexAddr 22 (.tmp 22) (.tmp 25)) (some (21, true)),
  .mk (some 27) (.load 3 (.tmp 26)) (some (21, true)),
  .mk (some 28) (.move (.tmp 0)) (some (21, true)),
  .mk (some 29) (.move (.tmp 3)) (some (21, true)),
  .mk (some 30) (.move (.tmp 9)) (some (21, true)),
  .mk (some 31) (.binOp .add 3 (.tmp 29) (.tmp 30) 3) (some (21, true)),
  .mk (some 32) (.binOp .add 3 (.tmp 31) (.const (.int .i64 1)) 3) (some (21, true)),
  .mk (some 33) (.indexAddr 22 (.tmp 28) (.tmp 32)) (some (21, true)),
  .mk (some 34) (.load 3 (.tmp 33)) (some (21, true)),
  .mk (some 35) (.call ⟨(.value (.func 51)), #[(.tmp 27), (.tmp 34)], #[3, 3]⟩) (some (21, true)),
  .mk (some 36) (.pick (.tmp 21) (.tmp 35) (.const (.bool false))) none]
def r65_4 : List PS := [.mk (some 37) (.move (.tmp 9)) none,
  .mk (some 38) (.binOp .add 3 (.tmp 37) (.const (.int .i64 1)) 3) none,
  .mk (some 9) (.assign (.tmp 38)) none]
def r65_5 : List PS := [.mk (some 39) (.move (.tmp 0)) none,
  .mk (some 40) (.move (.tmp 3)) none,
  .mk (some 41) (.move (.tmp 8)) none,
  .mk (some 42) (.binOp .add 3 (.tmp 40) (.tmp 41) 3) none,
  .mk (some 43) (.indexAddr 22 (.tmp 39) (.tmp 42)) none,
  .mk (some 44) (.load 3 (.tmp 43)) none,
  .mk (some 45) (.move (.tmp 0)) none,
  .mk (some 46) (.move (.tmp 3)) none,
  .mk (some 47) (.move (.tmp 9)) none,
  .mk (some 48) (.binOp .add 3 (.tmp 46) (.tmp 47) 3) none,
  .mk (some 49) (.indexAddr 22 (.tmp 45) (.tmp 48)) none,
  .mk (some 50) (.load 3 (.tmp 49)) none,
  .mk (some 51) (.call ⟨(.value (.func 51)), #[(.tmp 44), (.tmp 50)], #[3, 3]⟩) none,
  .mk (some 52) (.unOp .not 4 (.tmp 51)) none]
def r65_6 : List PS := [.mk (some 53) (.move (.tmp 0)) none,
  .mk (some 54) (.move (.tmp 3)) none,
  .mk (some 55) (.move (.tmp 8)) none,
  .mk (some 56) (.binOp .add 3 (.tmp 54) (.tmp 55) 3) none,
  .mk (some 57) (.move (.tmp 0)) none,
  .mk (some 58) (.move (.tmp 3)) none,
  .mk (some 59) (.move (.tmp 9)) none,
  .mk (some 60) (.binOp .add 3 (.tmp 58) (.tmp 59) 3) none,
  .mk (some 61) (.move (.tmp 0)) none,
  .mk (some 62) (.move (.tmp 3)) none,
  .mk (some 63) (.move (.tmp 9)) none,
  .mk (some 64) (.binOp .add 3 (.tmp 62) (.tmp 63) 3) none,
  .mk (some 65) (.indexAddr 22 (.tmp 61) (.tmp 64)) none,
  .mk (some 66) (.load 3 (.tmp 65)) none,
  .mk (some 67) (.move (.tmp 0)) none,
  .mk (some 68) (.move (.tmp 3)) none,
  .mk (some 69) (.move (.tmp 8)) none,
  .mk (some 70) (.binOp .add 3 (.tmp 68) (.tmp 69) 3) none,
  .mk (some 71) (.indexAddr 22 (.tmp 67) (.tmp 70)) none,
  .mk (some 72) (.load 3 (.tmp 71)) none,
  .mk (some 73) (.indexAddr 22 (.tmp 53) (.tmp 56)) none,
  .mk none (.store 3 (.tmp 73) (.tmp 66)) none,
  .mk (some 74) (.indexAddr 22 (.tmp 57) (.tmp 60)) none,
  .mk none (.store 3 (.tmp 74) (.tmp 72)) none]
def r65_7 : List PS := [.mk (some 75) (.move (.tmp 9)) none,
  .mk (some 8) (.assign (.tmp 75)) none]
def c65 : PC := (.seq (.reg false r65_0) (.block 0 (.loop (.block 1 (.seq (.reg false r65_1) (.seq (.seq (.reg false r65_2) (.cond (.tmp 16) (.exit 0) .skip)) (.seq (.seq (.reg true r65_3) (.cond (.tmp 36) (.reg false r65_4) .skip)) (.seq (.seq (.reg true r65_5) (.cond (.tmp 52) .ret .skip)) (.seq (.reg true r65_6) (.reg false r65_7))))))))))
theorem e65 {args : List PV} {h : Heap} {K : PV → Heap → Prop} (hl : args.length = 4) (s : pwp Try.prog [] c65 (fin Try.prog [] h K) (slots0 (olds args)) h) : CanP Try.prog 65 args h K :=
  can_of2 (n := 76) mixed Try.func65 rfl (by kernel_rfl) (by rw [hl]; kernel_rfl) rfl (by kernel_rfl) s
/-! ### slices.heapSortOrdered[int]: function 46 -/
def r46_0 : List PS := [.mk (some 11) (.move (.tmp 1)) none,
  .mk (some 6) (.assign (.tmp 11)) none]
def r46_1 : List PS := [.mk (some 7) (.assign (.const (.int .i64 0))) none]
def r46_2 : List PS := [.mk (some 12) (.move (.tmp 2)) none,
  .mk (some 13) (.move (.tmp 1)) none,
  .mk (some 14) (.binOp .sub 3 (.tmp 12) (.tmp 13) 3) none,
  .mk (some 8) (.assign (.tmp 14)) none]
def r46_3 : List PS := [.mk (some 15) (.move (.tmp 8)) none,
  .mk (some 16) (.binOp .sub 3 (.tmp 15) (.const (.int .i64 1)) 3) none,
  .mk (some 17) (.binOp .quo 3 (.tmp 16) (.const (.int .i64 2)) 3) none,
  .mk (some 9) (.assign (.tmp 17)) none]
def r46_4 : List PS := [.mk (some 18) (.move (.tmp 9)) none,
  .mk (some 19) (.binOp .geq 3 (.tmp 18) (.const (.int .i64 0)) 3) none]
def r46_5 : List PS := [.mk (some 22) (.move (.tmp 0)) none,
  .mk (some 23) (.move (.tmp 9)) none,
  .mk (some 24) (.move (.tmp 8)) none,
  .mk (some 25) (.move (.tmp 6)) none,
  .mk (some 26) (.call ⟨(.value (.func 65)), #[(.tmp 22), (.tmp 23), (.tmp 24), (.tmp 25)], #[22, 3, 3, 3]⟩) none]
def r46_6 : List PS := [.mk (some 20) (.move (.tmp 9)) none,
  .mk (some 21) (.binOp .sub 3 (.tmp 20) (.const (.int .i64 1)) 3) none,
  .mk (some 9) (.assign (.tmp 21)) none]
def r46_7 : List PS := [.mk (some 27) (.move (.tmp 8)) none,
  .mk (some 28) (.binOp .sub 3 (.tmp 27) (.const (.int .i64 1)) 3) none,
  .mk (some 10) (.assign (.tmp 28)) none]
def r46_8 : List PS := [.mk (some 29) (.move (.tmp 10)) none,
  .mk (some 30) (.binOp .geq 3 (.tmp 29) (.const (.int .i64 0)) 3) none]
def r46_9 : List PS := [.mk (some 33) (.move (.tmp 0)) none,
  .mk (some 34) (.move (.tmp 6)) none,
  .mk (some 35) (.move (.tmp 0)) none,
  .mk (some 36) (.move (.tmp 6)) none,
  .mk (some 37) (.move (.tmp 10)) none,
  .mk (some 38) (.binOp .add 3 (.tmp 36) (.tmp 37) 3) none,
  .mk (some 39) (.move (.tmp 0)) none,
  .mk (some 40) (.move (.tmp 6)) none,
  .mk (some 41) (.move (.tmp 10)) none,
  .mk (some 42) (.binOp .add 3 (.tmp 40) (.tmp 41) 3) none,
  .mk (some 43) (.indexAddr 22 (.tmp 39) (.tmp 42)) none,
  .mk (some 44) (.load 3 (.tmp 43)) none,
  .mk (some 45) (.move (.tmp 0)) none,
  .mk (some 46) (.move (.tmp 6)) none,
  .mk (some 47) (.indexAddr 22 (.tmp 45) (.tmp 46)) none,
  .mk (some 48) (.load 3 (.tmp 47)) none,
  .mk (some 49) (.indexAddr 22 (.tmp 33) (.tmp 34)) none,
  .mk none (.store 3 (.tmp 49) (.tmp 44)) none,
  .mk (some 50) (.indexAddr 22 (.tmp 35) (.tmp 38)) none,
  .mk none (.store 3 (.tmp 50) (.tmp 48)) none]
def r46_10 : List PS := [.mk (some 51) (.move (.tmp 0)) none,
  .mk (some 52) (.move (.tmp 7)) none,
  .mk (some 53) (.move (.tmp 10)) none,
  .mk (some 54) (.move (.tmp 6)) none,
  .mk (some 55) (.call ⟨(.value (.func 65)), #[(.tmp 51), (.tmp 52), (.tmp 53), (.tmp 54)], #[22, 3, 3, 3]⟩) none]
def r46_11 : List PS := [.mk (some 31) (.move (.tmp 10)) none,
  .mk (some 32) (.binOp .sub 3 (.tmp 31) (.const (.int .i64 1)) 3) none,
  .mk (some 10) (.assign (.tmp 32)) none]
def c46 : PC := (.seq (.reg false r46_0) (.seq (.reg false r46_1) (.seq (.reg false r46_2) (.seq (.seq (.reg false r46_3) (.block 0 (.loop (.seq (.seq (.reg false r46_4) (.cond (.tmp 19) .skip (.exit 0))) (.seq (.block 1 (.reg false r46_5)) (.reg false r46_6)))))) (.seq (.reg false r46_7) (.block 2 (.loop (.seq (.seq (.reg false r46_8) (.cond (.tmp 30) .skip (.exit 2))) (.seq (.block 3 (.seq (.reg true r46_9) (.reg false r46_10))) (.reg false r46_11))))))))))
theorem e46 {args : List PV} {h : Heap} {K : PV → Heap → Prop} (hl : args.length = 3) (s : pwp Try.prog [] c46 (fin Try.prog [] h K) (slots0 (olds args)) h) : CanP Try.prog 46 args h K :=
  can_of2 (n := 56) mixed Try.func46 rfl (by kernel_rfl) (by rw [hl]; kernel_rfl) rfl (by kernel_rfl) s
/-! ### math.bits.Len32: function 54 -/
def r54_0 : List PS := [.mk (some 2) (.assign (.const (.int .i64 0))) none]
def r54_1 : List PS := [.mk (some 3) (.move (.tmp 0)) none,
  .mk (some 4) (.binOp .geq 85 (.tmp 3) (.const (.int .u32 65536)) 85) none]
def r54_2 : List PS := [.mk (some 5) (.move (.tmp 0)) none,
  .mk (some 6) (.binOp .shr 85 (.tmp 5) (.const (.int .u64 16)) 54) none,
  .mk (some 0) (.assign (.tmp 6)) none]
def r54_3 : List PS := [.mk (some 2) (.assign (.const (.int .i64 16))) none]
def r54_4 : List PS := [.mk (some 7) (.move (.tmp 0)) none,
  .mk (some 8) (.binOp .geq 85 (.tmp 7) (.const (.int .u32 256)) 85) none]
def r54_5 : List PS := [.mk (some 9) (.move (.tmp 0)) none,
  .mk (some 10) (.binOp .shr 85 (.tmp 9) (.const (.int .u64 8)) 54) none,
  .mk (some 0) (.assign (.tmp 10)) none]
def r54_6 : List PS := [.mk (some 11) (.move (.tmp 2)) none,
  .mk (some 12) (.binOp .add 3 (.tmp 11) (.const (.int .i64 8)) 3) none,
  .mk (some 2) (.assign (.tmp 12)) none]
def r54_7 : List PS := [.mk (some 13) (.move (.tmp 2)) none,
  .mk (some 14) (.move (.tmp 0)) none,
  .mk (some 15) (.convert 85 5 (.tmp 14)) none,
  .mk (some 16) (.index 9 (.const (.string ⟨#[0, 1, 2, 2, 3, 3, 3, 3, 4, 4, 4, 4, 4, 4, 4, 4, 5, 5, 5, 5, 5, 5, 5, 5, 5, 5, 5, 5, 5, 5, 5, 5, 6, 6, 6, 6, 6, 6, 6, 6, 6, 6, 6, 6, 6, 6, 6, 6, 6, 6, 6, 6, 6, 6, 6, 6, 6, 6, 6, 6, 6, 6, 6, 6, 7, 7, 7, 7, 7, 7, 7, 7, 7, 7, 7, 7, 7, 7, 7, 7, 7, 7, 7, 7, 7, 7, 7, 7, 7, 7, 7, 7, 7, 7, 7, 7, 7, 7, 7, 7, 7, 7, 7, 7, 7, 7, 7, 7, 7, 7, 7, 7, 7, 7, 7, 7, 7, 7, 7, 7, 7, 7, 7, 7, 7, 7, 7, 7, 8, 8, 8, 8, 8, 8, 8, 8, 8, 8, 8, 8, 8, 8, 8, 8, 8, 8, 8, 8, 8, 8, 8, 8, 8, 8, 8, 8, 8, 8, 8, 8, 8, 8, 8, 8, 8, 8, 8, 8, 8, 8, 8, 8, 8, 8, 8, 8, 8, 8, 8, 8, 8, 8, 8, 8, 8, 8, 8, 8, 8, 8, 8, 8, 8, 8, 8, 8, 8, 8, 8, 8, 8, 8, 8, 8, 8, 8, 8, 8, 8, 8, 8, 8, 8, 8, 8, 8, 8, 8, 8, 8, 8, 8, 8, 8, 8, 8, 8, 8, 8, 8, 8, 8, 8, 8, 8, 8, 8, 8, 8, 8, 8, 8, 8, 8, 8, 8, 8, 8, 8, 8, 8, 8, 8, 8, 8, 8]⟩)) (.tmp 15)) none,
  .mk (some 17) (.convert 5 3 (.tmp 16)) none,
  .mk (some 18) (.binOp .add 3 (.tmp 13) (.tmp 17) 3) none,
  .mk (some 2) (.assign (.tmp 18)) none]
def c54 : PC := (.seq (.reg false r54_0) (.seq (.seq (.reg false r54_1) (.cond (.tmp 4) (.seq (.reg false r54_2) (.reg false r54_3)) .skip)) (.seq (.seq (.reg false r54_4) (.cond (.tmp 8) (.seq (.reg false r54_5) (.reg false r54_6)) .skip)) (.seq (.reg false r54_7) .ret))))
theorem e54 {args : List PV} {h : Heap} {K : PV → Heap → Prop} (hl : args.length = 1) (s : pwp Try.prog [] c54 (fin Try.prog [.tmp 2] h K) (slots0 (olds args)) h) : CanP Try.prog 54 args h K :=
  can_of2 (n := 19) mixed Try.func54 rfl (by kernel_rfl) (by rw [hl]; kernel_rfl) rfl (by kernel_rfl) s
/-! ### math.bits.Len64: function 55 -/
def r55_0 : List PS := [.mk (some 2) (.assign (.const (.int .i64 0))) none]
def r55_1 : List PS := [.mk (some 3) (.move (.tmp 0)) none,
  .mk (some 4) (.binOp .geq 87 (.tmp 3) (.const (.int .u64 4294967296)) 87) none]
def r55_2 : List PS := [.mk (some 5) (.move (.tmp 0)) none,
  .mk (some 6) (.binOp .shr 87 (.tmp 5) (.const (.int .u64 32)) 54) none,
  .mk (some 0) (.assign (.tmp 6)) none]
def r55_3 : List PS := [.mk (some 2) (.assign (.const (.int .i64 32))) none]
def r55_4 : List PS := [.mk (some 7) (.move (.tmp 0)) none,
  .mk (some 8) (.binOp .geq 87 (.tmp 7) (.const (.int .u64 65536)) 87) none]
def r55_5 : List PS := [.mk (some 9) (.move (.tmp 0)) none,
  .mk (some 10) (.binOp .shr 87 (.tmp 9) (.const (.int .u64 16)) 54) none,
  .mk (some 0) (.assign (.tmp 10)) none]
def r55_6 : List PS := [.mk (some 11) (.move (.tmp 2)) none,
  .mk (some 12) (.binOp .add 3 (.tmp 11) (.const (.int .i64 16)) 3) none,
  .mk (some 2) (.assign (.tmp 12)) none]
def r55_7 : List PS := [.mk (some 13) (.move (.tmp 0)) none,
  .mk (some 14) (.binOp .geq 87 (.tmp 13) (.const (.int .u64 256)) 87) none]
def r55_8 : List PS := [.mk (some 15) (.move (.tmp 0)) none,
  .mk (some 16) (.binOp .shr 87 (.tmp 15) (.const (.int .u64 8)) 54) none,
  .mk (some 0) (.assign (.tmp 16)) none]
def r55_9 : List PS := [.mk (some 17) (.move (.tmp 2)) none,
  .mk (some 18) (.binOp .add 3 (.tmp 17) (.const (.int .i64 8)) 3) none,
  .mk (some 2) (.assign (.tmp 18)) none]
def r55_10 : List PS := [.mk (some 19) (.move (.tmp 2)) none,
  .mk (some 20) (.move (.tmp 0)) none,
  .mk (some 21) (.convert 87 5 (.tmp 20)) none,
  .mk (some 22) (.index 9 (.const (.string ⟨#[0, 1, 2, 2, 3, 3, 3, 3, 4, 4, 4, 4, 4, 4, 4, 4, 5, 5, 5, 5, 5, 5, 5, 5, 5, 5, 5, 5, 5, 5, 5, 5, 6, 6, 6, 6, 6, 6, 6, 6, 6, 6, 6, 6, 6, 6, 6, 6, 6, 6, 6, 6, 6, 6, 6, 6, 6, 6, 6, 6, 6, 6, 6, 6, 7, 7, 7, 7, 7, 7, 7, 7, 7, 7, 7, 7, 7, 7, 7, 7, 7, 7, 7, 7, 7, 7, 7, 7, 7, 7, 7, 7, 7, 7, 7, 7, 7, 7, 7, 7, 7, 7, 7, 7, 7, 7, 7, 7, 7, 7, 7, 7, 7, 7, 7, 7, 7, 7, 7, 7, 7, 7, 7, 7, 7, 7, 7, 7, 8, 8, 8, 8, 8, 8, 8, 8, 8, 8, 8, 8, 8, 8, 8, 8, 8, 8, 8, 8, 8, 8, 8, 8, 8, 8, 8, 8, 8, 8, 8, 8, 8, 8, 8, 8, 8, 8, 8, 8, 8, 8, 8, 8, 8, 8, 8, 8, 8, 8, 8, 8, 8, 8, 8, 8, 8, 8, 8, 8, 8, 8, 8, 8, 8, 8, 8, 8, 8, 8, 8, 8, 8, 8, 8, 8, 8, 8, 8, 8, 8, 8, 8, 8, 8, 8, 8, 8, 8, 8, 8, 8, 8, 8, 8, 8, 8, 8, 8, 8, 8, 8, 8, 8, 8, 8, 8, 8, 8, 8, 8, 8, 8, 8, 8, 8, 8, 8, 8, 8, 8, 8, 8, 8, 8, 8, 8, 8]⟩)) (.tmp 21)) none,
  .mk (some 23) (.convert 5 3 (.tmp 22)) none,
  .mk (some 24) (.binOp .add 3 (.tmp 19) (.tmp 23) 3) none,
  .mk (some 2) (.assign (.tmp 24)) none]
def c55 : PC := (.seq (.reg false r55_0) (.seq (.seq (.reg false r55_1) (.cond (.tmp 4) (.seq (.reg false r55_2) (.reg false r55_3)) .skip)) (.seq (.seq (.reg false r55_4) (.cond (.tmp 8) (.seq (.reg false r55_5) (.reg false r55_6)) .skip)) (.seq (.seq (.reg false r55_7) (.cond (.tmp 14) (.seq (.reg false r55_8) (.reg false r55_9)) .skip)) (.seq (.reg false r55_10) .ret)))))
theorem e55 {args : List PV} {h : Heap} {K : PV → Heap → Prop} (hl : args.length = 1) (s : pwp Try.prog [] c55 (fin Try.prog [.tmp 2] h K) (slots0 (olds args)) h) : CanP Try.prog 55 args h K :=
  can_of2 (n := 25) mixed Try.func55 rfl (by kernel_rfl) (by rw [hl]; kernel_rfl) rfl (by kernel_rfl) s
/-! ### math.bits.Len: function 32 -/
def r32_0 : List PS := [.mk (some 2) (.assign (.const (.int .i64 0))) none]
def r32_1 : List PS := [.mk (some 3) (.move (.tmp 0)) none,
  .mk (some 4) (.convert 54 85 (.tmp 3)) none,
  .mk (some 5) (.call ⟨(.value (.func 54)), #[(.tmp 4)], #[85]⟩) none,
  .mk (some 2) (.assign (.tmp 5)) none]
def r32_2 : List PS := [.mk (some 6) (.move (.tmp 0)) none,
  .mk (some 7) (.call ⟨(.value (.func 55)), #[(.tmp 6)], #[87]⟩) none,
  .mk (some 2) (.assign (.tmp 7)) none]
def c32 : PC := (.seq (.reg false r32_0) (.seq (.cond (.const (.bool false)) (.seq (.reg false r32_1) .ret) .skip) (.seq (.reg false r32_2) .ret)))
theorem e32 {args : List PV} {h : Heap} {K : PV → Heap → Prop} (hl : args.length = 1) (s : pwp Try.prog [] c32 (fin Try.prog [.tmp 2] h K) (slots0 (olds args)) h) : CanP Try.prog 32 args h K :=
  can_of2 (n := 8) mixed Try.func32 rfl (by kernel_rfl) (by rw [hl]; kernel_rfl) rfl (by kernel_rfl) s
/-! ### slices.nextPowerOfTwo: function 66 -/
def r66_0 : List PS := [.mk (some 2) (.assign (.const (.int .u64 0))) none]
def r66_1 : List PS := [.mk (some 3) (.move (.tmp 0)) none,
  .mk (some 4) (.convert 3 54 (.tmp 3)) none,
  .mk (some 5) (.call ⟨(.value (.func 32)), #[(.tmp 4)], #[54]⟩) none,
  .mk (some 6) (.binOp .shl 54 (.const (.int .u64 1)) (.tmp 5) 3) none,
  .mk (some 2) (.assign (.tmp 6)) none]
def c66 : PC := (.seq (.reg false r66_0) (.seq (.reg false r66_1) .ret))
theorem e66 {args : List PV} {h : Heap} {K : PV → Heap → Prop} (hl : args.length = 1) (s : pwp Try.prog [] c66 (fin Try.prog [.tmp 2] h K) (slots0 (olds args)) h) : CanP Try.prog 66 args h K :=
  can_of2 (n := 7) mixed Try.func66 rfl (by kernel_rfl) (by rw [hl]; kernel_rfl) rfl (by kernel_rfl) s
/-! ### (*slices.xorshift).Next: function 67 -/
def r67_0 : List PS := [.mk (some 2) (.assign (.const (.int .u64 0))) none]
def r67_1 : List PS := [.mk (some 3) (.move (.tmp 0)) none,
  .mk (some 4) (.nilCheck (.tmp 3)) none,
  .mk (some 5) (.load 94 (.tmp 4)) none,
  .mk (some 6) (.move (.tmp 0)) none,
  .mk (some 7) (.nilCheck (.tmp 6)) none,
  .mk (some 8) (.load 94 (.tmp 7)) none,
  .mk (some 9) (.binOp .shl 94 (.tmp 8) (.const (.int .u64 13)) 54) none,
  .mk (some 10) (.binOp .xor 94 (.tmp 5) (.tmp 9) 94) none,
  .mk (some 11) (.nilCheck (.tmp 3)) none,
  .mk none (.store 94 (.tmp 11) (.tmp 10)) none]
def r67_2 : List PS := [.mk (some 12) (.move (.tmp 0)) none,
  .mk (some 13) (.nilCheck (.tmp 12)) none,
  .mk (some 14) (.load 94 (.tmp 13)) none,
  .mk (some 15) (.move (.tmp 0)) none,
  .mk (some 16) (.nilCheck (.tmp 15)) none,
  .mk (some 17) (.load 94 (.tmp 16)) none,
  .mk (some 18) (.binOp .shr 94 (.tmp 17) (.const (.int .u64 7)) 54) none,
  .mk (some 19) (.binOp .xor 94 (.tmp 14) (.tmp 18) 94) none,
  .mk (some 20) (.nilCheck (.tmp 12)) none,
  .mk none (.store 94 (.tmp 20) (.tmp 19)) none]
def r67_3 : List PS := [.mk (some 21) (.move (.tmp 0)) none,
  .mk (some 22) (.nilCheck (.tmp 21)) none,
  .mk (some 23) (.load 94 (.tmp 22)) none,
  .mk (some 24) (.move (.tmp 0)) none,
  .mk (some 25) (.nilCheck (.tmp 24)) none,
  .mk (some 26) (.load 94 (.tmp 25)) none,
  .mk (some 27) (.binOp .shl 94 (.tmp 26) (.const (.int .u64 17)) 54) none,
  .mk (some 28) (.binOp .xor 94 (.tmp 23) (.tmp 27) 94) none,
  .mk (some 29) (.nilCheck (.tmp 21)) none,
  .mk none (.store 94 (.tmp 29) (.tmp 28)) none]
def r67_4 : List PS := [.mk (some 30) (.move (.tmp 0)) none,
  .mk (some 31) (.nilCheck (.tmp 30)) none,
  .mk (some 32) (.load 94 (.tmp 31)) none,
  .mk (some 2) (.assign (.tmp 32)) none]
def c67 : PC := (.seq (.reg false r67_0) (.seq (.reg true r67_1) (.seq (.reg true r67_2) (.seq (.reg true r67_3) (.seq (.reg false r67_4) .ret)))))
theorem e67 {args : List PV} {h : Heap} {K : PV → Heap → Prop} (hl : args.length = 1) (s : pwp Try.prog [] c67 (fin Try.prog [.tmp 2] h K) (slots0 (olds args)) h) : CanP Try.prog 67 args h K :=
  can_of2 (n := 33) mixed Try.func67 rfl (by kernel_rfl) (by rw [hl]; kernel_rfl) rfl (by kernel_rfl) s
/-! ### slices.breakPatternsOrdered[int]: function 47 -/
def r47_0 : List PS := [.mk (some 11) (.move (.tmp 2)) none,
  .mk (some 12) (.move (.tmp 1)) none,
  .mk (some 13) (.binOp .sub 3 (.tmp 11) (.tmp 12) 3) none,
  .mk (some 6) (.assign (.tmp 13)) none]
def r47_1 : List PS := [.mk (some 14) (.move (.tmp 6)) none,
  .mk (some 15) (.binOp .geq 3 (.tmp 14) (.const (.int .i64 8)) 3) none]
def r47_2 : List PS := [.mk (some 16) (.move (.tmp 6)) none,
  .mk (some 17) (.convert 3 94 (.tmp 16)) none,
  .mk (some 7) (.alloc 94) none,
  .mk none (.store 94 (.tmp 7) (.tmp 17)) none]
def r47_3 : List PS := [.mk (some 18) (.move (.tmp 6)) none,
  .mk (some 19) (.call ⟨(.value (.func 66)), #[(.tmp 18)], #[3]⟩) none,
  .mk (some 8) (.assign (.tmp 19)) none]
def r47_4 : List PS := [.mk (some 20) (.move (.tmp 1)) none,
  .mk (some 21) (.move (.tmp 6)) none,
  .mk (some 22) (.binOp .quo 3 (.tmp 21) (.const (.int .i64 4)) 3) none,
  .mk (some 23) (.binOp .mul 3 (.tmp 22) (.const (.int .i64 2)) 3) none,
  .mk (some 24) (.binOp .add 3 (.tmp 20) (.tmp 23) 3) none,
  .mk (some 25) (.binOp .sub 3 (.tmp 24) (.const (.int .i64 1)) 3) none,
  .mk (some 9) (.assign (.tmp 25)) none]
def r47_5 : List PS := [.mk (some 26) (.move (.tmp 9)) none,
  .mk (some 27) (.move (.tmp 1)) none,
  .mk (some 28) (.move (.tmp 6)) none,
  .mk (some 29) (.binOp .quo 3 (.tmp 28) (.const (.int .i64 4)) 3) none,
  .mk (some 30) (.binOp .mul 3 (.tmp 29) (.const (.int .i64 2)) 3) none,
  .mk (some 31) (.binOp .add 3 (.tmp 27) (.tmp 30) 3) none,
  .mk (some 32) (.binOp .add 3 (.tmp 31) (.const (.int .i64 1)) 3) none,
  .mk (some 33) (.binOp .leq 3 (.tmp 26) (.tmp 32) 3) none]
def r47_6 : List PS := [.mk (some 36) (.call ⟨(.value (.func 67)), #[(.tmp 7)], #[94]⟩) none,
  .mk (some 37) (.move (.tmp 8)) none,
  .mk (some 38) (.binOp .sub 54 (.tmp 37) (.const (.int .u64 1)) 54) none,
  .mk (some 39) (.binOp .and 54 (.tmp 36) (.tmp 38) 54) none,
  .mk (some 40) (.convert 54 3 (.tmp 39)) none,
  .mk (some 10) (.assign (.tmp 40)) none]
def r47_7 : List PS := [.mk (some 41) (.move (.tmp 10)) none,
  .mk (some 42) (.move (.tmp 6)) none,
  .mk (some 43) (.binOp .geq 3 (.tmp 41) (.tmp 42) 3) none]
def r47_8 : List PS := [.mk (some 44) (.move (.tmp 10)) none,
  .mk (some 45) (.move (.tmp 6)) none,
  .mk (some 46) (.binOp .sub 3 (.tmp 44) (.tmp 45) 3) none,
  .mk (some 10) (.assign (.tmp 46)) none]
def r47_9 : List PS := [.mk (some 47) (.move (.tmp 0)) none,
  .mk (some 48) (.move (.tmp 9)) none,
  .mk (some 49) (.move (.tmp 0)) none,
  .mk (some 50) (.move (.tmp 1)) none,
  .mk (some 51) (.move (.tmp 10)) none,
  .mk (some 52) (.binOp .add 3 (.tmp 50) (.tmp 51) 3) none,
  .mk (some 53) (.move (.tmp 0)) none,
  .mk (some 54) (.move (.tmp 1)) none,
  .mk (some 55) (.move (.tmp 10)) none,
  .mk (some 56) (.binOp .add 3 (.tmp 54) (.tmp 55) 3) none,
  .mk (some 57) (.indexAddr 22 (.tmp 53) (.tmp 56)) none,
  .mk (some 58) (.load 3 (.tmp 57)) none,
  .mk (some 59) (.move (.tmp 0)) none,
  .mk (some 60) (.move (.tmp 9)) none,
  .mk (some 61) (.indexAddr 22 (.tmp 59) (.tmp 60)) none,
  .mk (some 62) (.load 3 (.tmp 61)) none,
  .mk (some 63) (.indexAddr 22 (.tmp 47) (.tmp 48)) none,
  .mk none (.store 3 (.tmp 63) (.tmp 58)) none,
  .mk (some 64) (.indexAddr 22 (.tmp 49) (.tmp 52)) none,
  .mk none (.store 3 (.tmp 64) (.tmp 62)) none]
def r47_10 : List PS := [.mk (some 34) (.move (.tmp 9)) none,
  .mk (some 35) (.binOp .add 3 (.tmp 34) (.const (.int .i64 1)) 3) none,
  .mk (some 9) (.assign (.tmp 35)) none]
def c47 : PC := (.seq (.reg false r47_0) (.seq (.reg false r47_1) (.cond (.tmp 15) (.seq (.reg false r47_2) (.seq (.reg false r47_3) (.seq (.reg false r47_4) (.block 0 (.loop (.seq (.seq (.reg false r47_5) (.cond (.tmp 33) .skip (.exit 0))) (.seq (.block 1 (.seq (.reg false r47_6) (.seq (.seq (.reg false r47_7) (.cond (.tmp 43) (.reg false r47_8) .skip)) (.reg true r47_9)))) (.reg false r47_10)))))))) .skip)))
theorem e47 {args : List PV} {h : Heap} {K : PV → Heap → Prop} (hl : args.length = 3) (s : pwp Try.prog [7] c47 (fin Try.prog [] h K) (slots0 (olds args)) h) : CanP Try.prog 47 args h K :=
  can_of2 (n := 65) mixed Try.func47 rfl (by kernel_rfl) (by rw [hl]; kernel_rfl) rfl (by kernel_rfl) s
/-! ### slices.order2Ordered[int]: function 75 -/
def r75_0 : List PS := [.mk (some 8) (.assign (.const (.int .i64 0))) none,
  .mk (some 9) (.assign (.const (.int .i64 0))) none]
def r75_1 : List PS := [.mk (some 10) (.move (.tmp 0)) none,
  .mk (some 11) (.move (.tmp 2)) none,
  .mk (some 12) (.indexAddr 22 (.tmp 10) (.tmp 11)) none,
  .mk (some 13) (.load 3 (.tmp 12)) none,
  .mk (some 14) (.move (.tmp 0)) none,
  .mk (some 15) (.move (.tmp 1)) none,
  .mk (some 16) (.indexAddr 22 (.tmp 14) (.tmp 15)) none,
  .mk (some 17) (.load 3 (.tmp 16)) none,
  .mk (some 18) (.call ⟨(.value (.func 51)), #[(.tmp 13), (.tmp 17)], #[3, 3]⟩) none]
def r75_2 : List PS := [.mk (some 19) (.move (.tmp 3)) none,
  .mk (some 20) (.nilCheck (.tmp 19)) none,
  .mk (some 21) (.load 3 (.tmp 20)) none,
  .mk (some 22) (.binOp .add 3 (.tmp 21) (.const (.int .i64 1)) 3) none,
  .mk (some 23) (.nilCheck (.tmp 19)) none,
  .mk none (.store 3 (.tmp 23) (.tmp 22)) none]
def r75_3 : List PS := [.mk (some 24) (.move (.tmp 2)) none,
  .mk (some 25) (.move (.tmp 1)) none,
  .mk (some 8) (.assign (.tmp 24)) none,
  .mk (some 9) (.assign (.tmp 25)) none]
def r75_4 : List PS := [.mk (some 26) (.move (.tmp 1)) none,
  .mk (some 27) (.move (.tmp 2)) none,
  .mk (some 8) (.assign (.tmp 26)) none,
  .mk (some 9) (.assign (.tmp 27)) none]
def c75 : PC := (.seq (.reg false r75_0) (.seq (.seq (.reg true r75_1) (.cond (.tmp 18) (.seq (.reg false r75_2) (.seq (.reg false r75_3) .ret)) .skip)) (.seq (.reg false r75_4) .ret)))
theorem e75 {args : List PV} {h : Heap} {K : PV → Heap → Prop} (hl : args.length = 4) (s : pwp Try.prog [] c75 (fin Try.prog [.tmp 8, .tmp 9] h K) (slots0 (olds args)) h) : CanP Try.prog 75 args h K :=
  can_of2 (n := 28) mixed Try.func75 rfl (by kernel_rfl) (by rw [hl]; kernel_rfl) rfl (by kernel_rfl) s
/-! ### slices.medianOrdered[int]: function 69 -/
def r69_0 : List PS := [.mk (some 10) (.assign (.const (.int .i64 0))) none]
def r69_1 : List PS := [.mk (some 12) (.move (.tmp 0)) none,
  .mk (some 13) (.move (.tmp 1)) none,
  .mk (some 14) (.move (.tmp 2)) none,
  .mk (some 15) (.move (.tmp 4)) none,
  .mk (some 16) (.call ⟨(.value (.func 75)), #[(.tmp 12), (.tmp 13), (.tmp 14), (.tmp 15)], #[22, 3, 3, 98]⟩) none,
  .mk (some 11) (.move (.tmp 16)) none,
  .mk (some 17) (.extract (.tmp 11) 0) none,
  .mk (some 18) (.extract (.tmp 11) 1) none,
  .mk (some 1) (.assign (.tmp 17)) none,
  .mk (some 2) (.assign (.tmp 18)) none]
def r69_2 : List PS := [.mk (some 20) (.move (.tmp 0)) none,
  .mk (some 21) (.move (.tmp 2)) none,
  .mk (some 22) (.move (.tmp 3)) none,
  .mk (some 23) (.move (.tmp 4)) none,
  .mk (some 24) (.call ⟨(.value (.func 75)), #[(.tmp 20), (.tmp 21), (.tmp 22), (.tmp 23)], #[22, 3, 3, 98]⟩) none,
  .mk (some 19) (.move (.tmp 24)) none,
  .mk (some 25) (.extract (.tmp 19) 0) none,
  .mk (some 26) (.extract (.tmp 19) 1) none,
  .mk (some 2) (.assign (.tmp 25)) none,
  .mk (some 3) (.assign (.tmp 26)) none]
def r69_3 : List PS := [.mk (some 28) (.move (.tmp 0)) none,
  .mk (some 29) (.move (.tmp 1)) none,
  .mk (some 30) (.move (.tmp 2)) none,
  .mk (some 31) (.move (.tmp 4)) none,
  .mk (some 32) (.call ⟨(.value (.func 75)), #[(.tmp 28), (.tmp 29), (.tmp 30), (.tmp 31)], #[22, 3, 3, 98]⟩) none,
  .mk (some 27) (.move (.tmp 32)) none,
  .mk (some 33) (.extract (.tmp 27) 0) none,
  .mk (some 34) (.extract (.tmp 27) 1) none,
  .mk (some 1) (.assign (.tmp 33)) none,
  .mk (some 2) (.assign (.tmp 34)) none]
def r69_4 : List PS := [.mk (some 35) (.move (.tmp 2)) none,
  .mk (some 10) (.assign (.tmp 35)) none]
def c69 : PC := (.seq (.reg false r69_0) (.seq (.reg false r69_1) (.seq (.reg false r69_2) (.seq (.reg false r69_3) (.seq (.reg false r69_4) .ret)))))
theorem e69 {args : List PV} {h : Heap} {K : PV → Heap → Prop} (hl : args.length = 5) (s : pwp Try.prog [] c69 (fin Try.prog [.tmp 10] h K) (slots0 (olds args)) h) : CanP Try.prog 69 args h K :=
  can_of2 (n := 36) mixed Try.func69 rfl (by kernel_rfl) (by rw [hl]; kernel_rfl) rfl (by kernel_rfl) s
/-! ### slices.medianAdjacentOrdered[int]: function 68 -/
def r68_0 : List PS := [.mk (some 6) (.assign (.const (.int .i64 0))) none]
def r68_1 : List PS := [.mk (some 7) (.move (.tmp 0)) none,
  .mk (some 8) (.move (.tmp 1)) none,
  .mk (some 9) (.binOp .sub 3 (.tmp 8) (.const (.int .i64 1)) 3) none,
  .mk (some 10) (.move (.tmp 1)) none,
  .mk (some 11) (.move (.tmp 1)) none,
  .mk (some 12) (.binOp .add 3 (.tmp 11) (.const (.int .i64 1)) 3) none,
  .mk (some 13) (.move (.tmp 2)) none,
  .mk (some 14) (.call ⟨(.value (.func 69)), #[(.tmp 7), (.tmp 9), (.tmp 10), (.tmp 12), (.tmp 13)], #[22, 3, 3, 3, 98]⟩) none,
  .mk (some 6) (.assign (.tmp 14)) none]
def c68 : PC := (.seq (.reg false r68_0) (.seq (.reg false r68_1) .ret))
theorem e68 {args : List PV} {h : Heap} {K : PV → Heap → Prop} (hl : args.length = 3) (s : pwp Try.prog [] c68 (fin Try.prog [.tmp 6] h K) (slots0 (olds args)) h) : CanP Try.prog 68 args h K :=
  can_of2 (n := 15) mixed Try.func68 rfl (by kernel_rfl) (by rw [hl]; kernel_rfl) rfl (by kernel_rfl) s
/-! ### slices.choosePivotOrdered[int]: function 48 -/
def r48_0 : List PS := [.mk (some 6) (.assign (.const (.int .i64 0))) none,
  .mk (some 7) (.assign (.const (.int .i64 0))) none]
def r48_1 : List PS := [.mk (some 13) (.move (.tmp 2)) none,
  .mk (some 14) (.move (.tmp 1)) none,
  .mk (some 15) (.binOp .sub 3 (.tmp 13) (.tmp 14) 3) none,
  .mk (some 8) (.assign (.tmp 15)) none]
def r48_2 : List PS := [.mk (some 9) (.alloc 3) none]
def r48_3 : List PS := [.mk (some 16) (.move (.tmp 1)) none,
  .mk (some 17) (.move (.tmp 8)) none,
  .mk (some 18) (.binOp .quo 3 (.tmp 17) (.const (.int .i64 4)) 3) none,
  .mk (some 19) (.binOp .mul 3 (.tmp 18) (.const (.int .i64 1)) 3) none,
  .mk (some 20) (.binOp .add 3 (.tmp 16) (.tmp 19) 3) none,
  .mk (some 10) (.assign (.tmp 20)) none]
def r48_4 : List PS := [.mk (some 21) (.move (.tmp 1)) none,
  .mk (some 22) (.move (.tmp 8)) none,
  .mk (some 23) (.binOp .quo 3 (.tmp 22) (.const (.int .i64 4)) 3) none,
  .mk (some 24) (.binOp .mul 3 (.tmp 23) (.const (.int .i64 2)) 3) none,
  .mk (some 25) (.binOp .add 3 (.tmp 21) (.tmp 24) 3) none,
  .mk (some 11) (.assign (.tmp 25)) none]
def r48_5 : List PS := [.mk (some 26) (.move (.tmp 1)) none,
  .mk (some 27) (.move (.tmp 8)) none,
  .mk (some 28) (.binOp .quo 3 (.tmp 27) (.const (.int .i64 4)) 3) none,
  .mk (some 29) (.binOp .mul 3 (.tmp 28) (.const (.int .i64 3)) 3) none,
  .mk (some 30) (.binOp .add 3 (.tmp 26) (.tmp 29) 3) none,
  .mk (some 12) (.assign (.tmp 30)) none]
def r48_6 : List PS := [.mk (some 31) (.move (.tmp 8)) none,
  .mk (some 32) (.binOp .geq 3 (.tmp 31) (.const (.int .i64 8)) 3) none]
def r48_7 : List PS := [.mk (some 33) (.move (.tmp 8)) none,
  .mk (some 34) (.binOp .geq 3 (.tmp 33) (.const (.int .i64 50)) 3) none]
def r48_8 : List PS := [.mk (some 35) (.move (.tmp 0)) none,
  .mk (some 36) (.move (.tmp 10)) none,
  .mk (some 37) (.call ⟨(.value (.func 68)), #[(.tmp 35), (.tmp 36), (.tmp 9)], #[22, 3, 98]⟩) none,
  .mk (some 10) (.assign (.tmp 37)) none]
def r48_9 : List PS := [.mk (some 38) (.move (.tmp 0)) none,
  .mk (some 39) (.move (.tmp 11)) none,
  .mk (some 40) (.call ⟨(.value (.func 68)), #[(.tmp 38), (.tmp 39), (.tmp 9)], #[22, 3, 98]⟩) none,
  .mk (some 11) (.assign (.tmp 40)) none]
def r48_10 : List PS := [.mk (some 41) (.move (.tmp 0)) none,
  .mk (some 42) (.move (.tmp 12)) none,
  .mk (some 43) (.call ⟨(.value (.func 68)), #[(.tmp 41), (.tmp 42), (.tmp 9)], #[22, 3, 98]⟩) none,
  .mk (some 12) (.assign (.tmp 43)) none]
def r48_11 : List PS := [.mk (some 44) (.move (.tmp 0)) none,
  .mk (some 45) (.move (.tmp 10)) none,
  .mk (some 46) (.move (.tmp 11)) none,
  .mk (some 47) (.move (.tmp 12)) none,
  .mk (some 48) (.call ⟨(.value (.func 69)), #[(.tmp 44), (.tmp 45), (.tmp 46), (.tmp 47), (.tmp 9)], #[22, 3, 3, 3, 98]⟩) none,
  .mk (some 11) (.assign (.tmp 48)) none]
def r48_12 : List PS := [.mk (some 49) (.load 3 (.tmp 9)) none]
def r48_13 : List PS := [.mk (some 52) (.binOp .eql 3 (.tmp 49) (.const (.int .i64 0)) 3) none,
  .mk (some 51) (.assign (.tmp 52)) none]
def r48_14 : List PS := [.mk (some 53) (.move (.tmp 11)) none,
  .mk (some 6) (.assign (.tmp 53)) none,
  .mk (some 7) (.assign (.const (.int .i64 1))) none]
def r48_15 : List PS := [.mk (some 55) (.binOp .eql 3 (.tmp 49) (.const (.int .i64 12)) 3) none,
  .mk (some 54) (.assign (.tmp 55)) none]
def r48_16 : List PS := [.mk (some 56) (.move (.tmp 11)) none,
  .mk (some 6) (.assign (.tmp 56)) none,
  .mk (some 7) (.assign (.const (.int .i64 2))) none]
def r48_17 : List PS := [.mk (some 50) (.move (.tmp 11)) none,
  .mk (some 6) (.assign (.tmp 50)) none,
  .mk (some 7) (.assign (.const (.int .i64 0))) none]
def c48 : PC := (.seq (.reg false r48_0) (.seq (.reg false r48_1) (.seq (.reg false r48_2) (.seq (.reg false r48_3) (.seq (.reg false r48_4) (.seq (.reg false r48_5) (.seq (.seq (.reg false r48_6) (.cond (.tmp 32) (.seq (.seq (.reg false r48_7) (.cond (.tmp 34) (.seq (.reg false r48_8) (.seq (.reg false r48_9) (.reg false r48_10))) .skip)) (.reg false r48_11)) .skip)) (.seq (.reg false r48_12) (.block 0 (.seq (.reg false r48_13) (.cond (.tmp 51) (.seq (.reg false r48_14) .ret) (.seq (.reg false r48_15) (.cond (.tmp 54) (.seq (.reg false r48_16) .ret) (.seq (.reg false r48_17) .ret))))))))))))))
theorem e48 {args : List PV} {h : Heap} {K : PV → Heap → Prop} (hl : args.length = 3) (s : pwp Try.prog [9] c48 (fin Try.prog [.tmp 6, .tmp 7] h K) (slots0 (olds args)) h) : CanP Try.prog 48 args h K :=
  can_of2 (n := 57) mixed Try.func48 rfl (by kernel_rfl) (by rw [hl]; kernel_rfl) rfl (by kernel_rfl) s
/-! ### slices.reverseRangeOrdered[int]: function 49 -/
def r49_0 : List PS := [.mk (some 8) (.move (.tmp 1)) none,
  .mk (some 6) (.assign (.tmp 8)) none]
def r49_1 : List PS := [.mk (some 9) (.move (.tmp 2)) none,
  .mk (some 10) (.binOp .sub 3 (.tmp 9) (.const (.int .i64 1)) 3) none,
  .mk (some 7) (.assign (.tmp 10)) none]
def r49_2 : List PS := [.mk (some 11) (.move (.tmp 6)) none,
  .mk (some 12) (.move (.tmp 7)) none,
  .mk (some 13) (.binOp .lss 3 (.tmp 11) (.tmp 12) 3) none]
def r49_3 : List PS := [.mk (some 14) (.move (.tmp 0)) none,
  .mk (some 15) (.move (.tmp 6)) none,
  .mk (some 16) (.move (.tmp 0)) none,
  .mk (some 17) (.move (.tmp 7)) none,
  .mk (some 18) (.move (.tmp 0)) none,
  .mk (some 19) (.move (.tmp 7)) none,
  .mk (some 20) (.indexAddr 22 (.tmp 18) (.tmp 19)) none,
  .mk (some 21) (.load 3 (.tmp 20)) none,
  .mk (some 22) (.move (.tmp 0)) none,
  .mk (some 23) (.move (.tmp 6)) none,
  .mk (some 24) (.indexAddr 22 (.tmp 22) (.tmp 23)) none,
  .mk (some 25) (.load 3 (.tmp 24)) none,
  .mk (some 26) (.indexAddr 22 (.tmp 14) (.tmp 15)) none,
  .mk none (.store 3 (.tmp 26) (.tmp 21)) none,
  .mk (some 27) (.indexAddr 22 (.tmp 16) (.tmp 17)) none,
  .mk none (.store 3 (.tmp 27) (.tmp 25)) none]
def r49_4 : List PS := [.mk (some 28) (.move (.tmp 6)) none,
  .mk (some 29) (.binOp .add 3 (.tmp 28) (.const (.int .i64 1)) 3) none,
  .mk (some 6) (.assign (.tmp 29)) none]
def r49_5 : List PS := [.mk (some 30) (.move (.tmp 7)) none,
  .mk (some 31) (.binOp .sub 3 (.tmp 30) (.const (.int .i64 1)) 3) none,
  .mk (some 7) (.assign (.tmp 31)) none]
def c49 : PC := (.seq (.reg false r49_0) (.seq (.reg false r49_1) (.block 0 (.loop (.seq (.seq (.reg false r49_2) (.cond (.tmp 13) .skip (.exit 0))) (.block 1 (.seq (.reg true r49_3) (.seq (.reg false r49_4) (.reg false r49_5)))))))))
theorem e49 {args : List PV} {h : Heap} {K : PV → Heap → Prop} (hl : args.length = 3) (s : pwp Try.prog [] c49 (fin Try.prog [] h K) (slots0 (olds args)) h) : CanP Try.prog 49 args h K :=
  can_of2 (n := 32) mixed Try.func49 rfl (by kernel_rfl) (by rw [hl]; kernel_rfl) rfl (by kernel_rfl) s
/-! ### slices.partialInsertionSortOrdered[int]: function 50 -/
def r50_0 : List PS := [.mk (some 6) (.assign (.const (.bool false))) none]
def r50_1 : List PS := [.mk (some 11) (.move (.tmp 1)) none,
  .mk (some 12) (.binOp .add 3 (.tmp 11) (.const (.int .i64 1)) 3) none,
  .mk (some 7) (.assign (.tmp 12)) none]
def r50_2 : List PS := [.mk (some 8) (.assign (.const (.int .i64 0))) none]
def r50_3 : List PS := [.mk (some 13) (.move (.tmp 8)) none,
  .mk (some 14) (.binOp .lss 3 (.tmp 13) (.const (.int .i64 5)) 3) none]
def r50_4 : List PS := [.mk (some 17) (.move (.tmp 7)) none,
  .mk (some 18) (.move (.tmp 2)) none,
  .mk (some 19) (.binOp .lss 3 (.tmp 17) (.tmp 18) 3) none,
  .mk (some 20) (.move (.tmp 19)) none,
  .mk (some 21) (.move (.tmp 0)) (some (20, true)),
  .mk (some 22) (.move (.tmp 7)) (some (20, true)),
  .mk (some 23) (.indexAddr 22 (.tmp 21) (.tmp 22)) (some (20, true)),
  .mk (some 24) (.load 3 (.tmp 23)) (some (20, true)),
  .mk (some 25) (.move (.tmp 0)) (some (20, true)),
  .mk (some 26) (.move (.tmp 7)) (some (20, true)),
  .mk (some 27) (.binOp .sub 3 (.tmp 26) (.const (.int .i64 1)) 3) (some (20, true)),
  .mk (some 28) (.indexAddr 22 (.tmp 25) (.tmp 27)) (some (20, true)),
  .mk (some 29) (.load 3 (.tmp 28)) (some (20, true)),
  .mk (some 30) (.call ⟨(.value (.func 51)), #[(.tmp 24), (.tmp 29)], #[3, 3]⟩) (some (20, true)),
  .mk (some 31) (.unOp .not 4 (.tmp 30)) (some (20, true)),
  .mk (some 32) (.pick (.tmp 20) (.tmp 31) (.const (.bool false))) none]
def r50_5 : List PS := [.mk (some 33) (.move (.tmp 7)) none,
  .mk (some 34) (.binOp .add 3 (.tmp 33) (.const (.int .i64 1)) 3) none,
  .mk (some 7) (.assign (.tmp 34)) none]
def r50_6 : List PS := [.mk (some 35) (.move (.tmp 7)) none,
  .mk (some 36) (.move (.tmp 2)) none,
  .mk (some 37) (.binOp .eql 3 (.tmp 35) (.tmp 36) 3) none]
def r50_7 : List PS := [.mk (some 6) (.assign (.const (.bool true))) none]
def r50_8 : List PS := [.mk (some 38) (.move (.tmp 2)) none,
  .mk (some 39) (.move (.tmp 1)) none,
  .mk (some 40) (.binOp .sub 3 (.tmp 38) (.tmp 39) 3) none,
  .mk (some 41) (.binOp .lss 3 (.tmp 40) (.const (.int .i64 50)) 3) none]
def r50_9 : List PS := [.mk (some 6) (.assign (.const (.bool false))) none]
def r50_10 : List PS := [.mk (some 42) (.move (.tmp 0)) none,
  .mk (some 43) (.move (.tmp 7)) none,
  .mk (some 44) (.move (.tmp 0)) none,
  .mk (some 45) (.move (.tmp 7)) none,
  .mk (some 46) (.binOp .sub 3 (.tmp 45) (.const (.int .i64 1)) 3) none,
  .mk (some 47) (.move (.tmp 0)) none,
  .mk (some 48) (.move (.tmp 7)) none,
  .mk (some 49) (.binOp .sub 3 (.tmp 48) (.const (.int .i64 1)) 3) none,
  .mk (some 50) (.indexAddr 22 (.tmp 47) (.tmp 49)) none,
  .mk (some 51) (.load 3 (.tmp 50)) none,
  .mk (some 52) (.move (.tmp 0)) none,
  .mk (some 53) (.move (.tmp 7)) none,
  .mk (some 54) (.indexAddr 22 (.tmp 52) (.tmp 53)) none,
  .mk (some 55) (.load 3 (.tmp 54)) none,
  .mk (some 56) (.indexAddr 22 (.tmp 42) (.tmp 43)) none,
  .mk none (.store 3 (.tmp 56) (.tmp 51)) none,
  .mk (some 57) (.indexAddr 22 (.tmp 44) (.tmp 46)) none,
  .mk none (.store 3 (.tmp 57) (.tmp 55)) none]
def r50_11 : List PS := [.mk (some 58) (.move (.tmp 7)) none,
  .mk (some 59) (.move (.tmp 1)) none,
  .mk (some 60) (.binOp .sub 3 (.tmp 58) (.tmp 59) 3) none,
  .mk (some 61) (.binOp .geq 3 (.tmp 60) (.const (.int .i64 2)) 3) none]
def r50_12 : List PS := [.mk (some 62) (.move (.tmp 7)) none,
  .mk (some 63) (.binOp .sub 3 (.tmp 62) (.const (.int .i64 1)) 3) none,
  .mk (some 9) (.assign (.tmp 63)) none]
def r50_13 : List PS := [.mk (some 64) (.move (.tmp 9)) none,
  .mk (some 65) (.binOp .geq 3 (.tmp 64) (.const (.int .i64 1)) 3) none]
def r50_14 : List PS := [.mk (some 68) (.move (.tmp 0)) none,
  .mk (some 69) (.move (.tmp 9)) none,
  .mk (some 70) (.indexAddr 22 (.tmp 68) (.tmp 69)) none,
  .mk (some 71) (.load 3 (.tmp 70)) none,
  .mk (some 72) (.move (.tmp 0)) none,
  .mk (some 73) (.move (.tmp 9)) none,
  .mk (some 74) (.binOp .sub 3 (.tmp 73) (.const (.int .i64 1)) 3) none,
  .mk (some 75) (.indexAddr 22 (.tmp 72) (.tmp 74)) none,
  .mk (some 76) (.load 3 (.tmp 75)) none,
  .mk (some 77) (.call ⟨(.value (.func 51)), #[(.tmp 71), (.tmp 76)], #[3, 3]⟩) none,
  .mk (some 78) (.unOp .not 4 (.tmp 77)) none]
def r50_15 : List PS := [.mk (some 79) (.move (.tmp 0)) none,
  .mk (some 80) (.move (.tmp 9)) none,
  .mk (some 81) (.move (.tmp 0)) none,
  .mk (some 82) (.move (.tmp 9)) none,
  .mk (some 83) (.binOp .sub 3 (.tmp 82) (.const (.int .i64 1)) 3) none,
  .mk (some 84) (.move (.tmp 0)) none,
  .mk (some 85) (.move (.tmp 9)) none,
  .mk (some 86) (.binOp .sub 3 (.tmp 85) (.const (.int .i64 1)) 3) none,
  .mk (some 87) (.indexAddr 22 (.tmp 84) (.tmp 86)) none,
  .mk (some 88) (.load 3 (.tmp 87)) none,
  .mk (some 89) (.move (.tmp 0)) none,
  .mk (some 90) (.move (.tmp 9)) none,
  .mk (some 91) (.indexAddr 22 (.tmp 89) (.tmp 90)) none,
  .mk (some 92) (.load 3 (.tmp 91)) none,
  .mk (some 93) (.indexAddr 22 (.tmp 79) (.tmp 80)) none,
  .mk none (.store 3 (.tmp 93) (.tmp 88)) none,
  .mk (some 94) (.indexAddr 22 (.tmp 81) (.tmp 83)) none,
  .mk none (.store 3 (.tmp 94) (.tmp 92)) none]
def r50_16 : List PS := [.mk (some 66) (.move (.tmp 9)) none,
  .mk (some 67) (.binOp .sub 3 (.tmp 66) (.const (.int .i64 1)) 3) none,
  .mk (some 9) (.assign (.tmp 67)) none]
def r50_17 : List PS := [.mk (some 95) (.move (.tmp 2)) none,
  .mk (some 96) (.move (.tmp 7)) none,
  .mk (some 97) (.binOp .sub 3 (.tmp 95) (.tmp 96) 3) none,
  .mk (some 98) (.binOp .geq 3 (.tmp 97) (.const (.int .i64 2)) 3) none]
def r50_18 : List PS := [.mk (some 99) (.move (.tmp 7)) none,
  .mk (some 100) (.binOp .add 3 (.tmp 99) (.const (.int .i64 1)) 3) none,
  .mk (some 10) (.assign (.tmp 100)) none]
def r50_19 : List PS := [.mk (some 101) (.move (.tmp 10)) none,
  .mk (some 102) (.move (.tmp 2)) none,
  .mk (some 103) (.binOp .lss 3 (.tmp 101) (.tmp 102) 3) none]
def r50_20 : List PS := [.mk (some 106) (.move (.tmp 0)) none,
  .mk (some 107) (.move (.tmp 10)) none,
  .mk (some 108) (.indexAddr 22 (.tmp 106) (.tmp 107)) none,
  .mk (some 109) (.load 3 (.tmp 108)) none,
  .mk (some 110) (.move (.tmp 0)) none,
  .mk (some 111) (.move (.tmp 10)) none,
  .mk (some 112) (.binOp .sub 3 (.tmp 111) (.const (.int .i64 1)) 3) none,
  .mk (some 113) (.indexAddr 22 (.tmp 110) (.tmp 112)) none,
  .mk (some 114) (.load 3 (.tmp 113)) none,
  .mk (some 115) (.call ⟨(.value (.func 51)), #[(.tmp 109), (.tmp 114)], #[3, 3]⟩) none,
  .mk (some 116) (.unOp .not 4 (.tmp 115)) none]
def r50_21 : List PS := [.mk (some 117) (.move (.tmp 0)) none,
  .mk (some 118) (.move (.tmp 10)) none,
  .mk (some 119) (.move (.tmp 0)) none,
  .mk (some 120) (.move (.tmp 10)) none,
  .mk (some 121) (.binOp .sub 3 (.tmp 120) (.const (.int .i64 1)) 3) none,
  .mk (some 122) (.move (.tmp 0)) none,
  .mk (some 123) (.move (.tmp 10)) none,
  .mk (some 124) (.binOp .sub 3 (.tmp 123) (.const (.int .i64 1)) 3) none,
  .mk (some 125) (.indexAddr 22 (.tmp 122) (.tmp 124)) none,
  .mk (some 126) (.load 3 (.tmp 125)) none,
  .mk (some 127) (.move (.tmp 0)) none,
  .mk (some 128) (.move (.tmp 10)) none,
  .mk (some 129) (.indexAddr 22 (.tmp 127) (.tmp 128)) none,
  .mk (some 130) (.load 3 (.tmp 129)) none,
  .mk (some 131) (.indexAddr 22 (.tmp 117) (.tmp 118)) none,
  .mk none (.store 3 (.tmp 131) (.tmp 126)) none,
  .mk (some 132) (.indexAddr 22 (.tmp 119) (.tmp 121)) none,
  .mk none (.store 3 (.tmp 132) (.tmp 130)) none]
def r50_22 : List PS := [.mk (some 104) (.move (.tmp 10)) none,
  .mk (some 105) (.binOp .add 3 (.tmp 104) (.const (.int .i64 1)) 3) none,
  .mk (some 10) (.assign (.tmp 105)) none]
def r50_23 : List PS := [.mk (some 15) (.move (.tmp 8)) none,
  .mk (some 16) (.binOp .add 3 (.tmp 15) (.const (.int .i64 1)) 3) none,
  .mk (some 8) (.assign (.tmp 16)) none]
def r50_24 : List PS := [.mk (some 6) (.assign (.const (.bool false))) none]
def c50 : PC := (.seq (.reg false r50_0) (.seq (.reg false r50_1) (.seq (.seq (.reg false r50_2) (.block 0 (.loop (.seq (.seq (.reg false r50_3) (.cond (.tmp 14) .skip (.exit 0))) (.seq (.block 1 (.seq (.block 2 (.loop (.seq (.seq (.reg true r50_4) (.cond (.tmp 32) .skip (.exit 2))) (.block 3 (.reg false r50_5))))) (.seq (.seq (.reg false r50_6) (.cond (.tmp 37) (.seq (.reg false r50_7) .ret) .skip)) (.seq (.seq (.reg false r50_8) (.cond (.tmp 41) (.seq (.reg false r50_9) .ret) .skip)) (.seq (.reg true r50_10) (.seq (.seq (.reg false r50_11) (.cond (.tmp 61) (.seq (.reg false r50_12) (.block 4 (.loop (.seq (.seq (.reg false r50_13) (.cond (.tmp 65) .skip (.exit 4))) (.seq (.block 5 (.seq (.seq (.reg true r50_14) (.cond (.tmp 78) (.exit 4) .skip)) (.reg true r50_15))) (.reg false r50_16)))))) .skip)) (.seq (.reg false r50_17) (.cond (.tmp 98) (.seq (.reg false r50_18) (.block 6 (.loop (.seq (.seq (.reg false r50_19) (.cond (.tmp 103) .skip (.exit 6))) (.seq (.block 7 (.seq (.seq (.reg true r50_20) (.cond (.tmp 116) (.exit 6) .skip)) (.reg true r50_21))) (.reg false r50_22)))))) .skip)))))))) (.reg false r50_23)))))) (.seq (.reg false r50_24) .ret))))
theorem e50 {args : List PV} {h : Heap} {K : PV → Heap → Prop} (hl : args.length = 3) (s : pwp Try.prog [] c50 (fin Try.prog [.tmp 6] h K) (slots0 (olds args)) h) : CanP Try.prog 50 args h K :=
  can_of2 (n := 133) mixed Try.func50 rfl (by kernel_rfl) (by rw [hl]; kernel_rfl) rfl (by kernel_rfl) s
/-! ### slices.partitionEqualOrdered[int]: function 52 -/
def r52_0 : List PS := [.mk (some 8) (.assign (.const (.int .i64 0))) none]
def r52_1 : List PS := [.mk (some 11) (.move (.tmp 0)) none,
  .mk (some 12) (.move (.tmp 1)) none,
  .mk (some 13) (.move (.tmp 0)) none,
  .mk (some 14) (.move (.tmp 3)) none,
  .mk (some 15) (.move (.tmp 0)) none,
  .mk (some 16) (.move (.tmp 3)) none,
  .mk (some 17) (.indexAddr 22 (.tmp 15) (.tmp 16)) none,
  .mk (some 18) (.load 3 (.tmp 17)) none,
  .mk (some 19) (.move (.tmp 0)) none,
  .mk (some 20) (.move (.tmp 1)) none,
  .mk (some 21) (.indexAddr 22 (.tmp 19) (.tmp 20)) none,
  .mk (some 22) (.load 3 (.tmp 21)) none,
  .mk (some 23) (.indexAddr 22 (.tmp 11) (.tmp 12)) none,
  .mk none (.store 3 (.tmp 23) (.tmp 18)) none,
  .mk (some 24) (.indexAddr 22 (.tmp 13) (.tmp 14)) none,
  .mk none (.store 3 (.tmp 24) (.tmp 22)) none]
def r52_2 : List PS := [.mk (some 25) (.move (.tmp 1)) none,
  .mk (some 26) (.binOp .add 3 (.tmp 25) (.const (.int .i64 1)) 3) none,
  .mk (some 27) (.move (.tmp 2)) none,
  .mk (some 28) (.binOp .sub 3 (.tmp 27) (.const (.int .i64 1)) 3) none,
  .mk (some 9) (.assign (.tmp 26)) none,
  .mk (some 10) (.assign (.tmp 28)) none]
def r52_3 : List PS := [.mk (some 29) (.move (.tmp 9)) none,
  .mk (some 30) (.move (.tmp 10)) none,
  .mk (some 31) (.binOp .leq 3 (.tmp 29) (.tmp 30) 3) none,
  .mk (some 32) (.move (.tmp 31)) none,
  .mk (some 33) (.move (.tmp 0)) (some (32, true)),
  .mk (some 34) (.move (.tmp 1)) (some (32, true)),
  .mk (some 35) (.indexAddr 22 (.tmp 33) (.tmp 34)) (some (32, true)),
  .mk (some 36) (.load 3 (.tmp 35)) (some (32, true)),
  .mk (some 37) (.move (.tmp 0)) (some (32, true)),
  .mk (some 38) (.move (.tmp 9)) (some (32, true)),
  .mk (some 39) (.indexAddr 22 (.tmp 37) (.tmp 38)) (some (32, true)),
  .mk (some 40) (.load 3 (.tmp 39)) (some (32, true)),
  .mk (some 41) (.call ⟨(.value (.func 51)), #[(.tmp 36), (.tmp 40)], #[3, 3]⟩) (some (32, true)),
  .mk (some 42) (.unOp .not 4 (.tmp 41)) (some (32, true)),
  .mk (some 43) (.pick (.tmp 32) (.tmp 42) (.const (.bool false))) none]
def r52_4 : List PS := [.mk (some 44) (.move (.tmp 9)) none,
  .mk (some 45) (.binOp .add 3 (.tmp 44) (.const (.int .i64 1)) 3) none,
  .mk (some 9) (.assign (.tmp 45)) none]
def r52_5 : List PS := [.mk (some 46) (.move (.tmp 9)) none,
  .mk (some 47) (.move (.tmp 10)) none,
  .mk (some 48) (.binOp .leq 3 (.tmp 46) (.tmp 47) 3) none,
  .mk (some 49) (.move (.tmp 48)) none,
  .mk (some 50) (.move (.tmp 0)) (some (49, true)),
  .mk (some 51) (.move (.tmp 1)) (some (49, true)),
  .mk (some 52) (.indexAddr 22 (.tmp 50) (.tmp 51)) (some (49, true)),
  .mk (some 53) (.load 3 (.tmp 52)) (some (49, true)),
  .mk (some 54) (.move (.tmp 0)) (some (49, true)),
  .mk (some 55) (.move (.tmp 10)) (some (49, true)),
  .mk (some 56) (.indexAddr 22 (.tmp 54) (.tmp 55)) (some (49, true)),
  .mk (some 57) (.load 3 (.tmp 56)) (some (49, true)),
  .mk (some 58) (.call ⟨(.value (.func 51)), #[(.tmp 53), (.tmp 57)], #[3, 3]⟩) (some (49, true)),
  .mk (some 59) (.pick (.tmp 49) (.tmp 58) (.const (.bool false))) none]
def r52_6 : List PS := [.mk (some 60) (.move (.tmp 10)) none,
  .mk (some 61) (.binOp .sub 3 (.tmp 60) (.const (.int .i64 1)) 3) none,
  .mk (some 10) (.assign (.tmp 61)) none]
def r52_7 : List PS := [.mk (some 62) (.move (.tmp 9)) none,
  .mk (some 63) (.move (.tmp 10)) none,
  .mk (some 64) (.binOp .gtr 3 (.tmp 62) (.tmp 63) 3) none]
def r52_8 : List PS := [.mk (some 65) (.move (.tmp 0)) none,
  .mk (some 66) (.move (.tmp 9)) none,
  .mk (some 67) (.move (.tmp 0)) none,
  .mk (some 68) (.move (.tmp 10)) none,
  .mk (some 69) (.move (.tmp 0)) none,
  .mk (some 70) (.move (.tmp 10)) none,
  .mk (some 71) (.indexAddr 22 (.tmp 69) (.tmp 70)) none,
  .mk (some 72) (.load 3 (.tmp 71)) none,
  .mk (some 73) (.move (.tmp 0)) none,
  .mk (some 74) (.move (.tmp 9)) none,
  .mk (some 75) (.indexAddr 22 (.tmp 73) (.tmp 74)) none,
  .mk (some 76) (.load 3 (.tmp 75)) none,
  .mk (some 77) (.indexAddr 22 (.tmp 65) (.tmp 66)) none,
  .mk none (.store 3 (.tmp 77) (.tmp 72)) none,
  .mk (some 78) (.indexAddr 22 (.tmp 67) (.tmp 68)) none,
  .mk none (.store 3 (.tmp 78) (.tmp 76)) none]
def r52_9 : List PS := [.mk (some 79) (.move (.tmp 9)) none,
  .mk (some 80) (.binOp .add 3 (.tmp 79) (.const (.int .i64 1)) 3) none,
  .mk (some 9) (.assign (.tmp 80)) none]
def r52_10 : List PS := [.mk (some 81) (.move (.tmp 10)) none,
  .mk (some 82) (.binOp .sub 3 (.tmp 81) (.const (.int .i64 1)) 3) none,
  .mk (some 10) (.assign (.tmp 82)) none]
def r52_11 : List PS := [.mk (some 83) (.move (.tmp 9)) none,
  .mk (some 8) (.assign (.tmp 83)) none]
def c52 : PC := (.seq (.reg false r52_0) (.seq (.reg true r52_1) (.seq (.reg false r52_2) (.seq (.block 0 (.loop (.block 1 (.seq (.block 2 (.loop (.seq (.seq (.reg true r52_3) (.cond (.tmp 43) .skip (.exit 2))) (.block 3 (.reg false r52_4))))) (.seq (.block 4 (.loop (.seq (.seq (.reg true r52_5) (.cond (.tmp 59) .skip (.exit 4))) (.block 5 (.reg false r52_6))))) (.seq (.seq (.reg false r52_7) (.cond (.tmp 64) (.exit 0) .skip)) (.seq (.reg true r52_8) (.seq (.reg false r52_9) (.reg false r52_10))))))))) (.seq (.reg false r52_11) .ret)))))
theorem e52 {args : List PV} {h : Heap} {K : PV → Heap → Prop} (hl : args.length = 4) (s : pwp Try.prog [] c52 (fin Try.prog [.tmp 8] h K) (slots0 (olds args)) h) : CanP Try.prog 52 args h K :=
  can_of2 (n := 84) mixed Try.func52 rfl (by kernel_rfl) (by rw [hl]; kernel_rfl) rfl (by kernel_rfl) s
/-! ### slices.partitionOrdered[int]: function 53 -/
def r53_0 : List PS := [.mk (some 8) (.assign (.const (.int .i64 0))) none,
  .mk (some 9) (.assign (.const (.bool false))) none]
def r53_1 : List PS := [.mk (some 12) (.move (.tmp 0)) none,
  .mk (some 13) (.move (.tmp 1)) none,
  .mk (some 14) (.move (.tmp 0)) none,
  .mk (some 15) (.move (.tmp 3)) none,
  .mk (some 16) (.move (.tmp 0)) none,
  .mk (some 17) (.move (.tmp 3)) none,
  .mk (some 18) (.indexAddr 22 (.tmp 16) (.tmp 17)) none,
  .mk (some 19) (.load 3 (.tmp 18)) none,
  .mk (some 20) (.move (.tmp 0)) none,
  .mk (some 21) (.move (.tmp 1)) none,
  .mk (some 22) (.indexAddr 22 (.tmp 20) (.tmp 21)) none,
  .mk (some 23) (.load 3 (.tmp 22)) none,
  .mk (some 24) (.indexAddr 22 (.tmp 12) (.tmp 13)) none,
  .mk none (.store 3 (.tmp 24) (.tmp 19)) none,
  .mk (some 25) (.indexAddr 22 (.tmp 14) (.tmp 15)) none,
  .mk none (.store 3 (.tmp 25) (.tmp 23)) none]
def r53_2 : List PS := [.mk (some 26) (.move (.tmp 1)) none,
  .mk (some 27) (.binOp .add 3 (.tmp 26) (.const (.int .i64 1)) 3) none,
  .mk (some 28) (.move (.tmp 2)) none,
  .mk (some 29) (.binOp .sub 3 (.tmp 28) (.const (.int .i64 1)) 3) none,
  .mk (some 10) (.assign (.tmp 27)) none,
  .mk (some 11) (.assign (.tmp 29)) none]
def r53_3 : List PS := [.mk (some 30) (.move (.tmp 10)) none,
  .mk (some 31) (.move (.tmp 11)) none,
  .mk (some 32) (.binOp .leq 3 (.tmp 30) (.tmp 31) 3) none,
  .mk (some 33) (.move (.tmp 32)) none,
  .mk (some 34) (.move (.tmp 0)) (some (33, true)),
  .mk (some 35) (.move (.tmp 10)) (some (33, true)),
  .mk (some 36) (.indexAddr 22 (.tmp 34) (.tmp 35)) (some (33, true)),
  .mk (some 37) (.load 3 (.tmp 36)) (some (33, true)),
  .mk (some 38) (.move (.tmp 0)) (some (33, true)),
  .mk (some 39) (.move (.tmp 1)) (some (33, true)),
  .mk (some 40) (.indexAddr 22 (.tmp 38) (.tmp 39)) (some (33, true)),
  .mk (some 41) (.load 3 (.tmp 40)) (some (33, true)),
  .mk (some 42) (.call ⟨(.value (.func 51)), #[(.tmp 37), (.tmp 41)], #[3, 3]⟩) (some (33, true)),
  .mk (some 43) (.pick (.tmp 33) (.tmp 42) (.const (.bool false))) none]
def r53_4 : List PS := [.mk (some 44) (.move (.tmp 10)) none,
  .mk (some 45) (.binOp .add 3 (.tmp 44) (.const (.int .i64 1)) 3) none,
  .mk (some 10) (.assign (.tmp 45)) none]
def r53_5 : List PS := [.mk (some 46) (.move (.tmp 10)) none,
  .mk (some 47) (.move (.tmp 11)) none,
  .mk (some 48) (.binOp .leq 3 (.tmp 46) (.tmp 47) 3) none,
  .mk (some 49) (.move (.tmp 48)) none,
  .mk (some 50) (.move (.tmp 0)) (some (49, true)),
  .mk (some 51) (.move (.tmp 11)) (some (49, true)),
  .mk (some 52) (.indexAddr 22 (.tmp 50) (.tmp 51)) (some (49, true)),
  .mk (some 53) (.load 3 (.tmp 52)) (some (49, true)),
  .mk (some 54) (.move (.tmp 0)) (some (49, true)),
  .mk (some 55) (.move (.tmp 1)) (some (49, true)),
  .mk (some 56) (.indexAddr 22 (.tmp 54) (.tmp 55)) (some (49, true)),
  .mk (some 57) (.load 3 (.tmp 56)) (some (49, true)),
  .mk (some 58) (.call ⟨(.value (.func 51)), #[(.tmp 53), (.tmp 57)], #[3, 3]⟩) (some (49, true)),
  .mk (some 59) (.unOp .not 4 (.tmp 58)) (some (49, true)),
  .mk (some 60) (.pick (.tmp 49) (.tmp 59) (.const (.bool false))) none]
def r53_6 : List PS := [.mk (some 61) (.move (.tmp 11)) none,
  .mk (some 62) (.binOp .sub 3 (.tmp 61) (.const (.int .i64 1)) 3) none,
  .mk (some 11) (.assign (.tmp 62)) none]
def r53_7 : List PS := [.mk (some 63) (.move (.tmp 10)) none,
  .mk (some 64) (.move (.tmp 11)) none,
  .mk (some 65) (.binOp .gtr 3 (.tmp 63) (.tmp 64) 3) none]
def r53_8 : List PS := [.mk (some 66) (.move (.tmp 0)) none,
  .mk (some 67) (.move (.tmp 11)) none,
  .mk (some 68) (.move (.tmp 0)) none,
  .mk (some 69) (.move (.tmp 1)) none,
  .mk (some 70) (.move (.tmp 0)) none,
  .mk (some 71) (.move (.tmp 1)) none,
  .mk (some 72) (.indexAddr 22 (.tmp 70) (.tmp 71)) none,
  .mk (some 73) (.load 3 (.tmp 72)) none,
  .mk (some 74) (.move (.tmp 0)) none,
  .mk (some 75) (.move (.tmp 11)) none,
  .mk (some 76) (.indexAddr 22 (.tmp 74) (.tmp 75)) none,
  .mk (some 77) (.load 3 (.tmp 76)) none,
  .mk (some 78) (.indexAddr 22 (.tmp 66) (.tmp 67)) none,
  .mk none (.store 3 (.tmp 78) (.tmp 73)) none,
  .mk (some 79) (.indexAddr 22 (.tmp 68) (.tmp 69)) none,
  .mk none (.store 3 (.tmp 79) (.tmp 77)) none]
def r53_9 : List PS := [.mk (some 80) (.move (.tmp 11)) none,
  .mk (some 8) (.assign (.tmp 80)) none,
  .mk (some 9) (.assign (.const (.bool true))) none]
def r53_10 : List PS := [.mk (some 81) (.move (.tmp 0)) none,
  .mk (some 82) (.move (.tmp 10)) none,
  .mk (some 83) (.move (.tmp 0)) none,
  .mk (some 84) (.move (.tmp 11)) none,
  .mk (some 85) (.move (.tmp 0)) none,
  .mk (some 86) (.move (.tmp 11)) none,
  .mk (some 87) (.indexAddr 22 (.tmp 85) (.tmp 86)) none,
  .mk (some 88) (.load 3 (.tmp 87)) none,
  .mk (some 89) (.move (.tmp 0)) none,
  .mk (some 90) (.move (.tmp 10)) none,
  .mk (some 91) (.indexAddr 22 (.tmp 89) (.tmp 90)) none,
  .mk (some 92) (.load 3 (.tmp 91)) none,
  .mk (some 93) (.indexAddr 22 (.tmp 81) (.tmp 82)) none,
  .mk none (.store 3 (.tmp 93) (.tmp 88)) none,
  .mk (some 94) (.indexAddr 22 (.tmp 83) (.tmp 84)) none,
  .mk none (.store 3 (.tmp 94) (.tmp 92)) none]
def r53_11 : List PS := [.mk (some 95) (.move (.tmp 10)) none,
  .mk (some 96) (.binOp .add 3 (.tmp 95) (.const (.int .i64 1)) 3) none,
  .mk (some 10) (.assign (.tmp 96)) none]
def r53_12 : List PS := [.mk (some 97) (.move (.tmp 11)) none,
  .mk (some 98) (.binOp .sub 3 (.tmp 97) (.const (.int .i64 1)) 3) none,
  .mk (some 11) (.assign (.tmp 98)) none]
def r53_13 : List PS := [.mk (some 99) (.move (.tmp 10)) none,
  .mk (some 100) (.move (.tmp 11)) none,
  .mk (some 101) (.binOp .leq 3 (.tmp 99) (.tmp 100) 3) none,
  .mk (some 102) (.move (.tmp 101)) none,
  .mk (some 103) (.move (.tmp 0)) (some (102, true)),
  .mk (some 104) (.move (.tmp 10)) (some (102, true)),
  .mk (some 105) (.indexAddr 22 (.tmp 103) (.tmp 104)) (some (102, true)),
  .mk (some 106) (.load 3 (.tmp 105)) (some (102, true)),
  .mk (some 107) (.move (.tmp 0)) (some (102, true)),
  .mk (some 108) (.move (.tmp 1)) (some (102, true)),
  .mk (some 109) (.indexAddr 22 (.tmp 107) (.tmp 108)) (some (102, true)),
  .mk (some 110) (.load 3 (.tmp 109)) (some (102, true)),
  .mk (some 111) (.call ⟨(.value (.func 51)), #[(.tmp 106), (.tmp 110)], #[3, 3]⟩) (some (102, true)),
  .mk (some 112) (.pick (.tmp 102) (.tmp 111) (.const (.bool false))) none]
def r53_14 : List PS := [.mk (some 113) (.move (.tmp 10)) none,
  .mk (some 114) (.binOp .add 3 (.tmp 113) (.const (.int .i64 1)) 3) none,
  .mk (some 10) (.assign (.tmp 114)) none]
def r53_15 : List PS := [.mk (some 115) (.move (.tmp 10)) none,
  .mk (some 116) (.move (.tmp 11)) none,
  .mk (some 117) (.binOp .leq 3 (.tmp 115) (.tmp 116) 3) none,
  .mk (some 118) (.move (.tmp 117)) none,
  .mk (some 119) (.move (.tmp 0)) (some (118, true)),
  .mk (some 120) (.move (.tmp 11)) (some (118, true)),
  .mk (some 121) (.indexAddr 22 (.tmp 119) (.tmp 120)) (some (118, true)),
  .mk (some 122) (.load 3 (.tmp 121)) (some (118, true)),
  .mk (some 123) (.move (.tmp 0)) (some (118, true)),
  .mk (some 124) (.move (.tmp 1)) (some (118, true)),
  .mk (some 125) (.indexAddr 22 (.tmp 123) (.tmp 124)) (some (118, true)),
  .mk (some 126) (.load 3 (.tmp 125)) (some (118, true)),
  .mk (some 127) (.call ⟨(.value (.func 51)), #[(.tmp 122), (.tmp 126)], #[3, 3]⟩) (some (118, true)),
  .mk (some 128) (.unOp .not 4 (.tmp 127)) (some (118, true)),
  .mk (some 129) (.pick (.tmp 118) (.tmp 128) (.const (.bool false))) none]
def r53_16 : List PS := [.mk (some 130) (.move (.tmp 11)) none,
  .mk (some 131) (.binOp .sub 3 (.tmp 130) (.const (.int .i64 1)) 3) none,
  .mk (some 11) (.assign (.tmp 131)) none]
def r53_17 : List PS := [.mk (some 132) (.move (.tmp 10)) none,
  .mk (some 133) (.move (.tmp 11)) none,
  .mk (some 134) (.binOp .gtr 3 (.tmp 132) (.tmp 133) 3) none]
def r53_18 : List PS := [.mk (some 135) (.move (.tmp 0)) none,
  .mk (some 136) (.move (.tmp 10)) none,
  .mk (some 137) (.move (.tmp 0)) none,
  .mk (some 138) (.move (.tmp 11)) none,
  .mk (some 139) (.move (.tmp 0)) none,
  .mk (some 140) (.move (.tmp 11)) none,
  .mk (some 141) (.indexAddr 22 (.tmp 139) (.tmp 140)) none,
  .mk (some 142) (.load 3 (.tmp 141)) none,
  .mk (some 143) (.move (.tmp 0)) none,
  .mk (some 144) (.move (.tmp 10)) none,
  .mk (some 145) (.indexAddr 22 (.tmp 143) (.tmp 144)) none,
  .mk (some 146) (.load 3 (.tmp 145)) none,
  .mk (some 147) (.indexAddr 22 (.tmp 135) (.tmp 136)) none,
  .mk none (.store 3 (.tmp 147) (.tmp 142)) none,
  .mk (some 148) (.indexAddr 22 (.tmp 137) (.tmp 138)) none,
  .mk none (.store 3 (.tmp 148) (.tmp 146)) none]
def r53_19 : List PS := [.mk (some 149) (.move (.tmp 10)) none,
  .mk (some 150) (.binOp .add 3 (.tmp 149) (.const (.int .i64 1)) 3) none,
  .mk (some 10) (.assign (.tmp 150)) none]
def r53_20 : List PS := [.mk (some 151) (.move (.tmp 11)) none,
  .mk (some 152) (.binOp .sub 3 (.tmp 151) (.const (.int .i64 1)) 3) none,
  .mk (some 11) (.assign (.tmp 152)) none]
def r53_21 : List PS := [.mk (some 153) (.move (.tmp 0)) none,
  .mk (some 154) (.move (.tmp 11)) none,
  .mk (some 155) (.move (.tmp 0)) none,
  .mk (some 156) (.move (.tmp 1)) none,
  .mk (some 157) (.move (.tmp 0)) none,
  .mk (some 158) (.move (.tmp 1)) none,
  .mk (some 159) (.indexAddr 22 (.tmp 157) (.tmp 158)) none,
  .mk (some 160) (.load 3 (.tmp 159)) none,
  .mk (some 161) (.move (.tmp 0)) none,
  .mk (some 162) (.move (.tmp 11)) none,
  .mk (some 163) (.indexAddr 22 (.tmp 161) (.tmp 162)) none,
  .mk (some 164) (.load 3 (.tmp 163)) none,
  .mk (some 165) (.indexAddr 22 (.tmp 153) (.tmp 154)) none,
  .mk none (.store 3 (.tmp 165) (.tmp 160)) none,
  .mk (some 166) (.indexAddr 22 (.tmp 155) (.tmp 156)) none,
  .mk none (.store 3 (.tmp 166) (.tmp 164)) none]
def r53_22 : List PS := [.mk (some 167) (.move (.tmp 11)) none,
  .mk (some 8) (.assign (.tmp 167)) none,
  .mk (some 9) (.assign (.const (.bool false))) none]
def c53 : PC := (.seq (.reg false r53_0) (.seq (.reg true r53_1) (.seq (.reg false r53_2) (.seq (.block 0 (.loop (.seq (.seq (.reg true r53_3) (.cond (.tmp 43) .skip (.exit 0))) (.block 1 (.reg false r53_4))))) (.seq (.block 2 (.loop (.seq (.seq (.reg true r53_5) (.cond (.tmp 60) .skip (.exit 2))) (.block 3 (.reg false r53_6))))) (.seq (.seq (.reg false r53_7) (.cond (.tmp 65) (.seq (.reg true r53_8) (.seq (.reg false r53_9) .ret)) .skip)) (.seq (.reg true r53_10) (.seq (.reg false r53_11) (.seq (.reg false r53_12) (.seq (.block 4 (.loop (.block 5 (.seq (.block 6 (.loop (.seq (.seq (.reg true r53_13) (.cond (.tmp 112) .skip (.exit 6))) (.block 7 (.reg false r53_14))))) (.seq (.block 8 (.loop (.seq (.seq (.reg true r53_15) (.cond (.tmp 129) .skip (.exit 8))) (.block 9 (.reg false r53_16))))) (.seq (.seq (.reg false r53_17) (.cond (.tmp 134) (.exit 4) .skip)) (.seq (.reg true r53_18) (.seq (.reg false r53_19) (.reg false r53_20))))))))) (.seq (.reg true r53_21) (.seq (.reg false r53_22) .ret))))))))))))
theorem e53 {args : List PV} {h : Heap} {K : PV → Heap → Prop} (hl : args.length = 4) (s : pwp Try.prog [] c53 (fin Try.prog [.tmp 8, .tmp 9] h K) (slots0 (olds args)) h) : CanP Try.prog 53 args h K :=
  can_of2 (n := 168) mixed Try.func53 rfl (by kernel_rfl) (by rw [hl]; kernel_rfl) rfl (by kernel_rfl) s
/-! ### slices.pdqsortOrdered[int]: function 31 -/
def r31_0 : List PS := [.mk (some 8) (.assign (.const (.bool true))) none]
def r31_1 : List PS := [.mk (some 9) (.assign (.const (.bool true))) none]
def r31_2 : List PS := [.mk (some 19) (.move (.tmp 2)) none,
  .mk (some 20) (.move (.tmp 1)) none,
  .mk (some 21) (.binOp .sub 3 (.tmp 19) (.tmp 20) 3) none,
  .mk (some 10) (.assign (.tmp 21)) none]
def r31_3 : List PS := [.mk (some 22) (.move (.tmp 10)) none,
  .mk (some 23) (.binOp .leq 3 (.tmp 22) (.const (.int .i64 12)) 3) none]
def r31_4 : List PS := [.mk (some 24) (.move (.tmp 0)) none,
  .mk (some 25) (.move (.tmp 1)) none,
  .mk (some 26) (.move (.tmp 2)) none,
  .mk (some 27) (.call ⟨(.value (.func 45)), #[(.tmp 24), (.tmp 25), (.tmp 26)], #[22, 3, 3]⟩) none]
def r31_5 : List PS := [.mk (some 28) (.move (.tmp 3)) none,
  .mk (some 29) (.binOp .eql 3 (.tmp 28) (.const (.int .i64 0)) 3) none]
def r31_6 : List PS := [.mk (some 30) (.move (.tmp 0)) none,
  .mk (some 31) (.move (.tmp 1)) none,
  .mk (some 32) (.move (.tmp 2)) none,
  .mk (some 33) (.call ⟨(.value (.func 46)), #[(.tmp 30), (.tmp 31), (.tmp 32)], #[22, 3, 3]⟩) none]
def r31_7 : List PS := [.mk (some 34) (.move (.tmp 8)) none,
  .mk (some 35) (.unOp .not 4 (.tmp 34)) none]
def r31_8 : List PS := [.mk (some 36) (.move (.tmp 0)) none,
  .mk (some 37) (.move (.tmp 1)) none,
  .mk (some 38) (.move (.tmp 2)) none,
  .mk (some 39) (.call ⟨(.value (.func 47)), #[(.tmp 36), (.tmp 37), (.tmp 38)], #[22, 3, 3]⟩) none]
def r31_9 : List PS := [.mk (some 40) (.move (.tmp 3)) none,
  .mk (some 41) (.binOp .sub 3 (.tmp 40) (.const (.int .i64 1)) 3) none,
  .mk (some 3) (.assign (.tmp 41)) none]
def r31_10 : List PS := [.mk (some 43) (.move (.tmp 0)) none,
  .mk (some 44) (.move (.tmp 1)) none,
  .mk (some 45) (.move (.tmp 2)) none,
  .mk (some 46) (.call ⟨(.value (.func 48)), #[(.tmp 43), (.tmp 44), (.tmp 45)], #[22, 3, 3]⟩) none,
  .mk (some 42) (.move (.tmp 46)) none,
  .mk (some 47) (.extract (.tmp 42) 0) none,
  .mk (some 48) (.extract (.tmp 42) 1) none,
  .mk (some 11) (.assign (.tmp 47)) none,
  .mk (some 12) (.assign (.tmp 48)) none]
def r31_11 : List PS := [.mk (some 49) (.move (.tmp 12)) none,
  .mk (some 50) (.binOp .eql 77 (.tmp 49) (.const (.int .i64 2)) 77) none]
def r31_12 : List PS := [.mk (some 51) (.move (.tmp 0)) none,
  .mk (some 52) (.move (.tmp 1)) none,
  .mk (some 53) (.move (.tmp 2)) none,
  .mk (some 54) (.call ⟨(.value (.func 49)), #[(.tmp 51), (.tmp 52), (.tmp 53)], #[22, 3, 3]⟩) none]
def r31_13 : List PS := [.mk (some 55) (.move (.tmp 2)) none,
  .mk (some 56) (.binOp .sub 3 (.tmp 55) (.const (.int .i64 1)) 3) none,
  .mk (some 57) (.move (.tmp 11)) none,
  .mk (some 58) (.move (.tmp 1)) none,
  .mk (some 59) (.binOp .sub 3 (.tmp 57) (.tmp 58) 3) none,
  .mk (some 60) (.binOp .sub 3 (.tmp 56) (.tmp 59) 3) none,
  .mk (some 11) (.assign (.tmp 60)) none]
def r31_14 : List PS := [.mk (some 12) (.assign (.const (.int .i64 1))) none]
def r31_15 : List PS := [.mk (some 61) (.move (.tmp 8)) none,
  .mk (some 62) (.move (.tmp 61)) none,
  .mk (some 63) (.move (.tmp 9)) (some (62, true)),
  .mk (some 64) (.pick (.tmp 62) (.tmp 63) (.const (.bool false))) none,
  .mk (some 65) (.move (.tmp 64)) none,
  .mk (some 66) (.move (.tmp 12)) (some (65, true)),
  .mk (some 67) (.binOp .eql 77 (.tmp 66) (.const (.int .i64 1)) 77) (some (65, true)),
  .mk (some 68) (.pick (.tmp 65) (.tmp 67) (.const (.bool false))) none]
def r31_16 : List PS := [.mk (some 69) (.move (.tmp 0)) none,
  .mk (some 70) (.move (.tmp 1)) none,
  .mk (some 71) (.move (.tmp 2)) none,
  .mk (some 72) (.call ⟨(.value (.func 50)), #[(.tmp 69), (.tmp 70), (.tmp 71)], #[22, 3, 3]⟩) none]
def r31_17 : List PS := [.mk (some 73) (.move (.tmp 1)) none,
  .mk (some 74) (.binOp .gtr 3 (.tmp 73) (.const (.int .i64 0)) 3) none,
  .mk (some 75) (.move (.tmp 74)) none,
  .mk (some 76) (.move (.tmp 0)) (some (75, true)),
  .mk (some 77) (.move (.tmp 1)) (some (75, true)),
  .mk (some 78) (.binOp .sub 3 (.tmp 77) (.const (.int .i64 1)) 3) (some (75, true)),
  .mk (some 79) (.indexAddr 22 (.tmp 76) (.tmp 78)) (some (75, true)),
  .mk (some 80) (.load 3 (.tmp 79)) (some (75, true)),
  .mk (some 81) (.move (.tmp 0)) (some (75, true)),
  .mk (some 82) (.move (.tmp 11)) (some (75, true)),
  .mk (some 83) (.indexAddr 22 (.tmp 81) (.tmp 82)) (some (75, true)),
  .mk (some 84) (.load 3 (.tmp 83)) (some (75, true)),
  .mk (some 85) (.call ⟨(.value (.func 51)), #[(.tmp 80), (.tmp 84)], #[3, 3]⟩) (some (75, true)),
  .mk (some 86) (.unOp .not 4 (.tmp 85)) (some (75, true)),
  .mk (some 87) (.pick (.tmp 75) (.tmp 86) (.const (.bool false))) none]
def r31_18 : List PS := [.mk (some 88) (.move (.tmp 0)) none,
  .mk (some 89) (.move (.tmp 1)) none,
  .mk (some 90) (.move (.tmp 2)) none,
  .mk (some 91) (.move (.tmp 11)) none,
  .mk (some 92) (.call ⟨(.value (.func 52)), #[(.tmp 88), (.tmp 89), (.tmp 90), (.tmp 91)], #[22, 3, 3, 3]⟩) none,
  .mk (some 13) (.assign (.tmp 92)) none]
def r31_19 : List PS := [.mk (some 93) (.move (.tmp 13)) none,
  .mk (some 1) (.assign (.tmp 93)) none]
def r31_20 : List PS := [.mk (some 95) (.move (.tmp 0)) none,
  .mk (some 96) (.move (.tmp 1)) none,
  .mk (some 97) (.move (.tmp 2)) none,
  .mk (some 98) (.move (.tmp 11)) none,
  .mk (some 99) (.call ⟨(.value (.func 53)), #[(.tmp 95), (.tmp 96), (.tmp 97), (.tmp 98)], #[22, 3, 3, 3]⟩) none,
  .mk (some 94) (.move (.tmp 99)) none,
  .mk (some 100) (.extract (.tmp 94) 0) none,
  .mk (some 101) (.extract (.tmp 94) 1) none,
  .mk (some 14) (.assign (.tmp 100)) none,
  .mk (some 15) (.assign (.tmp 101)) none]
def r31_21 : List PS := [.mk (some 102) (.move (.tmp 15)) none,
  .mk (some 9) (.assign (.tmp 102)) none]
def r31_22 : List PS := [.mk (some 103) (.move (.tmp 14)) none,
  .mk (some 104) (.move (.tmp 1)) none,
  .mk (some 105) (.binOp .sub 3 (.tmp 103) (.tmp 104) 3) none,
  .mk (some 106) (.move (.tmp 2)) none,
  .mk (some 107) (.move (.tmp 14)) none,
  .mk (some 108) (.binOp .sub 3 (.tmp 106) (.tmp 107) 3) none,
  .mk (some 16) (.assign (.tmp 105)) none,
  .mk (some 17) (.assign (.tmp 108)) none]
def r31_23 : List PS := [.mk (some 109) (.move (.tmp 10)) none,
  .mk (some 110) (.binOp .quo 3 (.tmp 109) (.const (.int .i64 8)) 3) none,
  .mk (some 18) (.assign (.tmp 110)) none]
def r31_24 : List PS := [.mk (some 111) (.move (.tmp 16)) none,
  .mk (some 112) (.move (.tmp 17)) none,
  .mk (some 113) (.binOp .lss 3 (.tmp 111) (.tmp 112) 3) none]
def r31_25 : List PS := [.mk (some 114) (.move (.tmp 16)) none,
  .mk (some 115) (.move (.tmp 18)) none,
  .mk (some 116) (.binOp .geq 3 (.tmp 114) (.tmp 115) 3) none,
  .mk (some 8) (.assign (.tmp 116)) none]
def r31_26 : List PS := [.mk (some 117) (.move (.tmp 0)) none,
  .mk (some 118) (.move (.tmp 1)) none,
  .mk (some 119) (.move (.tmp 14)) none,
  .mk (some 120) (.move (.tmp 3)) none,
  .mk (some 121) (.call ⟨(.value (.func 31)), #[(.tmp 117), (.tmp 118), (.tmp 119), (.tmp 120)], #[22, 3, 3, 3]⟩) none]
def r31_27 : List PS := [.mk (some 122) (.move (.tmp 14)) none,
  .mk (some 123) (.binOp .add 3 (.tmp 122) (.const (.int .i64 1)) 3) none,
  .mk (some 1) (.assign (.tmp 123)) none]
def r31_28 : List PS := [.mk (some 124) (.move (.tmp 17)) none,
  .mk (some 125) (.move (.tmp 18)) none,
  .mk (some 126) (.binOp .geq 3 (.tmp 124) (.tmp 125) 3) none,
  .mk (some 8) (.assign (.tmp 126)) none]
def r31_29 : List PS := [.mk (some 127) (.move (.tmp 0)) none,
  .mk (some 128) (.move (.tmp 14)) none,
  .mk (some 129) (.binOp .add 3 (.tmp 128) (.const (.int .i64 1)) 3) none,
  .mk (some 130) (.move (.tmp 2)) none,
  .mk (some 131) (.move (.tmp 3)) none,
  .mk (some 132) (.call ⟨(.value (.func 31)), #[(.tmp 127), (.tmp 129), (.tmp 130), (.tmp 131)], #[22, 3, 3, 3]⟩) none]
def r31_30 : List PS := [.mk (some 133) (.move (.tmp 14)) none,
  .mk (some 2) (.assign (.tmp 133)) none]
def c31 : PC := (.seq (.reg false r31_0) (.seq (.reg false r31_1) (.block 0 (.loop (.block 1 (.seq (.reg false r31_2) (.seq (.seq (.reg false r31_3) (.cond (.tmp 23) (.seq (.reg false r31_4) .ret) .skip)) (.seq (.seq (.reg false r31_5) (.cond (.tmp 29) (.seq (.reg false r31_6) .ret) .skip)) (.seq (.seq (.reg false r31_7) (.cond (.tmp 35) (.seq (.reg false r31_8) (.reg false r31_9)) .skip)) (.seq (.reg false r31_10) (.seq (.seq (.reg false r31_11) (.cond (.tmp 50) (.seq (.reg false r31_12) (.seq (.reg false r31_13) (.reg false r31_14))) .skip)) (.seq (.seq (.reg false r31_15) (.cond (.tmp 68) (.seq (.reg false r31_16) (.cond (.tmp 72) .ret .skip)) .skip)) (.seq (.seq (.reg true r31_17) (.cond (.tmp 87) (.seq (.reg false r31_18) (.seq (.reg false r31_19) (.exit 1))) .skip)) (.seq (.reg false r31_20) (.seq (.reg false r31_21) (.seq (.reg false r31_22) (.seq (.reg false r31_23) (.seq (.reg false r31_24) (.cond (.tmp 113) (.seq (.reg false r31_25) (.seq (.reg false r31_26) (.reg false r31_27))) (.seq (.reg false r31_28) (.seq (.reg false r31_29) (.reg false r31_30))))))))))))))))))))))
theorem e31 {args : List PV} {h : Heap} {K : PV → Heap → Prop} (hl : args.length = 4) (s : pwp Try.prog [] c31 (fin Try.prog [] h K) (slots0 (olds args)) h) : CanP Try.prog 31 args h K :=
  can_of2 (n := 134) mixed Try.func31 rfl (by kernel_rfl) (by rw [hl]; kernel_rfl) rfl (by kernel_rfl) s
/-! ### slices.Sort[[]int,int]: function 21 -/
def r21_0 : List PS := [.mk (some 3) (.move (.tmp 0)) none,
  .mk (some 4) (.call ⟨(.builtin .len), #[(.tmp 3)], #[22]⟩) none,
  .mk (some 2) (.assign (.tmp 4)) none]
def r21_1 : List PS := [.mk (some 5) (.move (.tmp 0)) none,
  .mk (some 6) (.move (.tmp 2)) none,
  .mk (some 7) (.move (.tmp 2)) none,
  .mk (some 8) (.convert 3 54 (.tmp 7)) none,
  .mk (some 9) (.call ⟨(.value (.func 32)), #[(.tmp 8)], #[54]⟩) none,
  .mk (some 10) (.call ⟨(.value (.func 31)), #[(.tmp 5), (.const (.int .i64 0)), (.tmp 6), (.tmp 9)], #[22, 3, 3, 3]⟩) none]
def c21 : PC := (.seq (.reg false r21_0) (.reg false r21_1))
theorem e21 {args : List PV} {h : Heap} {K : PV → Heap → Prop} (hl : args.length = 1) (s : pwp Try.prog [] c21 (fin Try.prog [] h K) (slots0 (olds args)) h) : CanP Try.prog 21 args h K :=
  can_of2 (n := 11) mixed Try.func21 rfl (by kernel_rfl) (by rw [hl]; kernel_rfl) rfl (by kernel_rfl) s
/-! ### naskh.naskhlaw38.AmtraStays: function 6 -/
def r6_0 : List PS := [.mk (some 2) (.assign (.const (.bool false))) none]
def r6_1 : List PS := [.mk (some 8) (.move (.tmp 0)) none,
  .mk (some 9) (.call ⟨(.builtin .len), #[(.tmp 8)], #[22]⟩) none,
  .mk (some 10) (.binOp .gtr 3 (.tmp 9) (.const (.int .i64 200)) 3) none]
def r6_2 : List PS := [.mk (some 11) (.call ⟨(.value (.func 7)), #[], #[]⟩) none,
  .mk (some 2) (.assign (.tmp 11)) none]
def r6_3 : List PS := [.mk (some 12) (.call ⟨(.value (.func 8)), #[], #[]⟩) none,
  .mk (some 13) (.move (.tmp 0)) none,
  .mk (some 14) (.call ⟨(.value (.func 12)), #[(.tmp 12), (.tmp 13)], #[24, 22]⟩) none,
  .mk (some 3) (.assign (.tmp 14)) none]
def r6_4 : List PS := [.mk (some 15) (.move (.tmp 3)) none,
  .mk (some 16) (.call ⟨(.builtin .len), #[(.tmp 15)], #[22]⟩) none,
  .mk (some 17) (.move (.tmp 0)) none,
  .mk (some 18) (.call ⟨(.builtin .len), #[(.tmp 17)], #[22]⟩) none,
  .mk (some 19) (.binOp .neq 3 (.tmp 16) (.tmp 18) 3) none]
def r6_5 : List PS := [.mk (some 2) (.assign (.const (.bool false))) none]
def r6_6 : List PS := [.mk (some 20) (.move (.tmp 0)) none,
  .mk (some 21) (.call ⟨(.builtin .len), #[(.tmp 20)], #[22]⟩) none,
  .mk (some 22) (.move (.const (.int .i64 0))) none]
def r6_7 : List PS := [.mk (some 23) (.binOp .lss 3 (.tmp 22) (.tmp 21) 3) none]
def r6_8 : List PS := [.mk (some 24) (.move (.tmp 22)) none,
  .mk (some 25) (.indexAddr 22 (.tmp 20) (.tmp 22)) none,
  .mk (some 26) (.load 3 (.tmp 25)) none,
  .mk (some 4) (.assign (.tmp 24)) none,
  .mk (some 5) (.assign (.tmp 26)) none]
def r6_9 : List PS := [.mk (some 27) (.move (.tmp 5)) none,
  .mk (some 28) (.call ⟨(.value (.func 19)), #[(.tmp 27)], #[3]⟩) none,
  .mk (some 29) (.binOp .eql 3 (.tmp 28) (.const (.int .i64 0)) 3) none,
  .mk (some 30) (.move (.tmp 3)) none,
  .mk (some 31) (.move (.tmp 4)) none,
  .mk (some 32) (.indexAddr 22 (.tmp 30) (.tmp 31)) none,
  .mk (some 33) (.load 3 (.tmp 32)) none,
  .mk (some 34) (.call ⟨(.value (.func 19)), #[(.tmp 33)], #[3]⟩) none,
  .mk (some 35) (.binOp .eql 3 (.tmp 34) (.const (.int .i64 0)) 3) none,
  .mk (some 36) (.binOp .neq 4 (.tmp 29) (.tmp 35) 4) none,
  .mk (some 37) (.move (.tmp 36)) none,
  .mk (some 38) (.move (.tmp 5)) (some (37, false)),
  .mk (some 39) (.call ⟨(.value (.func 19)), #[(.tmp 38)], #[3]⟩) (some (37, false)),
  .mk (some 40) (.binOp .eql 3 (.tmp 39) (.const (.int .i64 0)) 3) (some (37, false)),
  .mk (some 41) (.move (.tmp 40)) (some (37, false)),
  .mk (some 42) (.move (.tmp 3)) (some (41, true)),
  .mk (some 43) (.move (.tmp 4)) (some (41, true)),
  .mk (some 44) (.indexAddr 22 (.tmp 42) (.tmp 43)) (some (41, true)),
  .mk (some 45) (.load 3 (.tmp 44)) (some (41, true)),
  .mk (some 46) (.move (.tmp 5)) (some (41, true)),
  .mk (some 47) (.binOp .neq 3 (.tmp 45) (.tmp 46) 3) (some (41, true)),
  .mk (some 48) (.pick (.tmp 41) (.tmp 47) (.const (.bool false))) (some (37, false)),
  .mk (some 49) (.pick (.tmp 37) (.const (.bool true)) (.tmp 48)) none]
def r6_10 : List PS := [.mk (some 2) (.assign (.const (.bool false))) none]
def r6_11 : List PS := [.mk (some 50) (.binOp .add 3 (.tmp 22) (.const (.int .i64 1)) 3) none,
  .mk (some 22) (.move (.tmp 50)) none]
def r6_12 : List PS := [.mk (some 51) (.move (.tmp 0)) none,
  .mk (some 52) (.call ⟨(.value (.func 20)), #[(.tmp 51)], #[22]⟩) none,
  .mk (some 53) (.move (.tmp 3)) none,
  .mk (some 54) (.call ⟨(.value (.func 20)), #[(.tmp 53)], #[22]⟩) none,
  .mk (some 6) (.assign (.tmp 52)) none,
  .mk (some 7) (.assign (.tmp 54)) none]
def r6_13 : List PS := [.mk (some 55) (.move (.tmp 6)) none,
  .mk (some 56) (.call ⟨(.value (.func 21)), #[(.tmp 55)], #[22]⟩) none]
def r6_14 : List PS := [.mk (some 57) (.move (.tmp 7)) none,
  .mk (some 58) (.call ⟨(.value (.func 21)), #[(.tmp 57)], #[22]⟩) none]
def r6_15 : List PS := [.mk (some 59) (.move (.tmp 6)) none,
  .mk (some 60) (.move (.tmp 7)) none,
  .mk (some 61) (.call ⟨(.value (.func 9)), #[(.tmp 59), (.tmp 60)], #[22, 22]⟩) none,
  .mk (some 62) (.move (.tmp 61)) none,
  .mk (some 63) (.call ⟨(.value (.func 7)), #[], #[]⟩) (some (62, true)),
  .mk (some 64) (.pick (.tmp 62) (.tmp 63) (.const (.bool false))) none,
  .mk (some 2) (.assign (.tmp 64)) none]
def c6 : PC := (.seq (.reg false r6_0) (.seq (.seq (.reg false r6_1) (.cond (.tmp 10) (.seq (.reg false r6_2) .ret) .skip)) (.seq (.reg false r6_3) (.seq (.seq (.reg false r6_4) (.cond (.tmp 19) (.seq (.reg false r6_5) .ret) .skip)) (.seq (.seq (.reg false r6_6) (.block 0 (.loop (.seq (.reg false r6_7) (.seq (.cond (.tmp 23) .skip (.exit 0)) (.seq (.block 1 (.seq (.reg false r6_8) (.seq (.reg true r6_9) (.cond (.tmp 49) (.seq (.reg false r6_10) .ret) .skip)))) (.reg false r6_11))))))) (.seq (.reg false r6_12) (.seq (.reg false r6_13) (.seq (.reg false r6_14) (.seq (.reg false r6_15) .ret)))))))))
theorem e6 {args : List PV} {h : Heap} {K : PV → Heap → Prop} (hl : args.length = 1) (s : pwp Try.prog [] c6 (fin Try.prog [.tmp 2] h K) (slots0 (olds args)) h) : CanP Try.prog 6 args h K :=
  can_of2 (n := 65) mixed Try.func6 rfl (by kernel_rfl) (by rw [hl]; kernel_rfl) rfl (by kernel_rfl) s
end Go.Proofs.Ytnalkkailafklaa
