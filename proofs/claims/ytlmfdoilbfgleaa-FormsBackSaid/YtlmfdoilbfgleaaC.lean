/-
  The functions that the statements of this seat reach, told in short, and facts on their types. Printed by this project's own program.
  Conditions: none.
-/
import Derived.Test.YtlmfdoilbfgleaaPmO
import Derived.Test.YtlmfdoilbfgleaaProg
import Derived.KernelRfl
namespace Go.Proofs.Ytlmfdoilbfgleaa
open Go.Pm
set_option maxRecDepth 100000
set_option linter.unusedVariables false
theorem mixed : Try.prog.follows .mixedOrders = true := by kernel_rfl
theorem tag3 : tag Try.prog 3 = some false := by kernel_rfl
theorem tsz3 : tsz Try.prog 3 = some 1 := by kernel_rfl
theorem und3 : und Try.prog 3 = true := by kernel_rfl
theorem ik3 : ik Try.prog 3 = some .i64 := by kernel_rfl
theorem kd3 : kd Try.prog 3 = none := by kernel_rfl
theorem esz3 : esz Try.prog 3 = none := by kernel_rfl
theorem zc3 : zc Try.prog 3 = some [.int .i64 0] := by kernel_rfl
theorem ars3 : ars Try.prog 3 = none := by kernel_rfl
theorem tag4 : tag Try.prog 4 = some false := by kernel_rfl
theorem tsz4 : tsz Try.prog 4 = some 1 := by kernel_rfl
theorem und4 : und Try.prog 4 = true := by kernel_rfl
theorem ik4 : ik Try.prog 4 = none := by kernel_rfl
theorem kd4 : kd Try.prog 4 = some 3 := by kernel_rfl
theorem esz4 : esz Try.prog 4 = none := by kernel_rfl
theorem zc4 : zc Try.prog 4 = some [.bool false] := by kernel_rfl
theorem ars4 : ars Try.prog 4 = none := by kernel_rfl
theorem tag34 : tag Try.prog 34 = some false := by kernel_rfl
theorem tsz34 : tsz Try.prog 34 = some 1 := by kernel_rfl
theorem und34 : und Try.prog 34 = true := by kernel_rfl
theorem ik34 : ik Try.prog 34 = none := by kernel_rfl
theorem kd34 : kd Try.prog 34 = some 1 := by kernel_rfl
theorem esz34 : esz Try.prog 34 = some 1 := by kernel_rfl
theorem elt34 : elt Try.prog 34 = some 4 := by kernel_rfl
theorem zc34 : zc Try.prog 34 = some [.nils] := by kernel_rfl
theorem ars34 : ars Try.prog 34 = none := by kernel_rfl
theorem eli34 : eli Try.prog 34 = some (1, 1, [.bool false]) := by kernel_rfl
theorem tag37 : tag Try.prog 37 = some true := by kernel_rfl
theorem tsz37 : tsz Try.prog 37 = some 2 := by kernel_rfl
theorem und37 : und Try.prog 37 = true := by kernel_rfl
theorem ik37 : ik Try.prog 37 = none := by kernel_rfl
theorem kd37 : kd Try.prog 37 = some 14 := by kernel_rfl
theorem esz37 : esz Try.prog 37 = none := by kernel_rfl
theorem zc37 : zc Try.prog 37 = some [.int .i64 0, .int .i64 0] := by kernel_rfl
theorem ars37 : ars Try.prog 37 = none := by kernel_rfl
theorem fld37_0 : fld Try.prog 37 0 = some (0, false, 1) := by kernel_rfl
theorem fld37_1 : fld Try.prog 37 1 = some (1, false, 1) := by kernel_rfl
theorem plc37 : plc Try.prog 37 = some fun i => [(0, 1), (1, 1)][i]? := by kernel_rfl
theorem tag40 : tag Try.prog 40 = some false := by kernel_rfl
theorem tsz40 : tsz Try.prog 40 = some 1 := by kernel_rfl
theorem und40 : und Try.prog 40 = true := by kernel_rfl
theorem ik40 : ik Try.prog 40 = none := by kernel_rfl
theorem kd40 : kd Try.prog 40 = some 1 := by kernel_rfl
theorem esz40 : esz Try.prog 40 = some 5 := by kernel_rfl
theorem elt40 : elt Try.prog 40 = some 44 := by kernel_rfl
theorem zc40 : zc Try.prog 40 = some [.nils] := by kernel_rfl
theorem ars40 : ars Try.prog 40 = none := by kernel_rfl
theorem eli40 : eli Try.prog 40 = some (5, 40, [.int .i64 0, .int .i64 0, .int .i64 0, .int .i64 0, .int .i64 0]) := by kernel_rfl
theorem tag42 : tag Try.prog 42 = some true := by kernel_rfl
theorem tsz42 : tsz Try.prog 42 = some 4 := by kernel_rfl
theorem und42 : und Try.prog 42 = true := by kernel_rfl
theorem ik42 : ik Try.prog 42 = none := by kernel_rfl
theorem kd42 : kd Try.prog 42 = none := by kernel_rfl
theorem esz42 : esz Try.prog 42 = none := by kernel_rfl
theorem zc42 : zc Try.prog 42 = some [.int .i64 0, .int .i64 0, .int .i64 0, .int .i64 0] := by kernel_rfl
theorem ars42 : ars Try.prog 42 = some (4, 1, false) := by kernel_rfl
theorem plc42 : plc Try.prog 42 = some fun i => some (i * 1, 1) := by kernel_rfl
theorem tag44 : tag Try.prog 44 = some true := by kernel_rfl
theorem tsz44 : tsz Try.prog 44 = some 5 := by kernel_rfl
theorem und44 : und Try.prog 44 = true := by kernel_rfl
theorem ik44 : ik Try.prog 44 = none := by kernel_rfl
theorem kd44 : kd Try.prog 44 = none := by kernel_rfl
theorem esz44 : esz Try.prog 44 = none := by kernel_rfl
theorem zc44 : zc Try.prog 44 = some [.int .i64 0, .int .i64 0, .int .i64 0, .int .i64 0, .int .i64 0] := by kernel_rfl
theorem ars44 : ars Try.prog 44 = none := by kernel_rfl
theorem fld44_0 : fld Try.prog 44 0 = some (0, false, 1) := by kernel_rfl
theorem fld44_1 : fld Try.prog 44 1 = some (1, true, 4) := by kernel_rfl
theorem plc44 : plc Try.prog 44 = some fun i => [(0, 1), (1, 4)][i]? := by kernel_rfl
theorem tag45 : tag Try.prog 45 = some false := by kernel_rfl
theorem tsz45 : tsz Try.prog 45 = some 1 := by kernel_rfl
theorem und45 : und Try.prog 45 = true := by kernel_rfl
theorem ik45 : ik Try.prog 45 = none := by kernel_rfl
theorem kd45 : kd Try.prog 45 = some 1 := by kernel_rfl
theorem esz45 : esz Try.prog 45 = some 3 := by kernel_rfl
theorem elt45 : elt Try.prog 45 = some 48 := by kernel_rfl
theorem zc45 : zc Try.prog 45 = some [.nils] := by kernel_rfl
theorem ars45 : ars Try.prog 45 = none := by kernel_rfl
theorem eli45 : eli Try.prog 45 = some (3, 24, [.int .i64 0, .int .i64 0, .int .i64 0]) := by kernel_rfl
theorem tag48 : tag Try.prog 48 = some true := by kernel_rfl
theorem tsz48 : tsz Try.prog 48 = some 3 := by kernel_rfl
theorem und48 : und Try.prog 48 = true := by kernel_rfl
theorem ik48 : ik Try.prog 48 = none := by kernel_rfl
theorem kd48 : kd Try.prog 48 = some 16 := by kernel_rfl
theorem esz48 : esz Try.prog 48 = none := by kernel_rfl
theorem zc48 : zc Try.prog 48 = some [.int .i64 0, .int .i64 0, .int .i64 0] := by kernel_rfl
theorem ars48 : ars Try.prog 48 = none := by kernel_rfl
theorem fld48_0 : fld Try.prog 48 0 = some (0, false, 1) := by kernel_rfl
theorem fld48_1 : fld Try.prog 48 1 = some (1, false, 1) := by kernel_rfl
theorem fld48_2 : fld Try.prog 48 2 = some (2, false, 1) := by kernel_rfl
theorem plc48 : plc Try.prog 48 = some fun i => [(0, 1), (1, 1), (2, 1)][i]? := by kernel_rfl
theorem tag49 : tag Try.prog 49 = some true := by kernel_rfl
theorem tsz49 : tsz Try.prog 49 = some 4 := by kernel_rfl
theorem und49 : und Try.prog 49 = true := by kernel_rfl
theorem ik49 : ik Try.prog 49 = none := by kernel_rfl
theorem kd49 : kd Try.prog 49 = some 19 := by kernel_rfl
theorem esz49 : esz Try.prog 49 = none := by kernel_rfl
theorem zc49 : zc Try.prog 49 = some [.bool false, .bool false, .bool false, .bool false] := by kernel_rfl
theorem ars49 : ars Try.prog 49 = some (4, 1, false) := by kernel_rfl
theorem plc49 : plc Try.prog 49 = some fun i => some (i * 1, 1) := by kernel_rfl
theorem tag51 : tag Try.prog 51 = some false := by kernel_rfl
theorem tsz51 : tsz Try.prog 51 = some 1 := by kernel_rfl
theorem und51 : und Try.prog 51 = true := by kernel_rfl
theorem ik51 : ik Try.prog 51 = none := by kernel_rfl
theorem kd51 : kd Try.prog 51 = some 1 := by kernel_rfl
theorem esz51 : esz Try.prog 51 = some 3 := by kernel_rfl
theorem elt51 : elt Try.prog 51 = some 54 := by kernel_rfl
theorem zc51 : zc Try.prog 51 = some [.nils] := by kernel_rfl
theorem ars51 : ars Try.prog 51 = none := by kernel_rfl
theorem eli51 : eli Try.prog 51 = some (3, 24, [.int .i64 0, .int .i64 0, .int .i64 0]) := by kernel_rfl
theorem tag54 : tag Try.prog 54 = some true := by kernel_rfl
theorem tsz54 : tsz Try.prog 54 = some 3 := by kernel_rfl
theorem und54 : und Try.prog 54 = true := by kernel_rfl
theorem ik54 : ik Try.prog 54 = none := by kernel_rfl
theorem kd54 : kd Try.prog 54 = some 16 := by kernel_rfl
theorem esz54 : esz Try.prog 54 = none := by kernel_rfl
theorem zc54 : zc Try.prog 54 = some [.int .i64 0, .int .i64 0, .int .i64 0] := by kernel_rfl
theorem ars54 : ars Try.prog 54 = none := by kernel_rfl
theorem fld54_0 : fld Try.prog 54 0 = some (0, false, 1) := by kernel_rfl
theorem fld54_1 : fld Try.prog 54 1 = some (1, false, 1) := by kernel_rfl
theorem fld54_2 : fld Try.prog 54 2 = some (2, false, 1) := by kernel_rfl
theorem plc54 : plc Try.prog 54 = some fun i => [(0, 1), (1, 1), (2, 1)][i]? := by kernel_rfl
theorem tag55 : tag Try.prog 55 = some false := by kernel_rfl
theorem tsz55 : tsz Try.prog 55 = some 1 := by kernel_rfl
theorem und55 : und Try.prog 55 = true := by kernel_rfl
theorem ik55 : ik Try.prog 55 = none := by kernel_rfl
theorem kd55 : kd Try.prog 55 = some 1 := by kernel_rfl
theorem esz55 : esz Try.prog 55 = some 2 := by kernel_rfl
theorem elt55 : elt Try.prog 55 = some 58 := by kernel_rfl
theorem zc55 : zc Try.prog 55 = some [.nils] := by kernel_rfl
theorem ars55 : ars Try.prog 55 = none := by kernel_rfl
theorem eli55 : eli Try.prog 55 = some (2, 16, [.int .i64 0, .int .i64 0]) := by kernel_rfl
theorem tag58 : tag Try.prog 58 = some true := by kernel_rfl
theorem tsz58 : tsz Try.prog 58 = some 2 := by kernel_rfl
theorem und58 : und Try.prog 58 = true := by kernel_rfl
theorem ik58 : ik Try.prog 58 = none := by kernel_rfl
theorem kd58 : kd Try.prog 58 = some 14 := by kernel_rfl
theorem esz58 : esz Try.prog 58 = none := by kernel_rfl
theorem zc58 : zc Try.prog 58 = some [.int .i64 0, .int .i64 0] := by kernel_rfl
theorem ars58 : ars Try.prog 58 = none := by kernel_rfl
theorem fld58_0 : fld Try.prog 58 0 = some (0, false, 1) := by kernel_rfl
theorem fld58_1 : fld Try.prog 58 1 = some (1, false, 1) := by kernel_rfl
theorem plc58 : plc Try.prog 58 = some fun i => [(0, 1), (1, 1)][i]? := by kernel_rfl
theorem tag60 : tag Try.prog 60 = some false := by kernel_rfl
theorem tsz60 : tsz Try.prog 60 = some 1 := by kernel_rfl
theorem und60 : und Try.prog 60 = true := by kernel_rfl
theorem ik60 : ik Try.prog 60 = none := by kernel_rfl
theorem kd60 : kd Try.prog 60 = none := by kernel_rfl
theorem esz60 : esz Try.prog 60 = none := by kernel_rfl
theorem zc60 : zc Try.prog 60 = some [.nilf] := by kernel_rfl
theorem ars60 : ars Try.prog 60 = none := by kernel_rfl
theorem tag63 : tag Try.prog 63 = some false := by kernel_rfl
theorem tsz63 : tsz Try.prog 63 = some 1 := by kernel_rfl
theorem und63 : und Try.prog 63 = true := by kernel_rfl
theorem ik63 : ik Try.prog 63 = some .u64 := by kernel_rfl
theorem kd63 : kd Try.prog 63 = none := by kernel_rfl
theorem esz63 : esz Try.prog 63 = none := by kernel_rfl
theorem zc63 : zc Try.prog 63 = some [.int .u64 0] := by kernel_rfl
theorem ars63 : ars Try.prog 63 = none := by kernel_rfl
theorem ft : (tag Try.prog 3 = some false) ∧
    (tsz Try.prog 3 = some 1) ∧
    (und Try.prog 3 = true) ∧
    (ik Try.prog 3 = some .i64) ∧
    (kd Try.prog 3 = none) ∧
    (esz Try.prog 3 = none) ∧
    (zc Try.prog 3 = some [.int .i64 0]) ∧
    (ars Try.prog 3 = none) ∧
    (tag Try.prog 4 = some false) ∧
    (tsz Try.prog 4 = some 1) ∧
    (und Try.prog 4 = true) ∧
    (ik Try.prog 4 = none) ∧
    (kd Try.prog 4 = some 3) ∧
    (esz Try.prog 4 = none) ∧
    (zc Try.prog 4 = some [.bool false]) ∧
    (ars Try.prog 4 = none) ∧
    (tag Try.prog 34 = some false) ∧
    (tsz Try.prog 34 = some 1) ∧
    (und Try.prog 34 = true) ∧
    (ik Try.prog 34 = none) ∧
    (kd Try.prog 34 = some 1) ∧
    (esz Try.prog 34 = some 1) ∧
    (elt Try.prog 34 = some 4) ∧
    (zc Try.prog 34 = some [.nils]) ∧
    (ars Try.prog 34 = none) ∧
    (eli Try.prog 34 = some (1, 1, [.bool false])) ∧
    (tag Try.prog 37 = some true) ∧
    (tsz Try.prog 37 = some 2) ∧
    (und Try.prog 37 = true) ∧
    (ik Try.prog 37 = none) ∧
    (kd Try.prog 37 = some 14) ∧
    (esz Try.prog 37 = none) ∧
    (zc Try.prog 37 = some [.int .i64 0, .int .i64 0]) ∧
    (ars Try.prog 37 = none) ∧
    (fld Try.prog 37 0 = some (0, false, 1)) ∧
    (fld Try.prog 37 1 = some (1, false, 1)) ∧
    (plc Try.prog 37 = some fun i => [(0, 1), (1, 1)][i]?) ∧
    (tag Try.prog 40 = some false) ∧
    (tsz Try.prog 40 = some 1) ∧
    (und Try.prog 40 = true) ∧
    (ik Try.prog 40 = none) ∧
    (kd Try.prog 40 = some 1) ∧
    (esz Try.prog 40 = some 5) ∧
    (elt Try.prog 40 = some 44) ∧
    (zc Try.prog 40 = some [.nils]) ∧
    (ars Try.prog 40 = none) ∧
    (eli Try.prog 40 = some (5, 40, [.int .i64 0, .int .i64 0, .int .i64 0, .int .i64 0, .int .i64 0])) ∧
    (tag Try.prog 42 = some true) ∧
    (tsz Try.prog 42 = some 4) ∧
    (und Try.prog 42 = true) ∧
    (ik Try.prog 42 = none) ∧
    (kd Try.prog 42 = none) ∧
    (esz Try.prog 42 = none) ∧
    (zc Try.prog 42 = some [.int .i64 0, .int .i64 0, .int .i64 0, .int .i64 0]) ∧
    (ars Try.prog 42 = some (4, 1, false)) ∧
    (plc Try.prog 42 = some fun i => some (i * 1, 1)) ∧
    (tag Try.prog 44 = some true) ∧
    (tsz Try.prog 44 = some 5) ∧
    (und Try.prog 44 = true) ∧
    (ik Try.prog 44 = none) ∧
    (kd Try.prog 44 = none) ∧
    (esz Try.prog 44 = none) ∧
    (zc Try.prog 44 = some [.int .i64 0, .int .i64 0, .int .i64 0, .int .i64 0, .int .i64 0]) ∧
    (ars Try.prog 44 = none) ∧
    (fld Try.prog 44 0 = some (0, false, 1)) ∧
    (fld Try.prog 44 1 = some (1, true, 4)) ∧
    (plc Try.prog 44 = some fun i => [(0, 1), (1, 4)][i]?) ∧
    (tag Try.prog 45 = some false) ∧
    (tsz Try.prog 45 = some 1) ∧
    (und Try.prog 45 = true) ∧
    (ik Try.prog 45 = none) ∧
    (kd Try.prog 45 = some 1) ∧
    (esz Try.prog 45 = some 3) ∧
    (elt Try.prog 45 = some 48) ∧
    (zc Try.prog 45 = some [.nils]) ∧
    (ars Try.prog 45 = none) ∧
    (eli Try.prog 45 = some (3, 24, [.int .i64 0, .int .i64 0, .int .i64 0])) ∧
    (tag Try.prog 48 = some true) ∧
    (tsz Try.prog 48 = some 3) ∧
    (und Try.prog 48 = true) ∧
    (ik Try.prog 48 = none) ∧
    (kd Try.prog 48 = some 16) ∧
    (esz Try.prog 48 = none) ∧
    (zc Try.prog 48 = some [.int .i64 0, .int .i64 0, .int .i64 0]) ∧
    (ars Try.prog 48 = none) ∧
    (fld Try.prog 48 0 = some (0, false, 1)) ∧
    (fld Try.prog 48 1 = some (1, false, 1)) ∧
    (fld Try.prog 48 2 = some (2, false, 1)) ∧
    (plc Try.prog 48 = some fun i => [(0, 1), (1, 1), (2, 1)][i]?) ∧
    (tag Try.prog 49 = some true) ∧
    (tsz Try.prog 49 = some 4) ∧
    (und Try.prog 49 = true) ∧
    (ik Try.prog 49 = none) ∧
    (kd Try.prog 49 = some 19) ∧
    (esz Try.prog 49 = none) ∧
    (zc Try.prog 49 = some [.bool false, .bool false, .bool false, .bool false]) ∧
    (ars Try.prog 49 = some (4, 1, false)) ∧
    (plc Try.prog 49 = some fun i => some (i * 1, 1)) ∧
    (tag Try.prog 51 = some false) ∧
    (tsz Try.prog 51 = some 1) ∧
    (und Try.prog 51 = true) ∧
    (ik Try.prog 51 = none) ∧
    (kd Try.prog 51 = some 1) ∧
    (esz Try.prog 51 = some 3) ∧
    (elt Try.prog 51 = some 54) ∧
    (zc Try.prog 51 = some [.nils]) ∧
    (ars Try.prog 51 = none) ∧
    (eli Try.prog 51 = some (3, 24, [.int .i64 0, .int .i64 0, .int .i64 0])) ∧
    (tag Try.prog 54 = some true) ∧
    (tsz Try.prog 54 = some 3) ∧
    (und Try.prog 54 = true) ∧
    (ik Try.prog 54 = none) ∧
    (kd Try.prog 54 = some 16) ∧
    (esz Try.prog 54 = none) ∧
    (zc Try.prog 54 = some [.int .i64 0, .int .i64 0, .int .i64 0]) ∧
    (ars Try.prog 54 = none) ∧
    (fld Try.prog 54 0 = some (0, false, 1)) ∧
    (fld Try.prog 54 1 = some (1, false, 1)) ∧
    (fld Try.prog 54 2 = some (2, false, 1)) ∧
    (plc Try.prog 54 = some fun i => [(0, 1), (1, 1), (2, 1)][i]?) ∧
    (tag Try.prog 55 = some false) ∧
    (tsz Try.prog 55 = some 1) ∧
    (und Try.prog 55 = true) ∧
    (ik Try.prog 55 = none) ∧
    (kd Try.prog 55 = some 1) ∧
    (esz Try.prog 55 = some 2) ∧
    (elt Try.prog 55 = some 58) ∧
    (zc Try.prog 55 = some [.nils]) ∧
    (ars Try.prog 55 = none) ∧
    (eli Try.prog 55 = some (2, 16, [.int .i64 0, .int .i64 0])) ∧
    (tag Try.prog 58 = some true) ∧
    (tsz Try.prog 58 = some 2) ∧
    (und Try.prog 58 = true) ∧
    (ik Try.prog 58 = none) ∧
    (kd Try.prog 58 = some 14) ∧
    (esz Try.prog 58 = none) ∧
    (zc Try.prog 58 = some [.int .i64 0, .int .i64 0]) ∧
    (ars Try.prog 58 = none) ∧
    (fld Try.prog 58 0 = some (0, false, 1)) ∧
    (fld Try.prog 58 1 = some (1, false, 1)) ∧
    (plc Try.prog 58 = some fun i => [(0, 1), (1, 1)][i]?) ∧
    (tag Try.prog 60 = some false) ∧
    (tsz Try.prog 60 = some 1) ∧
    (und Try.prog 60 = true) ∧
    (ik Try.prog 60 = none) ∧
    (kd Try.prog 60 = none) ∧
    (esz Try.prog 60 = none) ∧
    (zc Try.prog 60 = some [.nilf]) ∧
    (ars Try.prog 60 = none) ∧
    (tag Try.prog 63 = some false) ∧
    (tsz Try.prog 63 = some 1) ∧
    (und Try.prog 63 = true) ∧
    (ik Try.prog 63 = some .u64) ∧
    (kd Try.prog 63 = none) ∧
    (esz Try.prog 63 = none) ∧
    (zc Try.prog 63 = some [.int .u64 0]) ∧
    (ars Try.prog 63 = none) :=
  ⟨tag3, tsz3, und3, ik3, kd3, esz3, zc3, ars3, tag4, tsz4, und4, ik4, kd4, esz4, zc4, ars4, tag34, tsz34, und34, ik34, kd34, esz34, elt34, zc34, ars34, eli34, tag37, tsz37, und37, ik37, kd37, esz37, zc37, ars37, fld37_0, fld37_1, plc37, tag40, tsz40, und40, ik40, kd40, esz40, elt40, zc40, ars40, eli40, tag42, tsz42, und42, ik42, kd42, esz42, zc42, ars42, plc42, tag44, tsz44, und44, ik44, kd44, esz44, zc44, ars44, fld44_0, fld44_1, plc44, tag45, tsz45, und45, ik45, kd45, esz45, elt45, zc45, ars45, eli45, tag48, tsz48, und48, ik48, kd48, esz48, zc48, ars48, fld48_0, fld48_1, fld48_2, plc48, tag49, tsz49, und49, ik49, kd49, esz49, zc49, ars49, plc49, tag51, tsz51, und51, ik51, kd51, esz51, elt51, zc51, ars51, eli51, tag54, tsz54, und54, ik54, kd54, esz54, zc54, ars54, fld54_0, fld54_1, fld54_2, plc54, tag55, tsz55, und55, ik55, kd55, esz55, elt55, zc55, ars55, eli55, tag58, tsz58, und58, ik58, kd58, esz58, zc58, ars58, fld58_0, fld58_1, plc58, tag60, tsz60, und60, ik60, kd60, esz60, zc60, ars60, tag63, tsz63, und63, ik63, kd63, esz63, zc63, ars63⟩
/-! ### naskh.api.Letters: function 27 -/
def r27_0 : List PS := [.mk (some 0) (.assign (.const (.slice none 0 0))) none]
def r27_1 : List PS := [.mk (some 1) (.build 42 #[(0, (.const (.int .i64 65152))), (1, (.const (.int .i64 0))), (2, (.const (.int .i64 0))), (3, (.const (.int .i64 0)))]) none,
  .mk (some 2) (.build 44 #[(0, (.const (.int .i64 1569))), (1, (.tmp 1))]) none,
  .mk (some 3) (.build 42 #[(0, (.const (.int .i64 65153))), (1, (.const (.int .i64 65154))), (2, (.const (.int .i64 0))), (3, (.const (.int .i64 0)))]) none,
  .mk (some 4) (.build 44 #[(0, (.const (.int .i64 1570))), (1, (.tmp 3))]) none,
  .mk (some 5) (.build 42 #[(0, (.const (.int .i64 65155))), (1, (.const (.int .i64 65156))), (2, (.const (.int .i64 0))), (3, (.const (.int .i64 0)))]) none,
  .mk (some 6) (.build 44 #[(0, (.const (.int .i64 1571))), (1, (.tmp 5))]) none,
  .mk (some 7) (.build 42 #[(0, (.const (.int .i64 65157))), (1, (.const (.int .i64 65158))), (2, (.const (.int .i64 0))), (3, (.const (.int .i64 0)))]) none,
  .mk (some 8) (.build 44 #[(0, (.const (.int .i64 1572))), (1, (.tmp 7))]) none,
  .mk (some 9) (.build 42 #[(0, (.const (.int .i64 65159))), (1, (.const (.int .i64 65160))), (2, (.const (.int .i64 0))), (3, (.const (.int .i64 0)))]) none,
  .mk (some 10) (.build 44 #[(0, (.const (.int .i64 1573))), (1, (.tmp 9))]) none,
  .mk (some 11) (.build 42 #[(0, (.const (.int .i64 65161))), (1, (.const (.int .i64 65162))), (2, (.const (.int .i64 65163))), (3, (.const (.int .i64 65164)))]) none,
  .mk (some 12) (.build 44 #[(0, (.const (.int .i64 1574))), (1, (.tmp 11))]) none,
  .mk (some 13) (.build 42 #[(0, (.const (.int .i64 65165))), (1, (.const (.int .i64 65166))), (2, (.const (.int .i64 0))), (3, (.const (.int .i64 0)))]) none,
  .mk (some 14) (.build 44 #[(0, (.const (.int .i64 1575))), (1, (.tmp 13))]) none,
  .mk (some 15) (.build 42 #[(0, (.const (.int .i64 65167))), (1, (.const (.int .i64 65168))), (2, (.const (.int .i64 65169))), (3, (.const (.int .i64 65170)))]) none,
  .mk (some 16) (.build 44 #[(0, (.const (.int .i64 1576))), (1, (.tmp 15))]) none,
  .mk (some 17) (.build 42 #[(0, (.const (.int .i64 65171))), (1, (.const (.int .i64 65172))), (2, (.const (.int .i64 0))), (3, (.const (.int .i64 0)))]) none,
  .mk (some 18) (.build 44 #[(0, (.const (.int .i64 1577))), (1, (.tmp 17))]) none,
  .mk (some 19) (.build 42 #[(0, (.const (.int .i64 65173))), (1, (.const (.int .i64 65174))), (2, (.const (.int .i64 65175))), (3, (.const (.int .i64 65176)))]) none,
  .mk (some 20) (.build 44 #[(0, (.const (.int .i64 1578))), (1, (.tmp 19))]) none,
  .mk (some 21) (.build 42 #[(0, (.const (.int .i64 65177))), (1, (.const (.int .i64 65178))), (2, (.const (.int .i64 65179))), (3, (.const (.int .i64 65180)))]) none,
  .mk (some 22) (.build 44 #[(0, (.const (.int .i64 1579))), (1, (.tmp 21))]) none,
  .mk (some 23) (.build 42 #[(0, (.const (.int .i64 65181))), (1, (.const (.int .i64 65182))), (2, (.const (.int .i64 65183))), (3, (.const (.int .i64 65184)))]) none,
  .mk (some 24) (.build 44 #[(0, (.const (.int .i64 1580))), (1, (.tmp 23))]) none,
  .mk (some 25) (.build 42 #[(0, (.const (.int .i64 65185))), (1, (.const (.int .i64 65186))), (2, (.const (.int .i64 65187))), (3, (.const (.int .i64 65188)))]) none,
  .mk (some 26) (.build 44 #[(0, (.const (.int .i64 1581))), (1, (.tmp 25))]) none,
  .mk (some 27) (.build 42 #[(0, (.const (.int .i64 65189))), (1, (.const (.int .i64 65190))), (2, (.const (.int .i64 65191))), (3, (.const (.int .i64 65192)))]) none,
  .mk (some 28) (.build 44 #[(0, (.const (.int .i64 1582))), (1, (.tmp 27))]) none,
  .mk (some 29) (.build 42 #[(0, (.const (.int .i64 65193))), (1, (.const (.int .i64 65194))), (2, (.const (.int .i64 0))), (3, (.const (.int .i64 0)))]) none,
  .mk (some 30) (.build 44 #[(0, (.const (.int .i64 1583))), (1, (.tmp 29))]) none,
  .mk (some 31) (.build 42 #[(0, (.const (.int .i64 65195))), (1, (.const (.int .i64 65196))), (2, (.const (.int .i64 0))), (3, (.const (.int .i64 0)))]) none,
  .mk (some 32) (.build 44 #[(0, (.const (.int .i64 1584))), (1, (.tmp 31))]) none,
  .mk (some 33) (.build 42 #[(0, (.const (.int .i64 65197))), (1, (.const (.int .i64 65198))), (2, (.const (.int .i64 0))), (3, (.const (.int .i64 0)))]) none,
  .mk (some 34) (.build 44 #[(0, (.const (.int .i64 1585))), (1, (.tmp 33))]) none,
  .mk (some 35) (.build 42 #[(0, (.const (.int .i64 65199))), (1, (.const (.int .i64 65200))), (2, (.const (.int .i64 0))), (3, (.const (.int .i64 0)))]) none,
  .mk (some 36) (.build 44 #[(0, (.const (.int .i64 1586))), (1, (.tmp 35))]) none,
  .mk (some 37) (.build 42 #[(0, (.const (.int .i64 65201))), (1, (.const (.int .i64 65202))), (2, (.const (.int .i64 65203))), (3, (.const (.int .i64 65204)))]) none,
  .mk (some 38) (.build 44 #[(0, (.const (.int .i64 1587))), (1, (.tmp 37))]) none,
  .mk (some 39) (.build 42 #[(0, (.const (.int .i64 65205))), (1, (.const (.int .i64 65206))), (2, (.const (.int .i64 65207))), (3, (.const (.int .i64 65208)))]) none,
  .mk (some 40) (.build 44 #[(0, (.const (.int .i64 1588))), (1, (.tmp 39))]) none,
  .mk (some 41) (.build 42 #[(0, (.const (.int .i64 65209))), (1, (.const (.int .i64 65210))), (2, (.const (.int .i64 65211))), (3, (.const (.int .i64 65212)))]) none,
  .mk (some 42) (.build 44 #[(0, (.const (.int .i64 1589))), (1, (.tmp 41))]) none,
  .mk (some 43) (.build 42 #[(0, (.const (.int .i64 65213))), (1, (.const (.int .i64 65214))), (2, (.const (.int .i64 65215))), (3, (.const (.int .i64 65216)))]) none,
  .mk (some 44) (.build 44 #[(0, (.const (.int .i64 1590))), (1, (.tmp 43))]) none,
  .mk (some 45) (.build 42 #[(0, (.const (.int .i64 65217))), (1, (.const (.int .i64 65218))), (2, (.const (.int .i64 65219))), (3, (.const (.int .i64 65220)))]) none,
  .mk (some 46) (.build 44 #[(0, (.const (.int .i64 1591))), (1, (.tmp 45))]) none,
  .mk (some 47) (.build 42 #[(0, (.const (.int .i64 65221))), (1, (.const (.int .i64 65222))), (2, (.const (.int .i64 65223))), (3, (.const (.int .i64 65224)))]) none,
  .mk (some 48) (.build 44 #[(0, (.const (.int .i64 1592))), (1, (.tmp 47))]) none,
  .mk (some 49) (.build 42 #[(0, (.const (.int .i64 65225))), (1, (.const (.int .i64 65226))), (2, (.const (.int .i64 65227))), (3, (.const (.int .i64 65228)))]) none,
  .mk (some 50) (.build 44 #[(0, (.const (.int .i64 1593))), (1, (.tmp 49))]) none,
  .mk (some 51) (.build 42 #[(0, (.const (.int .i64 65229))), (1, (.const (.int .i64 65230))), (2, (.const (.int .i64 65231))), (3, (.const (.int .i64 65232)))]) none,
  .mk (some 52) (.build 44 #[(0, (.const (.int .i64 1594))), (1, (.tmp 51))]) none,
  .mk (some 53) (.build 42 #[(0, (.const (.int .i64 65233))), (1, (.const (.int .i64 65234))), (2, (.const (.int .i64 65235))), (3, (.const (.int .i64 65236)))]) none,
  .mk (some 54) (.build 44 #[(0, (.const (.int .i64 1601))), (1, (.tmp 53))]) none,
  .mk (some 55) (.build 42 #[(0, (.const (.int .i64 65237))), (1, (.const (.int .i64 65238))), (2, (.const (.int .i64 65239))), (3, (.const (.int .i64 65240)))]) none,
  .mk (some 56) (.build 44 #[(0, (.const (.int .i64 1602))), (1, (.tmp 55))]) none,
  .mk (some 57) (.build 42 #[(0, (.const (.int .i64 65241))), (1, (.const (.int .i64 65242))), (2, (.const (.int .i64 65243))), (3, (.const (.int .i64 65244)))]) none,
  .mk (some 58) (.build 44 #[(0, (.const (.int .i64 1603))), (1, (.tmp 57))]) none,
  .mk (some 59) (.build 42 #[(0, (.const (.int .i64 65245))), (1, (.const (.int .i64 65246))), (2, (.const (.int .i64 65247))), (3, (.const (.int .i64 65248)))]) none,
  .mk (some 60) (.build 44 #[(0, (.const (.int .i64 1604))), (1, (.tmp 59))]) none,
  .mk (some 61) (.build 42 #[(0, (.const (.int .i64 65249))), (1, (.const (.int .i64 65250))), (2, (.const (.int .i64 65251))), (3, (.const (.int .i64 65252)))]) none,
  .mk (some 62) (.build 44 #[(0, (.const (.int .i64 1605))), (1, (.tmp 61))]) none,
  .mk (some 63) (.build 42 #[(0, (.const (.int .i64 65253))), (1, (.const (.int .i64 65254))), (2, (.const (.int .i64 65255))), (3, (.const (.int .i64 65256)))]) none,
  .mk (some 64) (.build 44 #[(0, (.const (.int .i64 1606))), (1, (.tmp 63))]) none,
  .mk (some 65) (.build 42 #[(0, (.const (.int .i64 65257))), (1, (.const (.int .i64 65258))), (2, (.const (.int .i64 65259))), (3, (.const (.int .i64 65260)))]) none,
  .mk (some 66) (.build 44 #[(0, (.const (.int .i64 1607))), (1, (.tmp 65))]) none,
  .mk (some 67) (.build 42 #[(0, (.const (.int .i64 65261))), (1, (.const (.int .i64 65262))), (2, (.const (.int .i64 0))), (3, (.const (.int .i64 0)))]) none,
  .mk (some 68) (.build 44 #[(0, (.const (.int .i64 1608))), (1, (.tmp 67))]) none,
  .mk (some 69) (.build 42 #[(0, (.const (.int .i64 65263))), (1, (.const (.int .i64 65264))), (2, (.const (.int .i64 64488))), (3, (.const (.int .i64 64489)))]) none,
  .mk (some 70) (.build 44 #[(0, (.const (.int .i64 1609))), (1, (.tmp 69))]) none,
  .mk (some 71) (.build 42 #[(0, (.const (.int .i64 65265))), (1, (.const (.int .i64 65266))), (2, (.const (.int .i64 65267))), (3, (.const (.int .i64 65268)))]) none,
  .mk (some 72) (.build 44 #[(0, (.const (.int .i64 1610))), (1, (.tmp 71))]) none,
  .mk (some 73) (.build 42 #[(0, (.const (.int .i64 64336))), (1, (.const (.int .i64 64337))), (2, (.const (.int .i64 0))), (3, (.const (.int .i64 0)))]) none,
  .mk (some 74) (.build 44 #[(0, (.const (.int .i64 1649))), (1, (.tmp 73))]) none,
  .mk (some 75) (.build 42 #[(0, (.const (.int .i64 64477))), (1, (.const (.int .i64 0))), (2, (.const (.int .i64 0))), (3, (.const (.int .i64 0)))]) none,
  .mk (some 76) (.build 44 #[(0, (.const (.int .i64 1655))), (1, (.tmp 75))]) none,
  .mk (some 77) (.build 42 #[(0, (.const (.int .i64 64358))), (1, (.const (.int .i64 64359))), (2, (.const (.int .i64 64360))), (3, (.const (.int .i64 64361)))]) none,
  .mk (some 78) (.build 44 #[(0, (.const (.int .i64 1657))), (1, (.tmp 77))]) none,
  .mk (some 79) (.build 42 #[(0, (.const (.int .i64 64350))), (1, (.const (.int .i64 64351))), (2, (.const (.int .i64 64352))), (3, (.const (.int .i64 64353)))]) none,
  .mk (some 80) (.build 44 #[(0, (.const (.int .i64 1658))), (1, (.tmp 79))]) none,
  .mk (some 81) (.build 42 #[(0, (.const (.int .i64 64338))), (1, (.const (.int .i64 64339))), (2, (.const (.int .i64 64340))), (3, (.const (.int .i64 64341)))]) none,
  .mk (some 82) (.build 44 #[(0, (.const (.int .i64 1659))), (1, (.tmp 81))]) none,
  .mk (some 83) (.build 42 #[(0, (.const (.int .i64 64342))), (1, (.const (.int .i64 64343))), (2, (.const (.int .i64 64344))), (3, (.const (.int .i64 64345)))]) none,
  .mk (some 84) (.build 44 #[(0, (.const (.int .i64 1662))), (1, (.tmp 83))]) none,
  .mk (some 85) (.build 42 #[(0, (.const (.int .i64 64354))), (1, (.const (.int .i64 64355))), (2, (.const (.int .i64 64356))), (3, (.const (.int .i64 64357)))]) none,
  .mk (some 86) (.build 44 #[(0, (.const (.int .i64 1663))), (1, (.tmp 85))]) none,
  .mk (some 87) (.build 42 #[(0, (.const (.int .i64 64346))), (1, (.const (.int .i64 64347))), (2, (.const (.int .i64 64348))), (3, (.const (.int .i64 64349)))]) none,
  .mk (some 88) (.build 44 #[(0, (.const (.int .i64 1664))), (1, (.tmp 87))]) none,
  .mk (some 89) (.build 42 #[(0, (.const (.int .i64 64374))), (1, (.const (.int .i64 64375))), (2, (.const (.int .i64 64376))), (3, (.const (.int .i64 64377)))]) none,
  .mk (some 90) (.build 44 #[(0, (.const (.int .i64 1667))), (1, (.tmp 89))]) none,
  .mk (some 91) (.build 42 #[(0, (.const (.int .i64 64370))), (1, (.const (.int .i64 64371))), (2, (.const (.int .i64 64372))), (3, (.const (.int .i64 64373)))]) none,
  .mk (some 92) (.build 44 #[(0, (.const (.int .i64 1668))), (1, (.tmp 91))]) none,
  .mk (some 93) (.build 42 #[(0, (.const (.int .i64 64378))), (1, (.const (.int .i64 64379))), (2, (.const (.int .i64 64380))), (3, (.const (.int .i64 64381)))]) none,
  .mk (some 94) (.build 44 #[(0, (.const (.int .i64 1670))), (1, (.tmp 93))]) none,
  .mk (some 95) (.build 42 #[(0, (.const (.int .i64 64382))), (1, (.const (.int .i64 64383))), (2, (.const (.int .i64 64384))), (3, (.const (.int .i64 64385)))]) none,
  .mk (some 96) (.build 44 #[(0, (.const (.int .i64 1671))), (1, (.tmp 95))]) none,
  .mk (some 97) (.build 42 #[(0, (.const (.int .i64 64392))), (1, (.const (.int .i64 64393))), (2, (.const (.int .i64 0))), (3, (.const (.int .i64 0)))]) none,
  .mk (some 98) (.build 44 #[(0, (.const (.int .i64 1672))), (1, (.tmp 97))]) none,
  .mk (some 99) (.build 42 #[(0, (.const (.int .i64 64388))), (1, (.const (.int .i64 64389))), (2, (.const (.int .i64 0))), (3, (.const (.int .i64 0)))]) none,
  .mk (some 100) (.build 44 #[(0, (.const (.int .i64 1676))), (1, (.tmp 99))]) none,
  .mk (some 101) (.build 42 #[(0, (.const (.int .i64 64386))), (1, (.const (.int .i64 64387))), (2, (.const (.int .i64 0))), (3, (.const (.int .i64 0)))]) none,
  .mk (some 102) (.build 44 #[(0, (.const (.int .i64 1677))), (1, (.tmp 101))]) none,
  .mk (some 103) (.build 42 #[(0, (.const (.int .i64 64390))), (1, (.const (.int .i64 64391))), (2, (.const (.int .i64 0))), (3, (.const (.int .i64 0)))]) none,
  .mk (some 104) (.build 44 #[(0, (.const (.int .i64 1678))), (1, (.tmp 103))]) none,
  .mk (some 105) (.build 42 #[(0, (.const (.int .i64 64396))), (1, (.const (.int .i64 64397))), (2, (.const (.int .i64 0))), (3, (.const (.int .i64 0)))]) none,
  .mk (some 106) (.build 44 #[(0, (.const (.int .i64 1681))), (1, (.tmp 105))]) none,
  .mk (some 107) (.build 42 #[(0, (.const (.int .i64 64394))), (1, (.const (.int .i64 64395))), (2, (.const (.int .i64 0))), (3, (.const (.int .i64 0)))]) none,
  .mk (some 108) (.build 44 #[(0, (.const (.int .i64 1688))), (1, (.tmp 107))]) none,
  .mk (some 109) (.build 42 #[(0, (.const (.int .i64 64362))), (1, (.const (.int .i64 64363))), (2, (.const (.int .i64 64364))), (3, (.const (.int .i64 64365)))]) none,
  .mk (some 110) (.build 44 #[(0, (.const (.int .i64 1700))), (1, (.tmp 109))]) none,
  .mk (some 111) (.build 42 #[(0, (.const (.int .i64 64366))), (1, (.const (.int .i64 64367))), (2, (.const (.int .i64 64368))), (3, (.const (.int .i64 64369)))]) none,
  .mk (some 112) (.build 44 #[(0, (.const (.int .i64 1702))), (1, (.tmp 111))]) none,
  .mk (some 113) (.build 42 #[(0, (.const (.int .i64 64398))), (1, (.const (.int .i64 64399))), (2, (.const (.int .i64 64400))), (3, (.const (.int .i64 64401)))]) none,
  .mk (some 114) (.build 44 #[(0, (.const (.int .i64 1705))), (1, (.tmp 113))]) none,
  .mk (some 115) (.build 42 #[(0, (.const (.int .i64 64467))), (1, (.const (.int .i64 64468))), (2, (.const (.int .i64 64469))), (3, (.const (.int .i64 64470)))]) none,
  .mk (some 116) (.build 44 #[(0, (.const (.int .i64 1709))), (1, (.tmp 115))]) none,
  .mk (some 117) (.build 42 #[(0, (.const (.int .i64 64402))), (1, (.const (.int .i64 64403))), (2, (.const (.int .i64 64404))), (3, (.const (.int .i64 64405)))]) none,
  .mk (some 118) (.build 44 #[(0, (.const (.int .i64 1711))), (1, (.tmp 117))]) none,
  .mk (some 119) (.build 42 #[(0, (.const (.int .i64 64410))), (1, (.const (.int .i64 64411))), (2, (.const (.int .i64 64412))), (3, (.const (.int .i64 64413)))]) none,
  .mk (some 120) (.build 44 #[(0, (.const (.int .i64 1713))), (1, (.tmp 119))]) none,
  .mk (some 121) (.build 42 #[(0, (.const (.int .i64 64406))), (1, (.const (.int .i64 64407))), (2, (.const (.int .i64 64408))), (3, (.const (.int .i64 64409)))]) none,
  .mk (some 122) (.build 44 #[(0, (.const (.int .i64 1715))), (1, (.tmp 121))]) none,
  .mk (some 123) (.build 42 #[(0, (.const (.int .i64 64414))), (1, (.const (.int .i64 64415))), (2, (.const (.int .i64 0))), (3, (.const (.int .i64 0)))]) none,
  .mk (some 124) (.build 44 #[(0, (.const (.int .i64 1722))), (1, (.tmp 123))]) none,
  .mk (some 125) (.build 42 #[(0, (.const (.int .i64 64416))), (1, (.const (.int .i64 64417))), (2, (.const (.int .i64 64418))), (3, (.const (.int .i64 64419)))]) none,
  .mk (some 126) (.build 44 #[(0, (.const (.int .i64 1723))), (1, (.tmp 125))]) none,
  .mk (some 127) (.build 42 #[(0, (.const (.int .i64 64426))), (1, (.const (.int .i64 64427))), (2, (.const (.int .i64 64428))), (3, (.const (.int .i64 64429)))]) none,
  .mk (some 128) (.build 44 #[(0, (.const (.int .i64 1726))), (1, (.tmp 127))]) none,
  .mk (some 129) (.build 42 #[(0, (.const (.int .i64 64420))), (1, (.const (.int .i64 64421))), (2, (.const (.int .i64 0))), (3, (.const (.int .i64 0)))]) none,
  .mk (some 130) (.build 44 #[(0, (.const (.int .i64 1728))), (1, (.tmp 129))]) none,
  .mk (some 131) (.build 42 #[(0, (.const (.int .i64 64422))), (1, (.const (.int .i64 64423))), (2, (.const (.int .i64 64424))), (3, (.const (.int .i64 64425)))]) none,
  .mk (some 132) (.build 44 #[(0, (.const (.int .i64 1729))), (1, (.tmp 131))]) none,
  .mk (some 133) (.build 42 #[(0, (.const (.int .i64 64480))), (1, (.const (.int .i64 64481))), (2, (.const (.int .i64 0))), (3, (.const (.int .i64 0)))]) none,
  .mk (some 134) (.build 44 #[(0, (.const (.int .i64 1733))), (1, (.tmp 133))]) none,
  .mk (some 135) (.build 42 #[(0, (.const (.int .i64 64473))), (1, (.const (.int .i64 64474))), (2, (.const (.int .i64 0))), (3, (.const (.int .i64 0)))]) none,
  .mk (some 136) (.build 44 #[(0, (.const (.int .i64 1734))), (1, (.tmp 135))]) none,
  .mk (some 137) (.build 42 #[(0, (.const (.int .i64 64471))), (1, (.const (.int .i64 64472))), (2, (.const (.int .i64 0))), (3, (.const (.int .i64 0)))]) none,
  .mk (some 138) (.build 44 #[(0, (.const (.int .i64 1735))), (1, (.tmp 137))]) none,
  .mk (some 139) (.build 42 #[(0, (.const (.int .i64 64475))), (1, (.const (.int .i64 64476))), (2, (.const (.int .i64 0))), (3, (.const (.int .i64 0)))]) none,
  .mk (some 140) (.build 44 #[(0, (.const (.int .i64 1736))), (1, (.tmp 139))]) none,
  .mk (some 141) (.build 42 #[(0, (.const (.int .i64 64482))), (1, (.const (.int .i64 64483))), (2, (.const (.int .i64 0))), (3, (.const (.int .i64 0)))]) none,
  .mk (some 142) (.build 44 #[(0, (.const (.int .i64 1737))), (1, (.tmp 141))]) none,
  .mk (some 143) (.build 42 #[(0, (.const (.int .i64 64478))), (1, (.const (.int .i64 64479))), (2, (.const (.int .i64 0))), (3, (.const (.int .i64 0)))]) none,
  .mk (some 144) (.build 44 #[(0, (.const (.int .i64 1739))), (1, (.tmp 143))]) none,
  .mk (some 145) (.build 42 #[(0, (.const (.int .i64 64508))), (1, (.const (.int .i64 64509))), (2, (.const (.int .i64 64510))), (3, (.const (.int .i64 64511)))]) none,
  .mk (some 146) (.build 44 #[(0, (.const (.int .i64 1740))), (1, (.tmp 145))]) none,
  .mk (some 147) (.build 42 #[(0, (.const (.int .i64 64484))), (1, (.const (.int .i64 64485))), (2, (.const (.int .i64 64486))), (3, (.const (.int .i64 64487)))]) none,
  .mk (some 148) (.build 44 #[(0, (.const (.int .i64 1744))), (1, (.tmp 147))]) none,
  .mk (some 149) (.build 42 #[(0, (.const (.int .i64 64430))), (1, (.const (.int .i64 64431))), (2, (.const (.int .i64 0))), (3, (.const (.int .i64 0)))]) none,
  .mk (some 150) (.build 44 #[(0, (.const (.int .i64 1746))), (1, (.tmp 149))]) none,
  .mk (some 151) (.build 42 #[(0, (.const (.int .i64 64432))), (1, (.const (.int .i64 64433))), (2, (.const (.int .i64 0))), (3, (.const (.int .i64 0)))]) none,
  .mk (some 152) (.build 44 #[(0, (.const (.int .i64 1747))), (1, (.tmp 151))]) none,
  .mk (some 153) (.buildSlice 40 76 #[(0, (.tmp 2)), (1, (.tmp 4)), (2, (.tmp 6)), (3, (.tmp 8)), (4, (.tmp 10)), (5, (.tmp 12)), (6, (.tmp 14)), (7, (.tmp 16)), (8, (.tmp 18)), (9, (.tmp 20)), (10, (.tmp 22)), (11, (.tmp 24)), (12, (.tmp 26)), (13, (.tmp 28)), (14, (.tmp 30)), (15, (.tmp 32)), (16, (.tmp 34)), (17, (.tmp 36)), (18, (.tmp 38)), (19, (.tmp 40)), (20, (.tmp 42)), (21, (.tmp 44)), (22, (.tmp 46)), (23, (.tmp 48)), (24, (.tmp 50)), (25, (.tmp 52)), (26, (.tmp 54)), (27, (.tmp 56)), (28, (.tmp 58)), (29, (.tmp 60)), (30, (.tmp 62)), (31, (.tmp 64)), (32, (.tmp 66)), (33, (.tmp 68)), (34, (.tmp 70)), (35, (.tmp 72)), (36, (.tmp 74)), (37, (.tmp 76)), (38, (.tmp 78)), (39, (.tmp 80)), (40, (.tmp 82)), (41, (.tmp 84)), (42, (.tmp 86)), (43, (.tmp 88)), (44, (.tmp 90)), (45, (.tmp 92)), (46, (.tmp 94)), (47, (.tmp 96)), (48, (.tmp 98)), (49, (.tmp 100)), (50, (.tmp 102)), (51, (.tmp 104)), (52, (.tmp 106)), (53, (.tmp 108)), (54, (.tmp 110)), (55, (.tmp 112)), (56, (.tmp 114)), (57, (.tmp 116)), (58, (.tmp 118)), (59, (.tmp 120)), (60, (.tmp 122)), (61, (.tmp 124)), (62, (.tmp 126)), (63, (.tmp 128)), (64, (.tmp 130)), (65, (.tmp 132)), (66, (.tmp 134)), (67, (.tmp 136)), (68, (.tmp 138)), (69, (.tmp 140)), (70, (.tmp 142)), (71, (.tmp 144)), (72, (.tmp 146)), (73, (.tmp 148)), (74, (.tmp 150)), (75, (.tmp 152))]) none,
  .mk (some 0) (.assign (.tmp 153)) none]
def c27 : PC := (.seq (.reg false r27_0) (.seq (.reg false r27_1) .ret))
theorem e27 {args : List PV} {h : Heap} {K : PV → Heap → Prop} (hl : args.length = 0) (s : pwp Try.prog [] c27 (fin Try.prog [.tmp 0] h K) (slots0 (olds args)) h) : CanP Try.prog 27 args h K :=
  can_of2 (n := 154) mixed Try.func27 rfl (by kernel_rfl) (by rw [hl]; kernel_rfl) rfl (by kernel_rfl) s
/-! ### naskh.forms.of: function 26 -/
def r26_0 : List PS := [.mk (some 2) (.alloc 37) none,
  .mk (some 3) (.assign (.const (.bool false))) none]
def r26_1 : List PS := [.mk (some 8) (.call ⟨(.value (.func 27)), #[], #[]⟩) none,
  .mk (some 9) (.call ⟨(.builtin .len), #[(.tmp 8)], #[40]⟩) none,
  .mk (some 10) (.move (.const (.int .i64 0))) none]
def r26_2 : List PS := [.mk (some 11) (.binOp .lss 3 (.tmp 10) (.tmp 9) 3) none]
def r26_3 : List PS := [.mk (some 12) (.indexAddr 40 (.tmp 8) (.tmp 10)) none,
  .mk (some 13) (.load 44 (.tmp 12)) none,
  .mk (some 5) (.alloc 44) none,
  .mk none (.store 44 (.tmp 5) (.tmp 13)) none,
  .frz 5]
def r26_4 : List PS := [.mk (some 14) (.fieldAddr 44 (.tmp 5) 1) none,
  .mk (some 15) (.load 42 (.tmp 14)) none,
  .mk (some 16) (.move (.const (.int .i64 0))) none]
def r26_5 : List PS := [.mk (some 17) (.binOp .lss 3 (.tmp 16) (.const (.int .i64 4)) 3) none]
def r26_6 : List PS := [.mk (some 18) (.move (.tmp 16)) none,
  .mk (some 19) (.index 42 (.tmp 15) (.tmp 16)) none,
  .mk (some 6) (.assign (.tmp 18)) none,
  .mk (some 7) (.assign (.tmp 19)) none]
def r26_7 : List PS := [.mk (some 20) (.move (.tmp 7)) none,
  .mk (some 21) (.binOp .neq 3 (.tmp 20) (.const (.int .i64 0)) 3) none,
  .mk (some 22) (.move (.tmp 21)) none,
  .mk (some 23) (.move (.tmp 7)) (some (22, true)),
  .mk (some 24) (.move (.tmp 0)) (some (22, true)),
  .mk (some 25) (.binOp .eql 3 (.tmp 23) (.tmp 24) 3) (some (22, true)),
  .mk (some 26) (.pick (.tmp 22) (.tmp 25) (.const (.bool false))) none]
def r26_8 : List PS := [.mk (some 27) (.fieldAddr 44 (.tmp 5) 0) none,
  .mk (some 28) (.load 3 (.tmp 27)) none,
  .mk (some 29) (.move (.tmp 6)) none,
  .mk (some 30) (.binOp .add 3 (.tmp 29) (.const (.int .i64 1)) 3) none,
  .mk (some 31) (.build 37 #[(0, (.tmp 28)), (1, (.tmp 30))]) none,
  .mk none (.store 37 (.tmp 2) (.tmp 31)) none,
  .mk (some 3) (.assign (.const (.bool true))) none]
def r26_9 : List PS := [.mk (some 32) (.binOp .add 3 (.tmp 16) (.const (.int .i64 1)) 3) none,
  .mk (some 16) (.move (.tmp 32)) none]
def r26_10 : List PS := [.mk (some 33) (.binOp .add 3 (.tmp 10) (.const (.int .i64 1)) 3) none,
  .mk (some 10) (.move (.tmp 33)) none]
def r26_11 : List PS := [.mk (some 34) (.build 37 #[]) none,
  .mk none (.store 37 (.tmp 2) (.tmp 34)) none,
  .mk (some 3) (.assign (.const (.bool false))) none]
def c26 : PC := (.seq (.reg false r26_0) (.seq (.seq (.reg false r26_1) (.block 0 (.loop (.seq (.reg false r26_2) (.seq (.cond (.tmp 11) .skip (.exit 0)) (.seq (.block 1 (.seq (.reg false r26_3) (.seq (.reg false r26_4) (.block 2 (.loop (.seq (.reg false r26_5) (.seq (.cond (.tmp 17) .skip (.exit 2)) (.seq (.block 3 (.seq (.reg false r26_6) (.seq (.reg false r26_7) (.cond (.tmp 26) (.seq (.reg false r26_8) .ret) .skip)))) (.reg false r26_9))))))))) (.reg false r26_10))))))) (.seq (.reg false r26_11) .ret)))
theorem e26 {args : List PV} {h : Heap} {K : PV → Heap → Prop} (hl : args.length = 1) (s : pwp Try.prog [2, 5] c26 (fin Try.prog [.cell 2 37, .tmp 3] h K) (slots0 (olds args)) h) : CanP Try.prog 26 args h K :=
  can_of2 (n := 35) mixed Try.func26 rfl (by kernel_rfl) (by rw [hl]; kernel_rfl) rfl (by kernel_rfl) s
/-! ### naskh.forms.Base: function 7 -/
def r7_0 : List PS := [.mk (some 2) (.assign (.const (.int .i64 0))) none,
  .mk (some 3) (.assign (.const (.int .i64 0))) none,
  .mk (some 4) (.assign (.const (.bool false))) none]
def r7_1 : List PS := [.mk (some 8) (.move (.tmp 0)) none,
  .mk (some 9) (.call ⟨(.value (.func 26)), #[(.tmp 8)], #[3]⟩) none,
  .mk (some 7) (.move (.tmp 9)) none,
  .mk (some 10) (.extract (.tmp 7) 0) none,
  .mk (some 11) (.extract (.tmp 7) 1) none,
  .mk (some 5) (.alloc 37) none,
  .mk none (.store 37 (.tmp 5) (.tmp 10)) none,
  .frz 5,
  .mk (some 6) (.assign (.tmp 11)) none]
def r7_2 : List PS := [.mk (some 12) (.fieldAddr 37 (.tmp 5) 0) none,
  .mk (some 13) (.load 3 (.tmp 12)) none,
  .mk (some 14) (.fieldAddr 37 (.tmp 5) 1) none,
  .mk (some 15) (.load 3 (.tmp 14)) none,
  .mk (some 16) (.move (.tmp 6)) none,
  .mk (some 2) (.assign (.tmp 13)) none,
  .mk (some 3) (.assign (.tmp 15)) none,
  .mk (some 4) (.assign (.tmp 16)) none]
def c7 : PC := (.seq (.reg false r7_0) (.seq (.reg false r7_1) (.seq (.reg true r7_2) .ret)))
theorem e7 {args : List PV} {h : Heap} {K : PV → Heap → Prop} (hl : args.length = 1) (s : pwp Try.prog [5] c7 (fin Try.prog [.tmp 2, .tmp 3, .tmp 4] h K) (slots0 (olds args)) h) : CanP Try.prog 7 args h K :=
  can_of2 (n := 17) mixed Try.func7 rfl (by kernel_rfl) (by rw [hl]; kernel_rfl) rfl (by kernel_rfl) s
/-! ### naskh.naskhref09.Base: function 8 -/
def r8_0 : List PS := [.mk (some 2) (.assign (.const (.int .i64 0))) none,
  .mk (some 3) (.assign (.const (.int .i64 0))) none,
  .mk (some 4) (.assign (.const (.bool false))) none]
def r8_1 : List PS := [.mk (some 8) (.call ⟨(.value (.func 27)), #[], #[]⟩) none,
  .mk (some 5) (.assign (.tmp 8)) none]
def r8_2 : List PS := [.mk (some 6) (.assign (.const (.int .i64 0))) none]
def r8_3 : List PS := [.mk (some 9) (.move (.tmp 6)) none,
  .mk (some 10) (.move (.tmp 5)) none,
  .mk (some 11) (.call ⟨(.builtin .len), #[(.tmp 10)], #[40]⟩) none,
  .mk (some 12) (.binOp .lss 3 (.tmp 9) (.tmp 11) 3) none]
def r8_4 : List PS := [.mk (some 7) (.assign (.const (.int .i64 0))) none]
def r8_5 : List PS := [.mk (some 15) (.move (.tmp 7)) none,
  .mk (some 16) (.binOp .lss 3 (.tmp 15) (.const (.int .i64 4)) 3) none]
def r8_6 : List PS := [.mk (some 19) (.move (.tmp 0)) none,
  .mk (some 20) (.binOp .neq 3 (.tmp 19) (.const (.int .i64 0)) 3) none,
  .mk (some 21) (.move (.tmp 20)) none,
  .mk (some 22) (.move (.tmp 5)) (some (21, true)),
  .mk (some 23) (.move (.tmp 6)) (some (21, true)),
  .mk (some 24) (.move (.tmp 7)) (some (21, true)),
  .mk (some 25) (.indexAddr 40 (.tmp 22) (.tmp 23)) (some (21, true)),
  .mk (some 26) (.fieldAddr 44 (.tmp 25) 1) (some (21, true)),
  .mk (some 27) (.indexAddr 42 (.tmp 26) (.tmp 24)) (some (21, true)),
  .mk (some 28) (.load 3 (.tmp 27)) (some (21, true)),
  .mk (some 29) (.move (.tmp 0)) (some (21, true)),
  .mk (some 30) (.binOp .eql 3 (.tmp 28) (.tmp 29) 3) (some (21, true)),
  .mk (some 31) (.pick (.tmp 21) (.tmp 30) (.const (.bool false))) none]
def r8_7 : List PS := [.mk (some 32) (.move (.tmp 5)) none,
  .mk (some 33) (.move (.tmp 6)) none,
  .mk (some 34) (.indexAddr 40 (.tmp 32) (.tmp 33)) none,
  .mk (some 35) (.fieldAddr 44 (.tmp 34) 0) none,
  .mk (some 36) (.load 3 (.tmp 35)) none,
  .mk (some 37) (.move (.tmp 7)) none,
  .mk (some 38) (.binOp .add 3 (.tmp 37) (.const (.int .i64 1)) 3) none,
  .mk (some 2) (.assign (.tmp 36)) none,
  .mk (some 3) (.assign (.tmp 38)) none,
  .mk (some 4) (.assign (.const (.bool true))) none]
def r8_8 : List PS := [.mk (some 17) (.move (.tmp 7)) none,
  .mk (some 18) (.binOp .add 3 (.tmp 17) (.const (.int .i64 1)) 3) none,
  .mk (some 7) (.assign (.tmp 18)) none]
def r8_9 : List PS := [.mk (some 13) (.move (.tmp 6)) none,
  .mk (some 14) (.binOp .add 3 (.tmp 13) (.const (.int .i64 1)) 3) none,
  .mk (some 6) (.assign (.tmp 14)) none]
def r8_10 : List PS := [.mk (some 2) (.assign (.const (.int .i64 0))) none,
  .mk (some 3) (.assign (.const (.int .i64 0))) none,
  .mk (some 4) (.assign (.const (.bool false))) none]
def c8 : PC := (.seq (.reg false r8_0) (.seq (.reg false r8_1) (.seq (.seq (.reg false r8_2) (.block 0 (.loop (.seq (.seq (.reg false r8_3) (.cond (.tmp 12) .skip (.exit 0))) (.seq (.block 1 (.seq (.reg false r8_4) (.block 2 (.loop (.seq (.seq (.reg false r8_5) (.cond (.tmp 16) .skip (.exit 2))) (.seq (.block 3 (.seq (.reg false r8_6) (.cond (.tmp 31) (.seq (.reg false r8_7) .ret) .skip))) (.reg false r8_8))))))) (.reg false r8_9)))))) (.seq (.reg false r8_10) .ret))))
theorem e8 {args : List PV} {h : Heap} {K : PV → Heap → Prop} (hl : args.length = 1) (s : pwp Try.prog [] c8 (fin Try.prog [.tmp 2, .tmp 3, .tmp 4] h K) (slots0 (olds args)) h) : CanP Try.prog 8 args h K :=
  can_of2 (n := 39) mixed Try.func8 rfl (by kernel_rfl) (by rw [hl]; kernel_rfl) rfl (by kernel_rfl) s
/-! ### naskh.api.Ligatures: function 28 -/
def r28_0 : List PS := [.mk (some 0) (.assign (.const (.slice none 0 0))) none]
def r28_1 : List PS := [.mk (some 1) (.build 48 #[(0, (.const (.int .i64 1570))), (1, (.const (.int .i64 65269))), (2, (.const (.int .i64 65270)))]) none,
  .mk (some 2) (.build 48 #[(0, (.const (.int .i64 1571))), (1, (.const (.int .i64 65271))), (2, (.const (.int .i64 65272)))]) none,
  .mk (some 3) (.build 48 #[(0, (.const (.int .i64 1573))), (1, (.const (.int .i64 65273))), (2, (.const (.int .i64 65274)))]) none,
  .mk (some 4) (.build 48 #[(0, (.const (.int .i64 1575))), (1, (.const (.int .i64 65275))), (2, (.const (.int .i64 65276)))]) none,
  .mk (some 5) (.buildSlice 45 4 #[(0, (.tmp 1)), (1, (.tmp 2)), (2, (.tmp 3)), (3, (.tmp 4))]) none,
  .mk (some 0) (.assign (.tmp 5)) none]
def c28 : PC := (.seq (.reg false r28_0) (.seq (.reg false r28_1) .ret))
theorem e28 {args : List PV} {h : Heap} {K : PV → Heap → Prop} (hl : args.length = 0) (s : pwp Try.prog [] c28 (fin Try.prog [.tmp 0] h K) (slots0 (olds args)) h) : CanP Try.prog 28 args h K :=
  can_of2 (n := 6) mixed Try.func28 rfl (by kernel_rfl) (by rw [hl]; kernel_rfl) rfl (by kernel_rfl) s
/-! ### naskh.forms.Parted: function 9 -/
def r9_0 : List PS := [.mk (some 2) (.assign (.const (.int .i64 0))) none,
  .mk (some 3) (.assign (.const (.int .i64 0))) none,
  .mk (some 4) (.assign (.const (.bool false))) none]
def r9_1 : List PS := [.mk (some 7) (.call ⟨(.value (.func 28)), #[], #[]⟩) none,
  .mk (some 8) (.call ⟨(.builtin .len), #[(.tmp 7)], #[45]⟩) none,
  .mk (some 9) (.move (.const (.int .i64 0))) none]
def r9_2 : List PS := [.mk (some 10) (.binOp .lss 3 (.tmp 9) (.tmp 8) 3) none]
def r9_3 : List PS := [.mk (some 11) (.indexAddr 45 (.tmp 7) (.tmp 9)) none,
  .mk (some 12) (.load 48 (.tmp 11)) none,
  .mk (some 6) (.alloc 48) none,
  .mk none (.store 48 (.tmp 6) (.tmp 12)) none,
  .frz 6]
def r9_4 : List PS := [.mk (some 13) (.move (.tmp 0)) none]
def r9_5 : List PS := [.mk (some 15) (.fieldAddr 48 (.tmp 6) 1) none,
  .mk (some 16) (.load 3 (.tmp 15)) none,
  .mk (some 17) (.binOp .eql 3 (.tmp 13) (.tmp 16) 3) none,
  .mk (some 14) (.assign (.tmp 17)) none]
def r9_6 : List PS := [.mk (some 18) (.fieldAddr 48 (.tmp 6) 0) none,
  .mk (some 19) (.load 3 (.tmp 18)) none,
  .mk (some 2) (.assign (.tmp 19)) none,
  .mk (some 3) (.assign (.const (.int .i64 1))) none,
  .mk (some 4) (.assign (.const (.bool true))) none]
def r9_7 : List PS := [.mk (some 21) (.fieldAddr 48 (.tmp 6) 2) none,
  .mk (some 22) (.load 3 (.tmp 21)) none,
  .mk (some 23) (.binOp .eql 3 (.tmp 13) (.tmp 22) 3) none,
  .mk (some 20) (.assign (.tmp 23)) none]
def r9_8 : List PS := [.mk (some 24) (.fieldAddr 48 (.tmp 6) 0) none,
  .mk (some 25) (.load 3 (.tmp 24)) none,
  .mk (some 2) (.assign (.tmp 25)) none,
  .mk (some 3) (.assign (.const (.int .i64 2))) none,
  .mk (some 4) (.assign (.const (.bool true))) none]
def r9_9 : List PS := [.mk (some 26) (.binOp .add 3 (.tmp 9) (.const (.int .i64 1)) 3) none,
  .mk (some 9) (.move (.tmp 26)) none]
def r9_10 : List PS := [.mk (some 2) (.assign (.const (.int .i64 0))) none,
  .mk (some 3) (.assign (.const (.int .i64 0))) none,
  .mk (some 4) (.assign (.const (.bool false))) none]
def c9 : PC := (.seq (.reg false r9_0) (.seq (.seq (.reg false r9_1) (.block 0 (.loop (.seq (.reg false r9_2) (.seq (.cond (.tmp 10) .skip (.exit 0)) (.seq (.block 1 (.seq (.reg false r9_3) (.seq (.reg false r9_4) (.block 2 (.seq (.reg false r9_5) (.cond (.tmp 14) (.seq (.reg false r9_6) .ret) (.seq (.reg false r9_7) (.cond (.tmp 20) (.seq (.reg false r9_8) .ret) .skip)))))))) (.reg false r9_9))))))) (.seq (.reg false r9_10) .ret)))
theorem e9 {args : List PV} {h : Heap} {K : PV → Heap → Prop} (hl : args.length = 1) (s : pwp Try.prog [6] c9 (fin Try.prog [.tmp 2, .tmp 3, .tmp 4] h K) (slots0 (olds args)) h) : CanP Try.prog 9 args h K :=
  can_of2 (n := 27) mixed Try.func9 rfl (by kernel_rfl) (by rw [hl]; kernel_rfl) rfl (by kernel_rfl) s
/-! ### naskh.naskhref09.Parted: function 10 -/
def r10_0 : List PS := [.mk (some 2) (.assign (.const (.int .i64 0))) none,
  .mk (some 3) (.assign (.const (.int .i64 0))) none,
  .mk (some 4) (.assign (.const (.bool false))) none]
def r10_1 : List PS := [.mk (some 7) (.call ⟨(.value (.func 28)), #[], #[]⟩) none,
  .mk (some 5) (.assign (.tmp 7)) none]
def r10_2 : List PS := [.mk (some 6) (.assign (.const (.int .i64 0))) none]
def r10_3 : List PS := [.mk (some 8) (.move (.tmp 6)) none,
  .mk (some 9) (.move (.tmp 5)) none,
  .mk (some 10) (.call ⟨(.builtin .len), #[(.tmp 9)], #[45]⟩) none,
  .mk (some 11) (.binOp .lss 3 (.tmp 8) (.tmp 10) 3) none]
def r10_4 : List PS := [.mk (some 14) (.move (.tmp 5)) none,
  .mk (some 15) (.move (.tmp 6)) none,
  .mk (some 16) (.indexAddr 45 (.tmp 14) (.tmp 15)) none,
  .mk (some 17) (.fieldAddr 48 (.tmp 16) 1) none,
  .mk (some 18) (.load 3 (.tmp 17)) none,
  .mk (some 19) (.move (.tmp 0)) none,
  .mk (some 20) (.binOp .eql 3 (.tmp 18) (.tmp 19) 3) none]
def r10_5 : List PS := [.mk (some 21) (.move (.tmp 5)) none,
  .mk (some 22) (.move (.tmp 6)) none,
  .mk (some 23) (.indexAddr 45 (.tmp 21) (.tmp 22)) none,
  .mk (some 24) (.fieldAddr 48 (.tmp 23) 0) none,
  .mk (some 25) (.load 3 (.tmp 24)) none,
  .mk (some 2) (.assign (.tmp 25)) none,
  .mk (some 3) (.assign (.const (.int .i64 1))) none,
  .mk (some 4) (.assign (.const (.bool true))) none]
def r10_6 : List PS := [.mk (some 26) (.move (.tmp 5)) none,
  .mk (some 27) (.move (.tmp 6)) none,
  .mk (some 28) (.indexAddr 45 (.tmp 26) (.tmp 27)) none,
  .mk (some 29) (.fieldAddr 48 (.tmp 28) 2) none,
  .mk (some 30) (.load 3 (.tmp 29)) none,
  .mk (some 31) (.move (.tmp 0)) none,
  .mk (some 32) (.binOp .eql 3 (.tmp 30) (.tmp 31) 3) none]
def r10_7 : List PS := [.mk (some 33) (.move (.tmp 5)) none,
  .mk (some 34) (.move (.tmp 6)) none,
  .mk (some 35) (.indexAddr 45 (.tmp 33) (.tmp 34)) none,
  .mk (some 36) (.fieldAddr 48 (.tmp 35) 0) none,
  .mk (some 37) (.load 3 (.tmp 36)) none,
  .mk (some 2) (.assign (.tmp 37)) none,
  .mk (some 3) (.assign (.const (.int .i64 2))) none,
  .mk (some 4) (.assign (.const (.bool true))) none]
def r10_8 : List PS := [.mk (some 12) (.move (.tmp 6)) none,
  .mk (some 13) (.binOp .add 3 (.tmp 12) (.const (.int .i64 1)) 3) none,
  .mk (some 6) (.assign (.tmp 13)) none]
def r10_9 : List PS := [.mk (some 2) (.assign (.const (.int .i64 0))) none,
  .mk (some 3) (.assign (.const (.int .i64 0))) none,
  .mk (some 4) (.assign (.const (.bool false))) none]
def c10 : PC := (.seq (.reg false r10_0) (.seq (.reg false r10_1) (.seq (.seq (.reg false r10_2) (.block 0 (.loop (.seq (.seq (.reg false r10_3) (.cond (.tmp 11) .skip (.exit 0))) (.seq (.block 1 (.seq (.seq (.reg false r10_4) (.cond (.tmp 20) (.seq (.reg false r10_5) .ret) .skip)) (.seq (.reg false r10_6) (.cond (.tmp 32) (.seq (.reg false r10_7) .ret) .skip)))) (.reg false r10_8)))))) (.seq (.reg false r10_9) .ret))))
theorem e10 {args : List PV} {h : Heap} {K : PV → Heap → Prop} (hl : args.length = 1) (s : pwp Try.prog [] c10 (fin Try.prog [.tmp 2, .tmp 3, .tmp 4] h K) (slots0 (olds args)) h) : CanP Try.prog 10 args h K :=
  can_of2 (n := 38) mixed Try.func10 rfl (by kernel_rfl) (by rw [hl]; kernel_rfl) rfl (by kernel_rfl) s
/-! ### naskh.api.Accents: function 30 -/
def r30_0 : List PS := [.mk (some 0) (.assign (.const (.slice none 0 0))) none]
def r30_1 : List PS := [.mk (some 1) (.build 54 #[(0, (.const (.int .i64 1611))), (1, (.const (.int .i64 65136))), (2, (.const (.int .i64 65137)))]) none,
  .mk (some 2) (.build 54 #[(0, (.const (.int .i64 1612))), (1, (.const (.int .i64 65138))), (2, (.const (.int .i64 0)))]) none,
  .mk (some 3) (.build 54 #[(0, (.const (.int .i64 1613))), (1, (.const (.int .i64 65140))), (2, (.const (.int .i64 0)))]) none,
  .mk (some 4) (.build 54 #[(0, (.const (.int .i64 1614))), (1, (.const (.int .i64 65142))), (2, (.const (.int .i64 65143)))]) none,
  .mk (some 5) (.build 54 #[(0, (.const (.int .i64 1615))), (1, (.const (.int .i64 65144))), (2, (.const (.int .i64 65145)))]) none,
  .mk (some 6) (.build 54 #[(0, (.const (.int .i64 1616))), (1, (.const (.int .i64 65146))), (2, (.const (.int .i64 65147)))]) none,
  .mk (some 7) (.build 54 #[(0, (.const (.int .i64 1617))), (1, (.const (.int .i64 65148))), (2, (.const (.int .i64 65149)))]) none,
  .mk (some 8) (.build 54 #[(0, (.const (.int .i64 1618))), (1, (.const (.int .i64 65150))), (2, (.const (.int .i64 65151)))]) none,
  .mk (some 9) (.buildSlice 51 8 #[(0, (.tmp 1)), (1, (.tmp 2)), (2, (.tmp 3)), (3, (.tmp 4)), (4, (.tmp 5)), (5, (.tmp 6)), (6, (.tmp 7)), (7, (.tmp 8))]) none,
  .mk (some 0) (.assign (.tmp 9)) none]
def c30 : PC := (.seq (.reg false r30_0) (.seq (.reg false r30_1) .ret))
theorem e30 {args : List PV} {h : Heap} {K : PV → Heap → Prop} (hl : args.length = 0) (s : pwp Try.prog [] c30 (fin Try.prog [.tmp 0] h K) (slots0 (olds args)) h) : CanP Try.prog 30 args h K :=
  can_of2 (n := 10) mixed Try.func30 rfl (by kernel_rfl) (by rw [hl]; kernel_rfl) rfl (by kernel_rfl) s
/-! ### naskh.forms.Mark: function 16 -/
def r16_0 : List PS := [.mk (some 2) (.assign (.const (.int .i64 0))) none,
  .mk (some 3) (.assign (.const (.bool false))) none,
  .mk (some 4) (.assign (.const (.bool false))) none]
def r16_1 : List PS := [.mk (some 7) (.move (.tmp 0)) none,
  .mk (some 8) (.binOp .eql 3 (.tmp 7) (.const (.int .i64 0)) 3) none]
def r16_2 : List PS := [.mk (some 2) (.assign (.const (.int .i64 0))) none,
  .mk (some 3) (.assign (.const (.bool false))) none,
  .mk (some 4) (.assign (.const (.bool false))) none]
def r16_3 : List PS := [.mk (some 9) (.call ⟨(.value (.func 30)), #[], #[]⟩) none,
  .mk (some 10) (.call ⟨(.builtin .len), #[(.tmp 9)], #[51]⟩) none,
  .mk (some 11) (.move (.const (.int .i64 0))) none]
def r16_4 : List PS := [.mk (some 12) (.binOp .lss 3 (.tmp 11) (.tmp 10) 3) none]
def r16_5 : List PS := [.mk (some 13) (.indexAddr 51 (.tmp 9) (.tmp 11)) none,
  .mk (some 14) (.load 54 (.tmp 13)) none,
  .mk (some 6) (.alloc 54) none,
  .mk none (.store 54 (.tmp 6) (.tmp 14)) none,
  .frz 6]
def r16_6 : List PS := [.mk (some 15) (.move (.tmp 0)) none]
def r16_7 : List PS := [.mk (some 17) (.fieldAddr 54 (.tmp 6) 1) none,
  .mk (some 18) (.load 3 (.tmp 17)) none,
  .mk (some 19) (.binOp .eql 3 (.tmp 15) (.tmp 18) 3) none,
  .mk (some 16) (.assign (.tmp 19)) none]
def r16_8 : List PS := [.mk (some 20) (.fieldAddr 54 (.tmp 6) 0) none,
  .mk (some 21) (.load 3 (.tmp 20)) none,
  .mk (some 2) (.assign (.tmp 21)) none,
  .mk (some 3) (.assign (.const (.bool false))) none,
  .mk (some 4) (.assign (.const (.bool true))) none]
def r16_9 : List PS := [.mk (some 23) (.fieldAddr 54 (.tmp 6) 2) none,
  .mk (some 24) (.load 3 (.tmp 23)) none,
  .mk (some 25) (.binOp .eql 3 (.tmp 15) (.tmp 24) 3) none,
  .mk (some 22) (.assign (.tmp 25)) none]
def r16_10 : List PS := [.mk (some 26) (.fieldAddr 54 (.tmp 6) 0) none,
  .mk (some 27) (.load 3 (.tmp 26)) none,
  .mk (some 2) (.assign (.tmp 27)) none,
  .mk (some 3) (.assign (.const (.bool true))) none,
  .mk (some 4) (.assign (.const (.bool true))) none]
def r16_11 : List PS := [.mk (some 28) (.binOp .add 3 (.tmp 11) (.const (.int .i64 1)) 3) none,
  .mk (some 11) (.move (.tmp 28)) none]
def r16_12 : List PS := [.mk (some 2) (.assign (.const (.int .i64 0))) none,
  .mk (some 3) (.assign (.const (.bool false))) none,
  .mk (some 4) (.assign (.const (.bool false))) none]
def c16 : PC := (.seq (.reg false r16_0) (.seq (.seq (.reg false r16_1) (.cond (.tmp 8) (.seq (.reg false r16_2) .ret) .skip)) (.seq (.seq (.reg false r16_3) (.block 0 (.loop (.seq (.reg false r16_4) (.seq (.cond (.tmp 12) .skip (.exit 0)) (.seq (.block 1 (.seq (.reg false r16_5) (.seq (.reg false r16_6) (.block 2 (.seq (.reg false r16_7) (.cond (.tmp 16) (.seq (.reg false r16_8) .ret) (.seq (.reg false r16_9) (.cond (.tmp 22) (.seq (.reg false r16_10) .ret) .skip)))))))) (.reg false r16_11))))))) (.seq (.reg false r16_12) .ret))))
theorem e16 {args : List PV} {h : Heap} {K : PV → Heap → Prop} (hl : args.length = 1) (s : pwp Try.prog [6] c16 (fin Try.prog [.tmp 2, .tmp 3, .tmp 4] h K) (slots0 (olds args)) h) : CanP Try.prog 16 args h K :=
  can_of2 (n := 29) mixed Try.func16 rfl (by kernel_rfl) (by rw [hl]; kernel_rfl) rfl (by kernel_rfl) s
/-! ### naskh.api.Piles: function 31 -/
def r31_0 : List PS := [.mk (some 0) (.assign (.const (.slice none 0 0))) none]
def r31_1 : List PS := [.mk (some 1) (.build 58 #[(0, (.const (.int .i64 1612))), (1, (.const (.int .i64 64606)))]) none,
  .mk (some 2) (.build 58 #[(0, (.const (.int .i64 1613))), (1, (.const (.int .i64 64607)))]) none,
  .mk (some 3) (.build 58 #[(0, (.const (.int .i64 1614))), (1, (.const (.int .i64 64608)))]) none,
  .mk (some 4) (.build 58 #[(0, (.const (.int .i64 1615))), (1, (.const (.int .i64 64609)))]) none,
  .mk (some 5) (.build 58 #[(0, (.const (.int .i64 1616))), (1, (.const (.int .i64 64610)))]) none,
  .mk (some 6) (.build 58 #[(0, (.const (.int .i64 1648))), (1, (.const (.int .i64 64611)))]) none,
  .mk (some 7) (.buildSlice 55 6 #[(0, (.tmp 1)), (1, (.tmp 2)), (2, (.tmp 3)), (3, (.tmp 4)), (4, (.tmp 5)), (5, (.tmp 6))]) none,
  .mk (some 0) (.assign (.tmp 7)) none]
def c31 : PC := (.seq (.reg false r31_0) (.seq (.reg false r31_1) .ret))
theorem e31 {args : List PV} {h : Heap} {K : PV → Heap → Prop} (hl : args.length = 0) (s : pwp Try.prog [] c31 (fin Try.prog [.tmp 0] h K) (slots0 (olds args)) h) : CanP Try.prog 31 args h K :=
  can_of2 (n := 8) mixed Try.func31 rfl (by kernel_rfl) (by rw [hl]; kernel_rfl) rfl (by kernel_rfl) s
/-! ### naskh.forms.Unpile: function 20 -/
def r20_0 : List PS := [.mk (some 2) (.assign (.const (.int .i64 0))) none,
  .mk (some 3) (.assign (.const (.bool false))) none]
def r20_1 : List PS := [.mk (some 6) (.call ⟨(.value (.func 31)), #[], #[]⟩) none,
  .mk (some 7) (.call ⟨(.builtin .len), #[(.tmp 6)], #[55]⟩) none,
  .mk (some 8) (.move (.const (.int .i64 0))) none]
def r20_2 : List PS := [.mk (some 9) (.binOp .lss 3 (.tmp 8) (.tmp 7) 3) none]
def r20_3 : List PS := [.mk (some 10) (.indexAddr 55 (.tmp 6) (.tmp 8)) none,
  .mk (some 11) (.load 58 (.tmp 10)) none,
  .mk (some 5) (.alloc 58) none,
  .mk none (.store 58 (.tmp 5) (.tmp 11)) none,
  .frz 5]
def r20_4 : List PS := [.mk (some 12) (.fieldAddr 58 (.tmp 5) 1) none,
  .mk (some 13) (.load 3 (.tmp 12)) none,
  .mk (some 14) (.move (.tmp 0)) none,
  .mk (some 15) (.binOp .eql 3 (.tmp 13) (.tmp 14) 3) none]
def r20_5 : List PS := [.mk (some 16) (.fieldAddr 58 (.tmp 5) 0) none,
  .mk (some 17) (.load 3 (.tmp 16)) none,
  .mk (some 2) (.assign (.tmp 17)) none,
  .mk (some 3) (.assign (.const (.bool true))) none]
def r20_6 : List PS := [.mk (some 18) (.binOp .add 3 (.tmp 8) (.const (.int .i64 1)) 3) none,
  .mk (some 8) (.move (.tmp 18)) none]
def r20_7 : List PS := [.mk (some 2) (.assign (.const (.int .i64 0))) none,
  .mk (some 3) (.assign (.const (.bool false))) none]
def c20 : PC := (.seq (.reg false r20_0) (.seq (.seq (.reg false r20_1) (.block 0 (.loop (.seq (.reg false r20_2) (.seq (.cond (.tmp 9) .skip (.exit 0)) (.seq (.block 1 (.seq (.reg false r20_3) (.seq (.reg false r20_4) (.cond (.tmp 15) (.seq (.reg false r20_5) .ret) .skip)))) (.reg false r20_6))))))) (.seq (.reg false r20_7) .ret)))
theorem e20 {args : List PV} {h : Heap} {K : PV → Heap → Prop} (hl : args.length = 1) (s : pwp Try.prog [5] c20 (fin Try.prog [.tmp 2, .tmp 3] h K) (slots0 (olds args)) h) : CanP Try.prog 20 args h K :=
  can_of2 (n := 19) mixed Try.func20 rfl (by kernel_rfl) (by rw [hl]; kernel_rfl) rfl (by kernel_rfl) s
/-! ### naskh.forms.kinds: function 29 -/
def r29_0 : List PS := [.mk (some 2) (.alloc 49) none]
def r29_1 : List PS := [.mk (some 3) (.alloc 49) none]
def r29_2 : List PS := [.mk (some 5) (.move (.tmp 0)) none,
  .mk (some 6) (.call ⟨(.value (.func 7)), #[(.tmp 5)], #[3]⟩) none,
  .mk (some 4) (.move (.tmp 6)) none,
  .mk (some 7) (.extract (.tmp 4) 0) none,
  .mk (some 8) (.extract (.tmp 4) 1) none,
  .mk (some 9) (.extract (.tmp 4) 2) none,
  .mk (some 10) (.indexAddr 49 (.tmp 3) (.const (.int .i64 0))) none,
  .mk none (.store 4 (.tmp 10) (.tmp 9)) none]
def r29_3 : List PS := [.mk (some 12) (.move (.tmp 0)) none,
  .mk (some 13) (.call ⟨(.value (.func 9)), #[(.tmp 12)], #[3]⟩) none,
  .mk (some 11) (.move (.tmp 13)) none,
  .mk (some 14) (.extract (.tmp 11) 0) none,
  .mk (some 15) (.extract (.tmp 11) 1) none,
  .mk (some 16) (.extract (.tmp 11) 2) none,
  .mk (some 17) (.indexAddr 49 (.tmp 3) (.const (.int .i64 1))) none,
  .mk none (.store 4 (.tmp 17) (.tmp 16)) none]
def r29_4 : List PS := [.mk (some 19) (.move (.tmp 0)) none,
  .mk (some 20) (.call ⟨(.value (.func 16)), #[(.tmp 19)], #[3]⟩) none,
  .mk (some 18) (.move (.tmp 20)) none,
  .mk (some 21) (.extract (.tmp 18) 0) none,
  .mk (some 22) (.extract (.tmp 18) 1) none,
  .mk (some 23) (.extract (.tmp 18) 2) none,
  .mk (some 24) (.indexAddr 49 (.tmp 3) (.const (.int .i64 2))) none,
  .mk none (.store 4 (.tmp 24) (.tmp 23)) none]
def r29_5 : List PS := [.mk (some 26) (.move (.tmp 0)) none,
  .mk (some 27) (.call ⟨(.value (.func 20)), #[(.tmp 26)], #[3]⟩) none,
  .mk (some 25) (.move (.tmp 27)) none,
  .mk (some 28) (.extract (.tmp 25) 0) none,
  .mk (some 29) (.extract (.tmp 25) 1) none,
  .mk (some 30) (.indexAddr 49 (.tmp 3) (.const (.int .i64 3))) none,
  .mk none (.store 4 (.tmp 30) (.tmp 29)) none]
def r29_6 : List PS := [.mk (some 31) (.load 49 (.tmp 3)) none,
  .mk none (.store 49 (.tmp 2) (.tmp 31)) none]
def c29 : PC := (.seq (.reg false r29_0) (.seq (.reg false r29_1) (.seq (.reg false r29_2) (.seq (.reg false r29_3) (.seq (.reg false r29_4) (.seq (.reg false r29_5) (.seq (.reg false r29_6) .ret)))))))
theorem e29 {args : List PV} {h : Heap} {K : PV → Heap → Prop} (hl : args.length = 1) (s : pwp Try.prog [2, 3] c29 (fin Try.prog [.cell 2 49] h K) (slots0 (olds args)) h) : CanP Try.prog 29 args h K :=
  can_of2 (n := 32) mixed Try.func29 rfl (by kernel_rfl) (by rw [hl]; kernel_rfl) rfl (by kernel_rfl) s
/-! ### naskh.forms.Presented: function 11 -/
def r11_0 : List PS := [.mk (some 2) (.assign (.const (.bool false))) none]
def r11_1 : List PS := [.mk (some 3) (.alloc 49) none]
def r11_2 : List PS := [.mk (some 4) (.move (.tmp 0)) none,
  .mk (some 5) (.binOp .eql 3 (.tmp 4) (.const (.int .i64 65139)) 3) none,
  .mk (some 6) (.move (.tmp 5)) none,
  .mk (some 7) (.move (.tmp 0)) (some (6, false)),
  .mk (some 8) (.call ⟨(.value (.func 29)), #[(.tmp 7)], #[3]⟩) (some (6, false)),
  .mk (some 9) (.load 49 (.tmp 3)) (some (6, false)),
  .mk (some 10) (.binOp .neq 49 (.tmp 8) (.tmp 9) 49) (some (6, false)),
  .mk (some 11) (.pick (.tmp 6) (.const (.bool true)) (.tmp 10)) none,
  .mk (some 2) (.assign (.tmp 11)) none]
def c11 : PC := (.seq (.reg false r11_0) (.seq (.reg false r11_1) (.seq (.reg true r11_2) .ret)))
theorem e11 {args : List PV} {h : Heap} {K : PV → Heap → Prop} (hl : args.length = 1) (s : pwp Try.prog [] c11 (fin Try.prog [.tmp 2] h K) (slots0 (olds args)) h) : CanP Try.prog 11 args h K :=
  can_of2 (n := 12) mixed Try.func11 rfl (by kernel_rfl) (by rw [hl]; kernel_rfl) rfl (by kernel_rfl) s
/-! ### naskh.naskhref09.Mark: function 17 -/
def r17_0 : List PS := [.mk (some 2) (.assign (.const (.int .i64 0))) none,
  .mk (some 3) (.assign (.const (.bool false))) none,
  .mk (some 4) (.assign (.const (.bool false))) none]
def r17_1 : List PS := [.mk (some 7) (.call ⟨(.value (.func 30)), #[], #[]⟩) none,
  .mk (some 5) (.assign (.tmp 7)) none]
def r17_2 : List PS := [.mk (some 6) (.assign (.const (.int .i64 0))) none]
def r17_3 : List PS := [.mk (some 8) (.move (.tmp 6)) none,
  .mk (some 9) (.move (.tmp 5)) none,
  .mk (some 10) (.call ⟨(.builtin .len), #[(.tmp 9)], #[51]⟩) none,
  .mk (some 11) (.binOp .lss 3 (.tmp 8) (.tmp 10) 3) none]
def r17_4 : List PS := [.mk (some 14) (.move (.tmp 5)) none,
  .mk (some 15) (.move (.tmp 6)) none,
  .mk (some 16) (.indexAddr 51 (.tmp 14) (.tmp 15)) none,
  .mk (some 17) (.fieldAddr 54 (.tmp 16) 1) none,
  .mk (some 18) (.load 3 (.tmp 17)) none,
  .mk (some 19) (.move (.tmp 0)) none,
  .mk (some 20) (.binOp .eql 3 (.tmp 18) (.tmp 19) 3) none]
def r17_5 : List PS := [.mk (some 21) (.move (.tmp 5)) none,
  .mk (some 22) (.move (.tmp 6)) none,
  .mk (some 23) (.indexAddr 51 (.tmp 21) (.tmp 22)) none,
  .mk (some 24) (.fieldAddr 54 (.tmp 23) 0) none,
  .mk (some 25) (.load 3 (.tmp 24)) none,
  .mk (some 2) (.assign (.tmp 25)) none,
  .mk (some 3) (.assign (.const (.bool false))) none,
  .mk (some 4) (.assign (.const (.bool true))) none]
def r17_6 : List PS := [.mk (some 26) (.move (.tmp 0)) none,
  .mk (some 27) (.binOp .neq 3 (.tmp 26) (.const (.int .i64 0)) 3) none,
  .mk (some 28) (.move (.tmp 27)) none,
  .mk (some 29) (.move (.tmp 5)) (some (28, true)),
  .mk (some 30) (.move (.tmp 6)) (some (28, true)),
  .mk (some 31) (.indexAddr 51 (.tmp 29) (.tmp 30)) (some (28, true)),
  .mk (some 32) (.fieldAddr 54 (.tmp 31) 2) (some (28, true)),
  .mk (some 33) (.load 3 (.tmp 32)) (some (28, true)),
  .mk (some 34) (.move (.tmp 0)) (some (28, true)),
  .mk (some 35) (.binOp .eql 3 (.tmp 33) (.tmp 34) 3) (some (28, true)),
  .mk (some 36) (.pick (.tmp 28) (.tmp 35) (.const (.bool false))) none]
def r17_7 : List PS := [.mk (some 37) (.move (.tmp 5)) none,
  .mk (some 38) (.move (.tmp 6)) none,
  .mk (some 39) (.indexAddr 51 (.tmp 37) (.tmp 38)) none,
  .mk (some 40) (.fieldAddr 54 (.tmp 39) 0) none,
  .mk (some 41) (.load 3 (.tmp 40)) none,
  .mk (some 2) (.assign (.tmp 41)) none,
  .mk (some 3) (.assign (.const (.bool true))) none,
  .mk (some 4) (.assign (.const (.bool true))) none]
def r17_8 : List PS := [.mk (some 12) (.move (.tmp 6)) none,
  .mk (some 13) (.binOp .add 3 (.tmp 12) (.const (.int .i64 1)) 3) none,
  .mk (some 6) (.assign (.tmp 13)) none]
def r17_9 : List PS := [.mk (some 2) (.assign (.const (.int .i64 0))) none,
  .mk (some 3) (.assign (.const (.bool false))) none,
  .mk (some 4) (.assign (.const (.bool false))) none]
def c17 : PC := (.seq (.reg false r17_0) (.seq (.reg false r17_1) (.seq (.seq (.reg false r17_2) (.block 0 (.loop (.seq (.seq (.reg false r17_3) (.cond (.tmp 11) .skip (.exit 0))) (.seq (.block 1 (.seq (.seq (.reg false r17_4) (.cond (.tmp 20) (.seq (.reg false r17_5) .ret) .skip)) (.seq (.reg false r17_6) (.cond (.tmp 36) (.seq (.reg false r17_7) .ret) .skip)))) (.reg false r17_8)))))) (.seq (.reg false r17_9) .ret))))
theorem e17 {args : List PV} {h : Heap} {K : PV → Heap → Prop} (hl : args.length = 1) (s : pwp Try.prog [] c17 (fin Try.prog [.tmp 2, .tmp 3, .tmp 4] h K) (slots0 (olds args)) h) : CanP Try.prog 17 args h K :=
  can_of2 (n := 42) mixed Try.func17 rfl (by kernel_rfl) (by rw [hl]; kernel_rfl) rfl (by kernel_rfl) s
/-! ### naskh.naskhref09.Unpile: function 21 -/
def r21_0 : List PS := [.mk (some 2) (.assign (.const (.int .i64 0))) none,
  .mk (some 3) (.assign (.const (.bool false))) none]
def r21_1 : List PS := [.mk (some 6) (.call ⟨(.value (.func 31)), #[], #[]⟩) none,
  .mk (some 4) (.assign (.tmp 6)) none]
def r21_2 : List PS := [.mk (some 5) (.assign (.const (.int .i64 0))) none]
def r21_3 : List PS := [.mk (some 7) (.move (.tmp 5)) none,
  .mk (some 8) (.move (.tmp 4)) none,
  .mk (some 9) (.call ⟨(.builtin .len), #[(.tmp 8)], #[55]⟩) none,
  .mk (some 10) (.binOp .lss 3 (.tmp 7) (.tmp 9) 3) none]
def r21_4 : List PS := [.mk (some 13) (.move (.tmp 4)) none,
  .mk (some 14) (.move (.tmp 5)) none,
  .mk (some 15) (.indexAddr 55 (.tmp 13) (.tmp 14)) none,
  .mk (some 16) (.fieldAddr 58 (.tmp 15) 1) none,
  .mk (some 17) (.load 3 (.tmp 16)) none,
  .mk (some 18) (.move (.tmp 0)) none,
  .mk (some 19) (.binOp .eql 3 (.tmp 17) (.tmp 18) 3) none]
def r21_5 : List PS := [.mk (some 20) (.move (.tmp 4)) none,
  .mk (some 21) (.move (.tmp 5)) none,
  .mk (some 22) (.indexAddr 55 (.tmp 20) (.tmp 21)) none,
  .mk (some 23) (.fieldAddr 58 (.tmp 22) 0) none,
  .mk (some 24) (.load 3 (.tmp 23)) none,
  .mk (some 2) (.assign (.tmp 24)) none,
  .mk (some 3) (.assign (.const (.bool true))) none]
def r21_6 : List PS := [.mk (some 11) (.move (.tmp 5)) none,
  .mk (some 12) (.binOp .add 3 (.tmp 11) (.const (.int .i64 1)) 3) none,
  .mk (some 5) (.assign (.tmp 12)) none]
def r21_7 : List PS := [.mk (some 2) (.assign (.const (.int .i64 0))) none,
  .mk (some 3) (.assign (.const (.bool false))) none]
def c21 : PC := (.seq (.reg false r21_0) (.seq (.reg false r21_1) (.seq (.seq (.reg false r21_2) (.block 0 (.loop (.seq (.seq (.reg false r21_3) (.cond (.tmp 10) .skip (.exit 0))) (.seq (.block 1 (.seq (.reg false r21_4) (.cond (.tmp 19) (.seq (.reg false r21_5) .ret) .skip))) (.reg false r21_6)))))) (.seq (.reg false r21_7) .ret))))
theorem e21 {args : List PV} {h : Heap} {K : PV → Heap → Prop} (hl : args.length = 1) (s : pwp Try.prog [] c21 (fin Try.prog [.tmp 2, .tmp 3] h K) (slots0 (olds args)) h) : CanP Try.prog 21 args h K :=
  can_of2 (n := 25) mixed Try.func21 rfl (by kernel_rfl) (by rw [hl]; kernel_rfl) rfl (by kernel_rfl) s
/-! ### naskh.naskhref09.Presented: function 12 -/
def r12_0 : List PS := [.mk (some 2) (.assign (.const (.bool false))) none]
def r12_1 : List PS := [.mk (some 15) (.move (.tmp 0)) none,
  .mk (some 16) (.call ⟨(.value (.func 8)), #[(.tmp 15)], #[3]⟩) none,
  .mk (some 14) (.move (.tmp 16)) none,
  .mk (some 17) (.extract (.tmp 14) 0) none,
  .mk (some 18) (.extract (.tmp 14) 1) none,
  .mk (some 19) (.extract (.tmp 14) 2) none,
  .mk (some 3) (.assign (.tmp 17)) none,
  .mk (some 4) (.assign (.tmp 18)) none,
  .mk (some 5) (.assign (.tmp 19)) none]
def r12_2 : List PS := [.mk (some 21) (.move (.tmp 0)) none,
  .mk (some 22) (.call ⟨(.value (.func 10)), #[(.tmp 21)], #[3]⟩) none,
  .mk (some 20) (.move (.tmp 22)) none,
  .mk (some 23) (.extract (.tmp 20) 0) none,
  .mk (some 24) (.extract (.tmp 20) 1) none,
  .mk (some 25) (.extract (.tmp 20) 2) none,
  .mk (some 6) (.assign (.tmp 23)) none,
  .mk (some 7) (.assign (.tmp 24)) none,
  .mk (some 8) (.assign (.tmp 25)) none]
def r12_3 : List PS := [.mk (some 27) (.move (.tmp 0)) none,
  .mk (some 28) (.call ⟨(.value (.func 17)), #[(.tmp 27)], #[3]⟩) none,
  .mk (some 26) (.move (.tmp 28)) none,
  .mk (some 29) (.extract (.tmp 26) 0) none,
  .mk (some 30) (.extract (.tmp 26) 1) none,
  .mk (some 31) (.extract (.tmp 26) 2) none,
  .mk (some 9) (.assign (.tmp 29)) none,
  .mk (some 10) (.assign (.tmp 30)) none,
  .mk (some 11) (.assign (.tmp 31)) none]
def r12_4 : List PS := [.mk (some 33) (.move (.tmp 0)) none,
  .mk (some 34) (.call ⟨(.value (.func 21)), #[(.tmp 33)], #[3]⟩) none,
  .mk (some 32) (.move (.tmp 34)) none,
  .mk (some 35) (.extract (.tmp 32) 0) none,
  .mk (some 36) (.extract (.tmp 32) 1) none,
  .mk (some 12) (.assign (.tmp 35)) none,
  .mk (some 13) (.assign (.tmp 36)) none]
def r12_5 : List PS := [.mk (some 37) (.move (.tmp 5)) none,
  .mk (some 38) (.move (.tmp 37)) none,
  .mk (some 39) (.move (.tmp 8)) (some (38, false)),
  .mk (some 40) (.pick (.tmp 38) (.const (.bool true)) (.tmp 39)) none,
  .mk (some 41) (.move (.tmp 40)) none,
  .mk (some 42) (.move (.tmp 11)) (some (41, false)),
  .mk (some 43) (.pick (.tmp 41) (.const (.bool true)) (.tmp 42)) none,
  .mk (some 44) (.move (.tmp 43)) none,
  .mk (some 45) (.move (.tmp 13)) (some (44, false)),
  .mk (some 46) (.pick (.tmp 44) (.const (.bool true)) (.tmp 45)) none,
  .mk (some 47) (.move (.tmp 46)) none,
  .mk (some 48) (.move (.tmp 0)) (some (47, false)),
  .mk (some 49) (.binOp .eql 3 (.tmp 48) (.const (.int .i64 65139)) 3) (some (47, false)),
  .mk (some 50) (.pick (.tmp 47) (.const (.bool true)) (.tmp 49)) none,
  .mk (some 2) (.assign (.tmp 50)) none]
def c12 : PC := (.seq (.reg false r12_0) (.seq (.reg false r12_1) (.seq (.reg false r12_2) (.seq (.reg false r12_3) (.seq (.reg false r12_4) (.seq (.reg false r12_5) .ret))))))
theorem e12 {args : List PV} {h : Heap} {K : PV → Heap → Prop} (hl : args.length = 1) (s : pwp Try.prog [] c12 (fin Try.prog [.tmp 2] h K) (slots0 (olds args)) h) : CanP Try.prog 12 args h K :=
  can_of2 (n := 51) mixed Try.func12 rfl (by kernel_rfl) (by rw [hl]; kernel_rfl) rfl (by kernel_rfl) s
/-! ### slices.BinarySearchFunc[[]naskh.api.Letter,naskh.api.Letter,int]: function 32 -/
def r32_0 : List PS := [.mk (some 6) (.assign (.const (.int .i64 0))) none,
  .mk (some 7) (.assign (.const (.bool false))) none]
def r32_1 : List PS := [.mk (some 12) (.move (.tmp 0)) none,
  .mk (some 13) (.call ⟨(.builtin .len), #[(.tmp 12)], #[40]⟩) none,
  .mk (some 8) (.assign (.tmp 13)) none]
def r32_2 : List PS := [.mk (some 14) (.move (.tmp 8)) none,
  .mk (some 9) (.assign (.const (.int .i64 0))) none,
  .mk (some 10) (.assign (.tmp 14)) none]
def r32_3 : List PS := [.mk (some 15) (.move (.tmp 9)) none,
  .mk (some 16) (.move (.tmp 10)) none,
  .mk (some 17) (.binOp .lss 3 (.tmp 15) (.tmp 16) 3) none]
def r32_4 : List PS := [.mk (some 18) (.move (.tmp 9)) none,
  .mk (some 19) (.move (.tmp 10)) none,
  .mk (some 20) (.binOp .add 3 (.tmp 18) (.tmp 19) 3) none,
  .mk (some 21) (.convert 3 63 (.tmp 20)) none,
  .mk (some 22) (.binOp .shr 63 (.tmp 21) (.const (.int .u64 1)) 63) none,
  .mk (some 23) (.convert 63 3 (.tmp 22)) none,
  .mk (some 11) (.assign (.tmp 23)) none]
def r32_5 : List PS := [.mk (some 24) (.move (.tmp 2)) none,
  .mk (some 25) (.move (.tmp 0)) none,
  .mk (some 26) (.move (.tmp 11)) none,
  .mk (some 27) (.indexAddr 40 (.tmp 25) (.tmp 26)) none,
  .mk (some 28) (.load 44 (.tmp 27)) none,
  .mk (some 29) (.move (.tmp 1)) none,
  .mk (some 30) (.call ⟨(.value (.tmp 24)), #[(.tmp 28), (.tmp 29)], #[44, 3]⟩) none,
  .mk (some 31) (.binOp .lss 3 (.tmp 30) (.const (.int .i64 0)) 3) none]
def r32_6 : List PS := [.mk (some 32) (.move (.tmp 11)) none,
  .mk (some 33) (.binOp .add 3 (.tmp 32) (.const (.int .i64 1)) 3) none,
  .mk (some 9) (.assign (.tmp 33)) none]
def r32_7 : List PS := [.mk (some 34) (.move (.tmp 11)) none,
  .mk (some 10) (.assign (.tmp 34)) none]
def r32_8 : List PS := [.mk (some 35) (.move (.tmp 9)) none,
  .mk (some 36) (.move (.tmp 9)) none,
  .mk (some 37) (.move (.tmp 8)) none,
  .mk (some 38) (.binOp .lss 3 (.tmp 36) (.tmp 37) 3) none,
  .mk (some 39) (.move (.tmp 38)) none,
  .mk (some 40) (.move (.tmp 2)) (some (39, true)),
  .mk (some 41) (.move (.tmp 0)) (some (39, true)),
  .mk (some 42) (.move (.tmp 9)) (some (39, true)),
  .mk (some 43) (.indexAddr 40 (.tmp 41) (.tmp 42)) (some (39, true)),
  .mk (some 44) (.load 44 (.tmp 43)) (some (39, true)),
  .mk (some 45) (.move (.tmp 1)) (some (39, true)),
  .mk (some 46) (.call ⟨(.value (.tmp 40)), #[(.tmp 44), (.tmp 45)], #[44, 3]⟩) (some (39, true)),
  .mk (some 47) (.binOp .eql 3 (.tmp 46) (.const (.int .i64 0)) 3) (some (39, true)),
  .mk (some 48) (.pick (.tmp 39) (.tmp 47) (.const (.bool false))) none,
  .mk (some 6) (.assign (.tmp 35)) none,
  .mk (some 7) (.assign (.tmp 48)) none]
def c32 : PC := (.seq (.reg false r32_0) (.seq (.reg false r32_1) (.seq (.reg false r32_2) (.seq (.block 0 (.loop (.seq (.seq (.reg false r32_3) (.cond (.tmp 17) .skip (.exit 0))) (.block 1 (.seq (.reg false r32_4) (.seq (.reg false r32_5) (.cond (.tmp 31) (.reg false r32_6) (.reg false r32_7)))))))) (.seq (.reg false r32_8) .ret)))))
theorem e32 {args : List PV} {h : Heap} {K : PV → Heap → Prop} (hl : args.length = 3) (s : pwp Try.prog [] c32 (fin Try.prog [.tmp 6, .tmp 7] h K) (slots0 (olds args)) h) : CanP Try.prog 32 args h K :=
  can_of2 (n := 49) mixed Try.func32 rfl (by kernel_rfl) (by rw [hl]; kernel_rfl) rfl (by kernel_rfl) s
/-! ### naskh.forms.Form$1: function 33 -/
def r33_0 : List PS := [.mk (some 2) (.box 44 (.tmp 0)) none,
  .mk (some 4) (.assign (.const (.int .i64 0))) none]
def r33_1 : List PS := [.mk (some 5) (.fieldAddr 44 (.tmp 2) 0) none,
  .mk (some 6) (.load 3 (.tmp 5)) none,
  .mk (some 7) (.move (.tmp 1)) none,
  .mk (some 8) (.call ⟨(.builtin .max), #[(.tmp 7), (.const (.int .i64 0))], #[3, 3]⟩) none,
  .mk (some 9) (.binOp .sub 3 (.tmp 6) (.tmp 8) 3) none,
  .mk (some 4) (.assign (.tmp 9)) none]
def c33 : PC := (.seq (.reg false r33_0) (.seq (.reg false r33_1) .ret))
theorem e33 {args : List PV} {h : Heap} {K : PV → Heap → Prop} (hl : args.length = 2) (s : pwp Try.prog [] c33 (fin Try.prog [.tmp 4] h K) (slots0 (olds args)) h) : CanP Try.prog 33 args h K :=
  can_of2 (n := 10) mixed Try.func33 rfl (by kernel_rfl) (by rw [hl]; kernel_rfl) rfl (by kernel_rfl) s
/-! ### naskh.forms.Form: function 22 -/
def r22_0 : List PS := [.mk (some 4) (.assign (.const (.int .i64 0))) none,
  .mk (some 5) (.assign (.const (.bool false))) none]
def r22_1 : List PS := [.mk (some 10) (.move (.tmp 1)) none,
  .mk (some 11) (.binOp .lss 3 (.tmp 10) (.const (.int .i64 1)) 3) none,
  .mk (some 12) (.move (.tmp 11)) none,
  .mk (some 13) (.move (.tmp 1)) (some (12, false)),
  .mk (some 14) (.binOp .gtr 3 (.tmp 13) (.const (.int .i64 4)) 3) (some (12, false)),
  .mk (some 15) (.pick (.tmp 12) (.const (.bool true)) (.tmp 14)) none]
def r22_2 : List PS := [.mk (some 4) (.assign (.const (.int .i64 0))) none,
  .mk (some 5) (.assign (.const (.bool false))) none]
def r22_3 : List PS := [.mk (some 16) (.call ⟨(.value (.func 27)), #[], #[]⟩) none,
  .mk (some 6) (.assign (.tmp 16)) none]
def r22_4 : List PS := [.mk (some 18) (.move (.tmp 6)) none,
  .mk (some 19) (.move (.tmp 0)) none,
  .mk (some 20) (.call ⟨(.value (.func 32)), #[(.tmp 18), (.tmp 19), (.func 33)], #[40, 3, 60]⟩) none,
  .mk (some 17) (.move (.tmp 20)) none,
  .mk (some 21) (.extract (.tmp 17) 0) none,
  .mk (some 22) (.extract (.tmp 17) 1) none,
  .mk (some 7) (.assign (.tmp 21)) none,
  .mk (some 8) (.assign (.tmp 22)) none]
def r22_5 : List PS := [.mk (some 23) (.move (.tmp 8)) none,
  .mk (some 24) (.unOp .not 4 (.tmp 23)) none,
  .mk (some 25) (.move (.tmp 24)) none,
  .mk (some 26) (.move (.tmp 6)) (some (25, false)),
  .mk (some 27) (.move (.tmp 7)) (some (25, false)),
  .mk (some 28) (.indexAddr 40 (.tmp 26) (.tmp 27)) (some (25, false)),
  .mk (some 29) (.fieldAddr 44 (.tmp 28) 0) (some (25, false)),
  .mk (some 30) (.load 3 (.tmp 29)) (some (25, false)),
  .mk (some 31) (.move (.tmp 0)) (some (25, false)),
  .mk (some 32) (.binOp .neq 3 (.tmp 30) (.tmp 31) 3) (some (25, false)),
  .mk (some 33) (.pick (.tmp 25) (.const (.bool true)) (.tmp 32)) none]
def r22_6 : List PS := [.mk (some 4) (.assign (.const (.int .i64 0))) none,
  .mk (some 5) (.assign (.const (.bool false))) none]
def r22_7 : List PS := [.mk (some 34) (.move (.tmp 6)) none,
  .mk (some 35) (.move (.tmp 7)) none,
  .mk (some 36) (.move (.tmp 1)) none,
  .mk (some 37) (.binOp .sub 3 (.tmp 36) (.const (.int .i64 1)) 3) none,
  .mk (some 38) (.indexAddr 40 (.tmp 34) (.tmp 35)) none,
  .mk (some 39) (.fieldAddr 44 (.tmp 38) 1) none,
  .mk (some 40) (.indexAddr 42 (.tmp 39) (.tmp 37)) none,
  .mk (some 41) (.load 3 (.tmp 40)) none,
  .mk (some 9) (.assign (.tmp 41)) none]
def r22_8 : List PS := [.mk (some 42) (.move (.tmp 9)) none,
  .mk (some 43) (.move (.tmp 9)) none,
  .mk (some 44) (.binOp .neq 3 (.tmp 43) (.const (.int .i64 0)) 3) none,
  .mk (some 4) (.assign (.tmp 42)) none,
  .mk (some 5) (.assign (.tmp 44)) none]
def c22 : PC := (.seq (.reg false r22_0) (.seq (.seq (.reg false r22_1) (.cond (.tmp 15) (.seq (.reg false r22_2) .ret) .skip)) (.seq (.reg false r22_3) (.seq (.reg false r22_4) (.seq (.seq (.reg false r22_5) (.cond (.tmp 33) (.seq (.reg false r22_6) .ret) .skip)) (.seq (.reg false r22_7) (.seq (.reg false r22_8) .ret)))))))
theorem e22 {args : List PV} {h : Heap} {K : PV → Heap → Prop} (hl : args.length = 2) (s : pwp Try.prog [] c22 (fin Try.prog [.tmp 4, .tmp 5] h K) (slots0 (olds args)) h) : CanP Try.prog 22 args h K :=
  can_of2 (n := 45) mixed Try.func22 rfl (by kernel_rfl) (by rw [hl]; kernel_rfl) rfl (by kernel_rfl) s
/-! ### naskh.naskhlaw09.awake: function 13 -/
def r13_0 : List PS := [.mk (some 0) (.assign (.const (.bool false))) none]
def r13_1 : List PS := [.mk (some 7) (.call ⟨(.value (.func 22)), #[(.const (.int .i64 1576)), (.const (.int .i64 3))], #[3, 3]⟩) none,
  .mk (some 6) (.move (.tmp 7)) none,
  .mk (some 8) (.extract (.tmp 6) 0) none,
  .mk (some 9) (.extract (.tmp 6) 1) none,
  .mk (some 1) (.assign (.tmp 8)) none,
  .mk (some 2) (.assign (.tmp 9)) none]
def r13_2 : List PS := [.mk (some 11) (.call ⟨(.value (.func 9)), #[(.const (.int .i64 65276))], #[3]⟩) none,
  .mk (some 10) (.move (.tmp 11)) none,
  .mk (some 12) (.extract (.tmp 10) 0) none,
  .mk (some 13) (.extract (.tmp 10) 1) none,
  .mk (some 14) (.extract (.tmp 10) 2) none,
  .mk (some 3) (.assign (.tmp 12)) none,
  .mk (some 4) (.assign (.tmp 13)) none,
  .mk (some 5) (.assign (.tmp 14)) none]
def r13_3 : List PS := [.mk (some 15) (.move (.tmp 2)) none,
  .mk (some 16) (.move (.tmp 15)) none,
  .mk (some 17) (.move (.tmp 1)) (some (16, true)),
  .mk (some 18) (.binOp .eql 3 (.tmp 17) (.const (.int .i64 65169)) 3) (some (16, true)),
  .mk (some 19) (.pick (.tmp 16) (.tmp 18) (.const (.bool false))) none,
  .mk (some 20) (.move (.tmp 19)) none,
  .mk (some 21) (.move (.tmp 5)) (some (20, true)),
  .mk (some 22) (.pick (.tmp 20) (.tmp 21) (.const (.bool false))) none,
  .mk (some 23) (.move (.tmp 22)) none,
  .mk (some 24) (.move (.tmp 3)) (some (23, true)),
  .mk (some 25) (.binOp .eql 3 (.tmp 24) (.const (.int .i64 1575)) 3) (some (23, true)),
  .mk (some 26) (.pick (.tmp 23) (.tmp 25) (.const (.bool false))) none,
  .mk (some 27) (.move (.tmp 26)) none,
  .mk (some 28) (.move (.tmp 4)) (some (27, true)),
  .mk (some 29) (.binOp .eql 3 (.tmp 28) (.const (.int .i64 2)) 3) (some (27, true)),
  .mk (some 30) (.pick (.tmp 27) (.tmp 29) (.const (.bool false))) none,
  .mk (some 31) (.move (.tmp 30)) none,
  .mk (some 32) (.call ⟨(.value (.func 11)), #[(.const (.int .i64 65139))], #[3]⟩) (some (31, true)),
  .mk (some 33) (.pick (.tmp 31) (.tmp 32) (.const (.bool false))) none,
  .mk (some 0) (.assign (.tmp 33)) none]
def c13 : PC := (.seq (.reg false r13_0) (.seq (.reg false r13_1) (.seq (.reg false r13_2) (.seq (.reg false r13_3) .ret))))
theorem e13 {args : List PV} {h : Heap} {K : PV → Heap → Prop} (hl : args.length = 0) (s : pwp Try.prog [] c13 (fin Try.prog [.tmp 0] h K) (slots0 (olds args)) h) : CanP Try.prog 13 args h K :=
  can_of2 (n := 34) mixed Try.func13 rfl (by kernel_rfl) (by rw [hl]; kernel_rfl) rfl (by kernel_rfl) s
/-! ### naskh.naskhlaw09.FormsTakes: function 3 -/
def r3_0 : List PS := [.mk (some 2) (.assign (.const (.bool false))) none]
def r3_1 : List PS := [.mk (some 16) (.move (.tmp 0)) none,
  .mk (some 17) (.call ⟨(.value (.func 7)), #[(.tmp 16)], #[3]⟩) none,
  .mk (some 15) (.move (.tmp 17)) none,
  .mk (some 18) (.extract (.tmp 15) 0) none,
  .mk (some 19) (.extract (.tmp 15) 1) none,
  .mk (some 20) (.extract (.tmp 15) 2) none,
  .mk (some 3) (.assign (.tmp 18)) none,
  .mk (some 4) (.assign (.tmp 19)) none,
  .mk (some 5) (.assign (.tmp 20)) none]
def r3_2 : List PS := [.mk (some 22) (.move (.tmp 0)) none,
  .mk (some 23) (.call ⟨(.value (.func 8)), #[(.tmp 22)], #[3]⟩) none,
  .mk (some 21) (.move (.tmp 23)) none,
  .mk (some 24) (.extract (.tmp 21) 0) none,
  .mk (some 25) (.extract (.tmp 21) 1) none,
  .mk (some 26) (.extract (.tmp 21) 2) none,
  .mk (some 6) (.assign (.tmp 24)) none,
  .mk (some 7) (.assign (.tmp 25)) none,
  .mk (some 8) (.assign (.tmp 26)) none]
def r3_3 : List PS := [.mk (some 28) (.move (.tmp 0)) none,
  .mk (some 29) (.call ⟨(.value (.func 9)), #[(.tmp 28)], #[3]⟩) none,
  .mk (some 27) (.move (.tmp 29)) none,
  .mk (some 30) (.extract (.tmp 27) 0) none,
  .mk (some 31) (.extract (.tmp 27) 1) none,
  .mk (some 32) (.extract (.tmp 27) 2) none,
  .mk (some 9) (.assign (.tmp 30)) none,
  .mk (some 10) (.assign (.tmp 31)) none,
  .mk (some 11) (.assign (.tmp 32)) none]
def r3_4 : List PS := [.mk (some 34) (.move (.tmp 0)) none,
  .mk (some 35) (.call ⟨(.value (.func 10)), #[(.tmp 34)], #[3]⟩) none,
  .mk (some 33) (.move (.tmp 35)) none,
  .mk (some 36) (.extract (.tmp 33) 0) none,
  .mk (some 37) (.extract (.tmp 33) 1) none,
  .mk (some 38) (.extract (.tmp 33) 2) none,
  .mk (some 12) (.assign (.tmp 36)) none,
  .mk (some 13) (.assign (.tmp 37)) none,
  .mk (some 14) (.assign (.tmp 38)) none]
def r3_5 : List PS := [.mk (some 39) (.move (.tmp 3)) none,
  .mk (some 40) (.move (.tmp 6)) none,
  .mk (some 41) (.binOp .eql 3 (.tmp 39) (.tmp 40) 3) none,
  .mk (some 42) (.move (.tmp 41)) none,
  .mk (some 43) (.move (.tmp 4)) (some (42, true)),
  .mk (some 44) (.move (.tmp 7)) (some (42, true)),
  .mk (some 45) (.binOp .eql 3 (.tmp 43) (.tmp 44) 3) (some (42, true)),
  .mk (some 46) (.pick (.tmp 42) (.tmp 45) (.const (.bool false))) none,
  .mk (some 47) (.move (.tmp 46)) none,
  .mk (some 48) (.move (.tmp 5)) (some (47, true)),
  .mk (some 49) (.move (.tmp 8)) (some (47, true)),
  .mk (some 50) (.binOp .eql 4 (.tmp 48) (.tmp 49) 4) (some (47, true)),
  .mk (some 51) (.pick (.tmp 47) (.tmp 50) (.const (.bool false))) none,
  .mk (some 52) (.move (.tmp 51)) none,
  .mk (some 53) (.move (.tmp 9)) (some (52, true)),
  .mk (some 54) (.move (.tmp 12)) (some (52, true)),
  .mk (some 55) (.binOp .eql 3 (.tmp 53) (.tmp 54) 3) (some (52, true)),
  .mk (some 56) (.pick (.tmp 52) (.tmp 55) (.const (.bool false))) none,
  .mk (some 57) (.move (.tmp 56)) none,
  .mk (some 58) (.move (.tmp 10)) (some (57, true)),
  .mk (some 59) (.move (.tmp 13)) (some (57, true)),
  .mk (some 60) (.binOp .eql 3 (.tmp 58) (.tmp 59) 3) (some (57, true)),
  .mk (some 61) (.pick (.tmp 57) (.tmp 60) (.const (.bool false))) none,
  .mk (some 62) (.move (.tmp 61)) none,
  .mk (some 63) (.move (.tmp 11)) (some (62, true)),
  .mk (some 64) (.move (.tmp 14)) (some (62, true)),
  .mk (some 65) (.binOp .eql 4 (.tmp 63) (.tmp 64) 4) (some (62, true)),
  .mk (some 66) (.pick (.tmp 62) (.tmp 65) (.const (.bool false))) none,
  .mk (some 67) (.move (.tmp 66)) none,
  .mk (some 68) (.move (.tmp 0)) (some (67, true)),
  .mk (some 69) (.call ⟨(.value (.func 11)), #[(.tmp 68)], #[3]⟩) (some (67, true)),
  .mk (some 70) (.move (.tmp 0)) (some (67, true)),
  .mk (some 71) (.call ⟨(.value (.func 12)), #[(.tmp 70)], #[3]⟩) (some (67, true)),
  .mk (some 72) (.binOp .eql 4 (.tmp 69) (.tmp 71) 4) (some (67, true)),
  .mk (some 73) (.pick (.tmp 67) (.tmp 72) (.const (.bool false))) none,
  .mk (some 74) (.move (.tmp 73)) none,
  .mk (some 75) (.call ⟨(.value (.func 13)), #[], #[]⟩) (some (74, true)),
  .mk (some 76) (.pick (.tmp 74) (.tmp 75) (.const (.bool false))) none,
  .mk (some 2) (.assign (.tmp 76)) none]
def c3 : PC := (.seq (.reg false r3_0) (.seq (.reg false r3_1) (.seq (.reg false r3_2) (.seq (.reg false r3_3) (.seq (.reg false r3_4) (.seq (.reg false r3_5) .ret))))))
theorem e3 {args : List PV} {h : Heap} {K : PV → Heap → Prop} (hl : args.length = 1) (s : pwp Try.prog [] c3 (fin Try.prog [.tmp 2] h K) (slots0 (olds args)) h) : CanP Try.prog 3 args h K :=
  can_of2 (n := 77) mixed Try.func3 rfl (by kernel_rfl) (by rw [hl]; kernel_rfl) rfl (by kernel_rfl) s
/-! ### naskh.forms.Accent: function 14 -/
def r14_0 : List PS := [.mk (some 4) (.assign (.const (.int .i64 0))) none,
  .mk (some 5) (.assign (.const (.bool false))) none]
def r14_1 : List PS := [.mk (some 8) (.call ⟨(.value (.func 30)), #[], #[]⟩) none,
  .mk (some 9) (.call ⟨(.builtin .len), #[(.tmp 8)], #[51]⟩) none,
  .mk (some 10) (.move (.const (.int .i64 0))) none]
def r14_2 : List PS := [.mk (some 11) (.binOp .lss 3 (.tmp 10) (.tmp 9) 3) none]
def r14_3 : List PS := [.mk (some 12) (.indexAddr 51 (.tmp 8) (.tmp 10)) none,
  .mk (some 13) (.load 54 (.tmp 12)) none,
  .mk (some 7) (.alloc 54) none,
  .mk none (.store 54 (.tmp 7) (.tmp 13)) none,
  .frz 7]
def r14_4 : List PS := [.mk (some 17) (.fieldAddr 54 (.tmp 7) 0) none,
  .mk (some 18) (.load 3 (.tmp 17)) none,
  .mk (some 19) (.move (.tmp 0)) none,
  .mk (some 20) (.binOp .neq 3 (.tmp 18) (.tmp 19) 3) none,
  .mk (some 16) (.assign (.tmp 20)) none]
def r14_5 : List PS := [.mk (some 22) (.move (.tmp 1)) none,
  .mk (some 21) (.assign (.tmp 22)) none]
def r14_6 : List PS := [.mk (some 23) (.fieldAddr 54 (.tmp 7) 2) none,
  .mk (some 24) (.load 3 (.tmp 23)) none,
  .mk (some 25) (.fieldAddr 54 (.tmp 7) 2) none,
  .mk (some 26) (.load 3 (.tmp 25)) none,
  .mk (some 27) (.binOp .neq 3 (.tmp 26) (.const (.int .i64 0)) 3) none,
  .mk (some 4) (.assign (.tmp 24)) none,
  .mk (some 5) (.assign (.tmp 27)) none]
def r14_7 : List PS := [.mk (some 14) (.fieldAddr 54 (.tmp 7) 1) none,
  .mk (some 15) (.load 3 (.tmp 14)) none,
  .mk (some 4) (.assign (.tmp 15)) none,
  .mk (some 5) (.assign (.const (.bool true))) none]
def r14_8 : List PS := [.mk (some 28) (.binOp .add 3 (.tmp 10) (.const (.int .i64 1)) 3) none,
  .mk (some 10) (.move (.tmp 28)) none]
def r14_9 : List PS := [.mk (some 4) (.assign (.const (.int .i64 0))) none,
  .mk (some 5) (.assign (.const (.bool false))) none]
def c14 : PC := (.seq (.reg false r14_0) (.seq (.seq (.reg false r14_1) (.block 0 (.loop (.seq (.reg false r14_2) (.seq (.cond (.tmp 11) .skip (.exit 0)) (.seq (.block 1 (.seq (.reg false r14_3) (.block 2 (.seq (.reg false r14_4) (.cond (.tmp 16) .skip (.seq (.reg false r14_5) (.cond (.tmp 21) (.seq (.reg true r14_6) .ret) (.seq (.reg false r14_7) .ret)))))))) (.reg false r14_8))))))) (.seq (.reg false r14_9) .ret)))
theorem e14 {args : List PV} {h : Heap} {K : PV → Heap → Prop} (hl : args.length = 2) (s : pwp Try.prog [7] c14 (fin Try.prog [.tmp 4, .tmp 5] h K) (slots0 (olds args)) h) : CanP Try.prog 14 args h K :=
  can_of2 (n := 29) mixed Try.func14 rfl (by kernel_rfl) (by rw [hl]; kernel_rfl) rfl (by kernel_rfl) s
/-! ### naskh.naskhref09.Accent: function 15 -/
def r15_0 : List PS := [.mk (some 4) (.assign (.const (.int .i64 0))) none,
  .mk (some 5) (.assign (.const (.bool false))) none]
def r15_1 : List PS := [.mk (some 8) (.call ⟨(.value (.func 30)), #[], #[]⟩) none,
  .mk (some 6) (.assign (.tmp 8)) none]
def r15_2 : List PS := [.mk (some 7) (.assign (.const (.int .i64 0))) none]
def r15_3 : List PS := [.mk (some 9) (.move (.tmp 7)) none,
  .mk (some 10) (.move (.tmp 6)) none,
  .mk (some 11) (.call ⟨(.builtin .len), #[(.tmp 10)], #[51]⟩) none,
  .mk (some 12) (.binOp .lss 3 (.tmp 9) (.tmp 11) 3) none]
def r15_4 : List PS := [.mk (some 15) (.move (.tmp 6)) none,
  .mk (some 16) (.move (.tmp 7)) none,
  .mk (some 17) (.indexAddr 51 (.tmp 15) (.tmp 16)) none,
  .mk (some 18) (.fieldAddr 54 (.tmp 17) 0) none,
  .mk (some 19) (.load 3 (.tmp 18)) none,
  .mk (some 20) (.move (.tmp 0)) none,
  .mk (some 21) (.binOp .neq 3 (.tmp 19) (.tmp 20) 3) none]
def r15_5 : List PS := [.mk (some 22) (.move (.tmp 1)) none,
  .mk (some 23) (.unOp .not 4 (.tmp 22)) none]
def r15_6 : List PS := [.mk (some 24) (.move (.tmp 6)) none,
  .mk (some 25) (.move (.tmp 7)) none,
  .mk (some 26) (.indexAddr 51 (.tmp 24) (.tmp 25)) none,
  .mk (some 27) (.fieldAddr 54 (.tmp 26) 1) none,
  .mk (some 28) (.load 3 (.tmp 27)) none,
  .mk (some 4) (.assign (.tmp 28)) none,
  .mk (some 5) (.assign (.const (.bool true))) none]
def r15_7 : List PS := [.mk (some 29) (.move (.tmp 6)) none,
  .mk (some 30) (.move (.tmp 7)) none,
  .mk (some 31) (.indexAddr 51 (.tmp 29) (.tmp 30)) none,
  .mk (some 32) (.fieldAddr 54 (.tmp 31) 2) none,
  .mk (some 33) (.load 3 (.tmp 32)) none,
  .mk (some 34) (.move (.tmp 6)) none,
  .mk (some 35) (.move (.tmp 7)) none,
  .mk (some 36) (.indexAddr 51 (.tmp 34) (.tmp 35)) none,
  .mk (some 37) (.fieldAddr 54 (.tmp 36) 2) none,
  .mk (some 38) (.load 3 (.tmp 37)) none,
  .mk (some 39) (.binOp .neq 3 (.tmp 38) (.const (.int .i64 0)) 3) none,
  .mk (some 4) (.assign (.tmp 33)) none,
  .mk (some 5) (.assign (.tmp 39)) none]
def r15_8 : List PS := [.mk (some 13) (.move (.tmp 7)) none,
  .mk (some 14) (.binOp .add 3 (.tmp 13) (.const (.int .i64 1)) 3) none,
  .mk (some 7) (.assign (.tmp 14)) none]
def r15_9 : List PS := [.mk (some 4) (.assign (.const (.int .i64 0))) none,
  .mk (some 5) (.assign (.const (.bool false))) none]
def c15 : PC := (.seq (.reg false r15_0) (.seq (.reg false r15_1) (.seq (.seq (.reg false r15_2) (.block 0 (.loop (.seq (.seq (.reg false r15_3) (.cond (.tmp 12) .skip (.exit 0))) (.seq (.block 1 (.seq (.seq (.reg false r15_4) (.cond (.tmp 21) (.exit 1) .skip)) (.seq (.seq (.reg false r15_5) (.cond (.tmp 23) (.seq (.reg false r15_6) .ret) .skip)) (.seq (.reg true r15_7) .ret)))) (.reg false r15_8)))))) (.seq (.reg false r15_9) .ret))))
theorem e15 {args : List PV} {h : Heap} {K : PV → Heap → Prop} (hl : args.length = 2) (s : pwp Try.prog [] c15 (fin Try.prog [.tmp 4, .tmp 5] h K) (slots0 (olds args)) h) : CanP Try.prog 15 args h K :=
  can_of2 (n := 40) mixed Try.func15 rfl (by kernel_rfl) (by rw [hl]; kernel_rfl) rfl (by kernel_rfl) s
/-! ### naskh.forms.Pile: function 18 -/
def r18_0 : List PS := [.mk (some 2) (.assign (.const (.int .i64 0))) none,
  .mk (some 3) (.assign (.const (.bool false))) none]
def r18_1 : List PS := [.mk (some 6) (.call ⟨(.value (.func 31)), #[], #[]⟩) none,
  .mk (some 7) (.call ⟨(.builtin .len), #[(.tmp 6)], #[55]⟩) none,
  .mk (some 8) (.move (.const (.int .i64 0))) none]
def r18_2 : List PS := [.mk (some 9) (.binOp .lss 3 (.tmp 8) (.tmp 7) 3) none]
def r18_3 : List PS := [.mk (some 10) (.indexAddr 55 (.tmp 6) (.tmp 8)) none,
  .mk (some 11) (.load 58 (.tmp 10)) none,
  .mk (some 5) (.alloc 58) none,
  .mk none (.store 58 (.tmp 5) (.tmp 11)) none,
  .frz 5]
def r18_4 : List PS := [.mk (some 12) (.fieldAddr 58 (.tmp 5) 0) none,
  .mk (some 13) (.load 3 (.tmp 12)) none,
  .mk (some 14) (.move (.tmp 0)) none,
  .mk (some 15) (.binOp .eql 3 (.tmp 13) (.tmp 14) 3) none]
def r18_5 : List PS := [.mk (some 16) (.fieldAddr 58 (.tmp 5) 1) none,
  .mk (some 17) (.load 3 (.tmp 16)) none,
  .mk (some 2) (.assign (.tmp 17)) none,
  .mk (some 3) (.assign (.const (.bool true))) none]
def r18_6 : List PS := [.mk (some 18) (.binOp .add 3 (.tmp 8) (.const (.int .i64 1)) 3) none,
  .mk (some 8) (.move (.tmp 18)) none]
def r18_7 : List PS := [.mk (some 2) (.assign (.const (.int .i64 0))) none,
  .mk (some 3) (.assign (.const (.bool false))) none]
def c18 : PC := (.seq (.reg false r18_0) (.seq (.seq (.reg false r18_1) (.block 0 (.loop (.seq (.reg false r18_2) (.seq (.cond (.tmp 9) .skip (.exit 0)) (.seq (.block 1 (.seq (.reg false r18_3) (.seq (.reg false r18_4) (.cond (.tmp 15) (.seq (.reg false r18_5) .ret) .skip)))) (.reg false r18_6))))))) (.seq (.reg false r18_7) .ret)))
theorem e18 {args : List PV} {h : Heap} {K : PV → Heap → Prop} (hl : args.length = 1) (s : pwp Try.prog [5] c18 (fin Try.prog [.tmp 2, .tmp 3] h K) (slots0 (olds args)) h) : CanP Try.prog 18 args h K :=
  can_of2 (n := 19) mixed Try.func18 rfl (by kernel_rfl) (by rw [hl]; kernel_rfl) rfl (by kernel_rfl) s
/-! ### naskh.naskhref09.Pile: function 19 -/
def r19_0 : List PS := [.mk (some 2) (.assign (.const (.int .i64 0))) none,
  .mk (some 3) (.assign (.const (.bool false))) none]
def r19_1 : List PS := [.mk (some 6) (.call ⟨(.value (.func 31)), #[], #[]⟩) none,
  .mk (some 4) (.assign (.tmp 6)) none]
def r19_2 : List PS := [.mk (some 5) (.assign (.const (.int .i64 0))) none]
def r19_3 : List PS := [.mk (some 7) (.move (.tmp 5)) none,
  .mk (some 8) (.move (.tmp 4)) none,
  .mk (some 9) (.call ⟨(.builtin .len), #[(.tmp 8)], #[55]⟩) none,
  .mk (some 10) (.binOp .lss 3 (.tmp 7) (.tmp 9) 3) none]
def r19_4 : List PS := [.mk (some 13) (.move (.tmp 4)) none,
  .mk (some 14) (.move (.tmp 5)) none,
  .mk (some 15) (.indexAddr 55 (.tmp 13) (.tmp 14)) none,
  .mk (some 16) (.fieldAddr 58 (.tmp 15) 0) none,
  .mk (some 17) (.load 3 (.tmp 16)) none,
  .mk (some 18) (.move (.tmp 0)) none,
  .mk (some 19) (.binOp .eql 3 (.tmp 17) (.tmp 18) 3) none]
def r19_5 : List PS := [.mk (some 20) (.move (.tmp 4)) none,
  .mk (some 21) (.move (.tmp 5)) none,
  .mk (some 22) (.indexAddr 55 (.tmp 20) (.tmp 21)) none,
  .mk (some 23) (.fieldAddr 58 (.tmp 22) 1) none,
  .mk (some 24) (.load 3 (.tmp 23)) none,
  .mk (some 2) (.assign (.tmp 24)) none,
  .mk (some 3) (.assign (.const (.bool true))) none]
def r19_6 : List PS := [.mk (some 11) (.move (.tmp 5)) none,
  .mk (some 12) (.binOp .add 3 (.tmp 11) (.const (.int .i64 1)) 3) none,
  .mk (some 5) (.assign (.tmp 12)) none]
def r19_7 : List PS := [.mk (some 2) (.assign (.const (.int .i64 0))) none,
  .mk (some 3) (.assign (.const (.bool false))) none]
def c19 : PC := (.seq (.reg false r19_0) (.seq (.reg false r19_1) (.seq (.seq (.reg false r19_2) (.block 0 (.loop (.seq (.seq (.reg false r19_3) (.cond (.tmp 10) .skip (.exit 0))) (.seq (.block 1 (.seq (.reg false r19_4) (.cond (.tmp 19) (.seq (.reg false r19_5) .ret) .skip))) (.reg false r19_6)))))) (.seq (.reg false r19_7) .ret))))
theorem e19 {args : List PV} {h : Heap} {K : PV → Heap → Prop} (hl : args.length = 1) (s : pwp Try.prog [] c19 (fin Try.prog [.tmp 2, .tmp 3] h K) (slots0 (olds args)) h) : CanP Try.prog 19 args h K :=
  can_of2 (n := 25) mixed Try.func19 rfl (by kernel_rfl) (by rw [hl]; kernel_rfl) rfl (by kernel_rfl) s
/-! ### naskh.naskhlaw09.FormsMarks: function 4 -/
def r4_0 : List PS := [.mk (some 4) (.assign (.const (.bool false))) none]
def r4_1 : List PS := [.mk (some 24) (.move (.tmp 0)) none,
  .mk (some 25) (.move (.tmp 1)) none,
  .mk (some 26) (.call ⟨(.value (.func 14)), #[(.tmp 24), (.tmp 25)], #[3, 4]⟩) none,
  .mk (some 23) (.move (.tmp 26)) none,
  .mk (some 27) (.extract (.tmp 23) 0) none,
  .mk (some 28) (.extract (.tmp 23) 1) none,
  .mk (some 5) (.assign (.tmp 27)) none,
  .mk (some 6) (.assign (.tmp 28)) none]
def r4_2 : List PS := [.mk (some 30) (.move (.tmp 0)) none,
  .mk (some 31) (.move (.tmp 1)) none,
  .mk (some 32) (.call ⟨(.value (.func 15)), #[(.tmp 30), (.tmp 31)], #[3, 4]⟩) none,
  .mk (some 29) (.move (.tmp 32)) none,
  .mk (some 33) (.extract (.tmp 29) 0) none,
  .mk (some 34) (.extract (.tmp 29) 1) none,
  .mk (some 7) (.assign (.tmp 33)) none,
  .mk (some 8) (.assign (.tmp 34)) none]
def r4_3 : List PS := [.mk (some 36) (.move (.tmp 0)) none,
  .mk (some 37) (.call ⟨(.value (.func 16)), #[(.tmp 36)], #[3]⟩) none,
  .mk (some 35) (.move (.tmp 37)) none,
  .mk (some 38) (.extract (.tmp 35) 0) none,
  .mk (some 39) (.extract (.tmp 35) 1) none,
  .mk (some 40) (.extract (.tmp 35) 2) none,
  .mk (some 9) (.assign (.tmp 38)) none,
  .mk (some 10) (.assign (.tmp 39)) none,
  .mk (some 11) (.assign (.tmp 40)) none]
def r4_4 : List PS := [.mk (some 42) (.move (.tmp 0)) none,
  .mk (some 43) (.call ⟨(.value (.func 17)), #[(.tmp 42)], #[3]⟩) none,
  .mk (some 41) (.move (.tmp 43)) none,
  .mk (some 44) (.extract (.tmp 41) 0) none,
  .mk (some 45) (.extract (.tmp 41) 1) none,
  .mk (some 46) (.extract (.tmp 41) 2) none,
  .mk (some 12) (.assign (.tmp 44)) none,
  .mk (some 13) (.assign (.tmp 45)) none,
  .mk (some 14) (.assign (.tmp 46)) none]
def r4_5 : List PS := [.mk (some 48) (.move (.tmp 0)) none,
  .mk (some 49) (.call ⟨(.value (.func 18)), #[(.tmp 48)], #[3]⟩) none,
  .mk (some 47) (.move (.tmp 49)) none,
  .mk (some 50) (.extract (.tmp 47) 0) none,
  .mk (some 51) (.extract (.tmp 47) 1) none,
  .mk (some 15) (.assign (.tmp 50)) none,
  .mk (some 16) (.assign (.tmp 51)) none]
def r4_6 : List PS := [.mk (some 53) (.move (.tmp 0)) none,
  .mk (some 54) (.call ⟨(.value (.func 19)), #[(.tmp 53)], #[3]⟩) none,
  .mk (some 52) (.move (.tmp 54)) none,
  .mk (some 55) (.extract (.tmp 52) 0) none,
  .mk (some 56) (.extract (.tmp 52) 1) none,
  .mk (some 17) (.assign (.tmp 55)) none,
  .mk (some 18) (.assign (.tmp 56)) none]
def r4_7 : List PS := [.mk (some 58) (.move (.tmp 0)) none,
  .mk (some 59) (.call ⟨(.value (.func 20)), #[(.tmp 58)], #[3]⟩) none,
  .mk (some 57) (.move (.tmp 59)) none,
  .mk (some 60) (.extract (.tmp 57) 0) none,
  .mk (some 61) (.extract (.tmp 57) 1) none,
  .mk (some 19) (.assign (.tmp 60)) none,
  .mk (some 20) (.assign (.tmp 61)) none]
def r4_8 : List PS := [.mk (some 63) (.move (.tmp 0)) none,
  .mk (some 64) (.call ⟨(.value (.func 21)), #[(.tmp 63)], #[3]⟩) none,
  .mk (some 62) (.move (.tmp 64)) none,
  .mk (some 65) (.extract (.tmp 62) 0) none,
  .mk (some 66) (.extract (.tmp 62) 1) none,
  .mk (some 21) (.assign (.tmp 65)) none,
  .mk (some 22) (.assign (.tmp 66)) none]
def r4_9 : List PS := [.mk (some 67) (.move (.tmp 5)) none,
  .mk (some 68) (.move (.tmp 7)) none,
  .mk (some 69) (.binOp .eql 3 (.tmp 67) (.tmp 68) 3) none,
  .mk (some 70) (.move (.tmp 69)) none,
  .mk (some 71) (.move (.tmp 6)) (some (70, true)),
  .mk (some 72) (.move (.tmp 8)) (some (70, true)),
  .mk (some 73) (.binOp .eql 4 (.tmp 71) (.tmp 72) 4) (some (70, true)),
  .mk (some 74) (.pick (.tmp 70) (.tmp 73) (.const (.bool false))) none,
  .mk (some 75) (.move (.tmp 74)) none,
  .mk (some 76) (.move (.tmp 9)) (some (75, true)),
  .mk (some 77) (.move (.tmp 12)) (some (75, true)),
  .mk (some 78) (.binOp .eql 3 (.tmp 76) (.tmp 77) 3) (some (75, true)),
  .mk (some 79) (.pick (.tmp 75) (.tmp 78) (.const (.bool false))) none,
  .mk (some 80) (.move (.tmp 79)) none,
  .mk (some 81) (.move (.tmp 10)) (some (80, true)),
  .mk (some 82) (.move (.tmp 13)) (some (80, true)),
  .mk (some 83) (.binOp .eql 4 (.tmp 81) (.tmp 82) 4) (some (80, true)),
  .mk (some 84) (.pick (.tmp 80) (.tmp 83) (.const (.bool false))) none,
  .mk (some 85) (.move (.tmp 84)) none,
  .mk (some 86) (.move (.tmp 11)) (some (85, true)),
  .mk (some 87) (.move (.tmp 14)) (some (85, true)),
  .mk (some 88) (.binOp .eql 4 (.tmp 86) (.tmp 87) 4) (some (85, true)),
  .mk (some 89) (.pick (.tmp 85) (.tmp 88) (.const (.bool false))) none,
  .mk (some 90) (.move (.tmp 89)) none,
  .mk (some 91) (.move (.tmp 15)) (some (90, true)),
  .mk (some 92) (.move (.tmp 17)) (some (90, true)),
  .mk (some 93) (.binOp .eql 3 (.tmp 91) (.tmp 92) 3) (some (90, true)),
  .mk (some 94) (.pick (.tmp 90) (.tmp 93) (.const (.bool false))) none,
  .mk (some 95) (.move (.tmp 94)) none,
  .mk (some 96) (.move (.tmp 16)) (some (95, true)),
  .mk (some 97) (.move (.tmp 18)) (some (95, true)),
  .mk (some 98) (.binOp .eql 4 (.tmp 96) (.tmp 97) 4) (some (95, true)),
  .mk (some 99) (.pick (.tmp 95) (.tmp 98) (.const (.bool false))) none,
  .mk (some 100) (.move (.tmp 99)) none,
  .mk (some 101) (.move (.tmp 19)) (some (100, true)),
  .mk (some 102) (.move (.tmp 21)) (some (100, true)),
  .mk (some 103) (.binOp .eql 3 (.tmp 101) (.tmp 102) 3) (some (100, true)),
  .mk (some 104) (.pick (.tmp 100) (.tmp 103) (.const (.bool false))) none,
  .mk (some 105) (.move (.tmp 104)) none,
  .mk (some 106) (.move (.tmp 20)) (some (105, true)),
  .mk (some 107) (.move (.tmp 22)) (some (105, true)),
  .mk (some 108) (.binOp .eql 4 (.tmp 106) (.tmp 107) 4) (some (105, true)),
  .mk (some 109) (.pick (.tmp 105) (.tmp 108) (.const (.bool false))) none,
  .mk (some 110) (.move (.tmp 109)) none,
  .mk (some 111) (.call ⟨(.value (.func 13)), #[], #[]⟩) (some (110, true)),
  .mk (some 112) (.pick (.tmp 110) (.tmp 111) (.const (.bool false))) none,
  .mk (some 4) (.assign (.tmp 112)) none]
def c4 : PC := (.seq (.reg false r4_0) (.seq (.reg false r4_1) (.seq (.reg false r4_2) (.seq (.reg false r4_3) (.seq (.reg false r4_4) (.seq (.reg false r4_5) (.seq (.reg false r4_6) (.seq (.reg false r4_7) (.seq (.reg false r4_8) (.seq (.reg false r4_9) .ret))))))))))
theorem e4 {args : List PV} {h : Heap} {K : PV → Heap → Prop} (hl : args.length = 2) (s : pwp Try.prog [] c4 (fin Try.prog [.tmp 4] h K) (slots0 (olds args)) h) : CanP Try.prog 4 args h K :=
  can_of2 (n := 113) mixed Try.func4 rfl (by kernel_rfl) (by rw [hl]; kernel_rfl) rfl (by kernel_rfl) s
/-! ### naskh.naskhref09.Form: function 23 -/
def r23_0 : List PS := [.mk (some 4) (.assign (.const (.int .i64 0))) none,
  .mk (some 5) (.assign (.const (.bool false))) none]
def r23_1 : List PS := [.mk (some 8) (.call ⟨(.value (.func 27)), #[], #[]⟩) none,
  .mk (some 6) (.assign (.tmp 8)) none]
def r23_2 : List PS := [.mk (some 7) (.assign (.const (.int .i64 0))) none]
def r23_3 : List PS := [.mk (some 9) (.move (.tmp 7)) none,
  .mk (some 10) (.move (.tmp 6)) none,
  .mk (some 11) (.call ⟨(.builtin .len), #[(.tmp 10)], #[40]⟩) none,
  .mk (some 12) (.binOp .lss 3 (.tmp 9) (.tmp 11) 3) none]
def r23_4 : List PS := [.mk (some 15) (.move (.tmp 6)) none,
  .mk (some 16) (.move (.tmp 7)) none,
  .mk (some 17) (.indexAddr 40 (.tmp 15) (.tmp 16)) none,
  .mk (some 18) (.fieldAddr 44 (.tmp 17) 0) none,
  .mk (some 19) (.load 3 (.tmp 18)) none,
  .mk (some 20) (.move (.tmp 0)) none,
  .mk (some 21) (.binOp .eql 3 (.tmp 19) (.tmp 20) 3) none,
  .mk (some 22) (.move (.tmp 21)) none,
  .mk (some 23) (.move (.tmp 1)) (some (22, true)),
  .mk (some 24) (.binOp .geq 3 (.tmp 23) (.const (.int .i64 1)) 3) (some (22, true)),
  .mk (some 25) (.pick (.tmp 22) (.tmp 24) (.const (.bool false))) none,
  .mk (some 26) (.move (.tmp 25)) none,
  .mk (some 27) (.move (.tmp 1)) (some (26, true)),
  .mk (some 28) (.binOp .leq 3 (.tmp 27) (.const (.int .i64 4)) 3) (some (26, true)),
  .mk (some 29) (.pick (.tmp 26) (.tmp 28) (.const (.bool false))) none,
  .mk (some 30) (.move (.tmp 29)) none,
  .mk (some 31) (.move (.tmp 6)) (some (30, true)),
  .mk (some 32) (.move (.tmp 7)) (some (30, true)),
  .mk (some 33) (.move (.tmp 1)) (some (30, true)),
  .mk (some 34) (.binOp .sub 3 (.tmp 33) (.const (.int .i64 1)) 3) (some (30, true)),
  .mk (some 35) (.indexAddr 40 (.tmp 31) (.tmp 32)) (some (30, true)),
  .mk (some 36) (.fieldAddr 44 (.tmp 35) 1) (some (30, true)),
  .mk (some 37) (.indexAddr 42 (.tmp 36) (.tmp 34)) (some (30, true)),
  .mk (some 38) (.load 3 (.tmp 37)) (some (30, true)),
  .mk (some 39) (.binOp .neq 3 (.tmp 38) (.const (.int .i64 0)) 3) (some (30, true)),
  .mk (some 40) (.pick (.tmp 30) (.tmp 39) (.const (.bool false))) none]
def r23_5 : List PS := [.mk (some 41) (.move (.tmp 6)) none,
  .mk (some 42) (.move (.tmp 7)) none,
  .mk (some 43) (.move (.tmp 1)) none,
  .mk (some 44) (.binOp .sub 3 (.tmp 43) (.const (.int .i64 1)) 3) none,
  .mk (some 45) (.indexAddr 40 (.tmp 41) (.tmp 42)) none,
  .mk (some 46) (.fieldAddr 44 (.tmp 45) 1) none,
  .mk (some 47) (.indexAddr 42 (.tmp 46) (.tmp 44)) none,
  .mk (some 48) (.load 3 (.tmp 47)) none,
  .mk (some 4) (.assign (.tmp 48)) none,
  .mk (some 5) (.assign (.const (.bool true))) none]
def r23_6 : List PS := [.mk (some 13) (.move (.tmp 7)) none,
  .mk (some 14) (.binOp .add 3 (.tmp 13) (.const (.int .i64 1)) 3) none,
  .mk (some 7) (.assign (.tmp 14)) none]
def r23_7 : List PS := [.mk (some 4) (.assign (.const (.int .i64 0))) none,
  .mk (some 5) (.assign (.const (.bool false))) none]
def c23 : PC := (.seq (.reg false r23_0) (.seq (.reg false r23_1) (.seq (.seq (.reg false r23_2) (.block 0 (.loop (.seq (.seq (.reg false r23_3) (.cond (.tmp 12) .skip (.exit 0))) (.seq (.block 1 (.seq (.reg false r23_4) (.cond (.tmp 40) (.seq (.reg false r23_5) .ret) .skip))) (.reg false r23_6)))))) (.seq (.reg false r23_7) .ret))))
theorem e23 {args : List PV} {h : Heap} {K : PV → Heap → Prop} (hl : args.length = 2) (s : pwp Try.prog [] c23 (fin Try.prog [.tmp 4, .tmp 5] h K) (slots0 (olds args)) h) : CanP Try.prog 23 args h K :=
  can_of2 (n := 49) mixed Try.func23 rfl (by kernel_rfl) (by rw [hl]; kernel_rfl) rfl (by kernel_rfl) s
/-! ### naskh.forms.alef: function 34 -/
def r34_0 : List PS := [.mk (some 2) (.alloc 48) none,
  .mk (some 3) (.assign (.const (.bool false))) none]
def r34_1 : List PS := [.mk (some 6) (.call ⟨(.value (.func 28)), #[], #[]⟩) none,
  .mk (some 7) (.call ⟨(.builtin .len), #[(.tmp 6)], #[45]⟩) none,
  .mk (some 8) (.move (.const (.int .i64 0))) none]
def r34_2 : List PS := [.mk (some 9) (.binOp .lss 3 (.tmp 8) (.tmp 7) 3) none]
def r34_3 : List PS := [.mk (some 10) (.indexAddr 45 (.tmp 6) (.tmp 8)) none,
  .mk (some 11) (.load 48 (.tmp 10)) none,
  .mk (some 5) (.alloc 48) none,
  .mk none (.store 48 (.tmp 5) (.tmp 11)) none,
  .frz 5]
def r34_4 : List PS := [.mk (some 12) (.fieldAddr 48 (.tmp 5) 0) none,
  .mk (some 13) (.load 3 (.tmp 12)) none,
  .mk (some 14) (.move (.tmp 0)) none,
  .mk (some 15) (.binOp .eql 3 (.tmp 13) (.tmp 14) 3) none]
def r34_5 : List PS := [.mk (some 16) (.load 48 (.tmp 5)) none,
  .mk none (.store 48 (.tmp 2) (.tmp 16)) none,
  .mk (some 3) (.assign (.const (.bool true))) none]
def r34_6 : List PS := [.mk (some 17) (.binOp .add 3 (.tmp 8) (.const (.int .i64 1)) 3) none,
  .mk (some 8) (.move (.tmp 17)) none]
def r34_7 : List PS := [.mk (some 18) (.build 48 #[]) none,
  .mk none (.store 48 (.tmp 2) (.tmp 18)) none,
  .mk (some 3) (.assign (.const (.bool false))) none]
def c34 : PC := (.seq (.reg false r34_0) (.seq (.seq (.reg false r34_1) (.block 0 (.loop (.seq (.reg false r34_2) (.seq (.cond (.tmp 9) .skip (.exit 0)) (.seq (.block 1 (.seq (.reg false r34_3) (.seq (.reg false r34_4) (.cond (.tmp 15) (.seq (.reg false r34_5) .ret) .skip)))) (.reg false r34_6))))))) (.seq (.reg false r34_7) .ret)))
theorem e34 {args : List PV} {h : Heap} {K : PV → Heap → Prop} (hl : args.length = 1) (s : pwp Try.prog [2, 5] c34 (fin Try.prog [.cell 2 48, .tmp 3] h K) (slots0 (olds args)) h) : CanP Try.prog 34 args h K :=
  can_of2 (n := 19) mixed Try.func34 rfl (by kernel_rfl) (by rw [hl]; kernel_rfl) rfl (by kernel_rfl) s
/-! ### naskh.forms.Ligate: function 24 -/
def r24_0 : List PS := [.mk (some 4) (.assign (.const (.int .i64 0))) none,
  .mk (some 5) (.assign (.const (.bool false))) none]
def r24_1 : List PS := [.mk (some 9) (.move (.tmp 0)) none,
  .mk (some 10) (.call ⟨(.value (.func 34)), #[(.tmp 9)], #[3]⟩) none,
  .mk (some 8) (.move (.tmp 10)) none,
  .mk (some 11) (.extract (.tmp 8) 0) none,
  .mk (some 12) (.extract (.tmp 8) 1) none,
  .mk (some 6) (.alloc 48) none,
  .mk none (.store 48 (.tmp 6) (.tmp 11)) none,
  .frz 6,
  .mk (some 7) (.assign (.tmp 12)) none]
def r24_2 : List PS := [.mk (some 13) (.move (.tmp 7)) none,
  .mk (some 14) (.unOp .not 4 (.tmp 13)) none]
def r24_3 : List PS := [.mk (some 4) (.assign (.const (.int .i64 0))) none,
  .mk (some 5) (.assign (.const (.bool false))) none]
def r24_4 : List PS := [.mk (some 15) (.move (.tmp 1)) none]
def r24_5 : List PS := [.mk (some 17) (.binOp .eql 3 (.tmp 15) (.const (.int .i64 1)) 3) none,
  .mk (some 16) (.assign (.tmp 17)) none]
def r24_6 : List PS := [.mk (some 18) (.fieldAddr 48 (.tmp 6) 1) none,
  .mk (some 19) (.load 3 (.tmp 18)) none,
  .mk (some 4) (.assign (.tmp 19)) none,
  .mk (some 5) (.assign (.const (.bool true))) none]
def r24_7 : List PS := [.mk (some 21) (.binOp .eql 3 (.tmp 15) (.const (.int .i64 2)) 3) none,
  .mk (some 20) (.assign (.tmp 21)) none]
def r24_8 : List PS := [.mk (some 22) (.fieldAddr 48 (.tmp 6) 2) none,
  .mk (some 23) (.load 3 (.tmp 22)) none,
  .mk (some 4) (.assign (.tmp 23)) none,
  .mk (some 5) (.assign (.const (.bool true))) none]
def r24_9 : List PS := [.mk (some 4) (.assign (.const (.int .i64 0))) none,
  .mk (some 5) (.assign (.const (.bool false))) none]
def c24 : PC := (.seq (.reg false r24_0) (.seq (.reg false r24_1) (.seq (.seq (.reg false r24_2) (.cond (.tmp 14) (.seq (.reg false r24_3) .ret) .skip)) (.seq (.seq (.reg false r24_4) (.block 0 (.seq (.reg false r24_5) (.cond (.tmp 16) (.seq (.reg false r24_6) .ret) (.seq (.reg false r24_7) (.cond (.tmp 20) (.seq (.reg false r24_8) .ret) .skip)))))) (.seq (.reg false r24_9) .ret)))))
theorem e24 {args : List PV} {h : Heap} {K : PV → Heap → Prop} (hl : args.length = 2) (s : pwp Try.prog [6] c24 (fin Try.prog [.tmp 4, .tmp 5] h K) (slots0 (olds args)) h) : CanP Try.prog 24 args h K :=
  can_of2 (n := 24) mixed Try.func24 rfl (by kernel_rfl) (by rw [hl]; kernel_rfl) rfl (by kernel_rfl) s
/-! ### naskh.naskhref09.Ligate: function 25 -/
def r25_0 : List PS := [.mk (some 4) (.assign (.const (.int .i64 0))) none,
  .mk (some 5) (.assign (.const (.bool false))) none]
def r25_1 : List PS := [.mk (some 8) (.call ⟨(.value (.func 28)), #[], #[]⟩) none,
  .mk (some 6) (.assign (.tmp 8)) none]
def r25_2 : List PS := [.mk (some 7) (.assign (.const (.int .i64 0))) none]
def r25_3 : List PS := [.mk (some 9) (.move (.tmp 7)) none,
  .mk (some 10) (.move (.tmp 6)) none,
  .mk (some 11) (.call ⟨(.builtin .len), #[(.tmp 10)], #[45]⟩) none,
  .mk (some 12) (.binOp .lss 3 (.tmp 9) (.tmp 11) 3) none]
def r25_4 : List PS := [.mk (some 15) (.move (.tmp 6)) none,
  .mk (some 16) (.move (.tmp 7)) none,
  .mk (some 17) (.indexAddr 45 (.tmp 15) (.tmp 16)) none,
  .mk (some 18) (.fieldAddr 48 (.tmp 17) 0) none,
  .mk (some 19) (.load 3 (.tmp 18)) none,
  .mk (some 20) (.move (.tmp 0)) none,
  .mk (some 21) (.binOp .eql 3 (.tmp 19) (.tmp 20) 3) none,
  .mk (some 22) (.move (.tmp 21)) none,
  .mk (some 23) (.move (.tmp 1)) (some (22, true)),
  .mk (some 24) (.binOp .eql 3 (.tmp 23) (.const (.int .i64 1)) 3) (some (22, true)),
  .mk (some 25) (.pick (.tmp 22) (.tmp 24) (.const (.bool false))) none]
def r25_5 : List PS := [.mk (some 26) (.move (.tmp 6)) none,
  .mk (some 27) (.move (.tmp 7)) none,
  .mk (some 28) (.indexAddr 45 (.tmp 26) (.tmp 27)) none,
  .mk (some 29) (.fieldAddr 48 (.tmp 28) 1) none,
  .mk (some 30) (.load 3 (.tmp 29)) none,
  .mk (some 4) (.assign (.tmp 30)) none,
  .mk (some 5) (.assign (.const (.bool true))) none]
def r25_6 : List PS := [.mk (some 31) (.move (.tmp 6)) none,
  .mk (some 32) (.move (.tmp 7)) none,
  .mk (some 33) (.indexAddr 45 (.tmp 31) (.tmp 32)) none,
  .mk (some 34) (.fieldAddr 48 (.tmp 33) 0) none,
  .mk (some 35) (.load 3 (.tmp 34)) none,
  .mk (some 36) (.move (.tmp 0)) none,
  .mk (some 37) (.binOp .eql 3 (.tmp 35) (.tmp 36) 3) none,
  .mk (some 38) (.move (.tmp 37)) none,
  .mk (some 39) (.move (.tmp 1)) (some (38, true)),
  .mk (some 40) (.binOp .eql 3 (.tmp 39) (.const (.int .i64 2)) 3) (some (38, true)),
  .mk (some 41) (.pick (.tmp 38) (.tmp 40) (.const (.bool false))) none]
def r25_7 : List PS := [.mk (some 42) (.move (.tmp 6)) none,
  .mk (some 43) (.move (.tmp 7)) none,
  .mk (some 44) (.indexAddr 45 (.tmp 42) (.tmp 43)) none,
  .mk (some 45) (.fieldAddr 48 (.tmp 44) 2) none,
  .mk (some 46) (.load 3 (.tmp 45)) none,
  .mk (some 4) (.assign (.tmp 46)) none,
  .mk (some 5) (.assign (.const (.bool true))) none]
def r25_8 : List PS := [.mk (some 13) (.move (.tmp 7)) none,
  .mk (some 14) (.binOp .add 3 (.tmp 13) (.const (.int .i64 1)) 3) none,
  .mk (some 7) (.assign (.tmp 14)) none]
def r25_9 : List PS := [.mk (some 4) (.assign (.const (.int .i64 0))) none,
  .mk (some 5) (.assign (.const (.bool false))) none]
def c25 : PC := (.seq (.reg false r25_0) (.seq (.reg false r25_1) (.seq (.seq (.reg false r25_2) (.block 0 (.loop (.seq (.seq (.reg false r25_3) (.cond (.tmp 12) .skip (.exit 0))) (.seq (.block 1 (.seq (.seq (.reg false r25_4) (.cond (.tmp 25) (.seq (.reg false r25_5) .ret) .skip)) (.seq (.reg false r25_6) (.cond (.tmp 41) (.seq (.reg false r25_7) .ret) .skip)))) (.reg false r25_8)))))) (.seq (.reg false r25_9) .ret))))
theorem e25 {args : List PV} {h : Heap} {K : PV → Heap → Prop} (hl : args.length = 2) (s : pwp Try.prog [] c25 (fin Try.prog [.tmp 4, .tmp 5] h K) (slots0 (olds args)) h) : CanP Try.prog 25 args h K :=
  can_of2 (n := 47) mixed Try.func25 rfl (by kernel_rfl) (by rw [hl]; kernel_rfl) rfl (by kernel_rfl) s
/-! ### naskh.naskhlaw09.FormsGives: function 5 -/
def r5_0 : List PS := [.mk (some 4) (.assign (.const (.bool false))) none]
def r5_1 : List PS := [.mk (some 14) (.move (.tmp 0)) none,
  .mk (some 15) (.move (.tmp 1)) none,
  .mk (some 16) (.call ⟨(.value (.func 22)), #[(.tmp 14), (.tmp 15)], #[3, 3]⟩) none,
  .mk (some 13) (.move (.tmp 16)) none,
  .mk (some 17) (.extract (.tmp 13) 0) none,
  .mk (some 18) (.extract (.tmp 13) 1) none,
  .mk (some 5) (.assign (.tmp 17)) none,
  .mk (some 6) (.assign (.tmp 18)) none]
def r5_2 : List PS := [.mk (some 20) (.move (.tmp 0)) none,
  .mk (some 21) (.move (.tmp 1)) none,
  .mk (some 22) (.call ⟨(.value (.func 23)), #[(.tmp 20), (.tmp 21)], #[3, 3]⟩) none,
  .mk (some 19) (.move (.tmp 22)) none,
  .mk (some 23) (.extract (.tmp 19) 0) none,
  .mk (some 24) (.extract (.tmp 19) 1) none,
  .mk (some 7) (.assign (.tmp 23)) none,
  .mk (some 8) (.assign (.tmp 24)) none]
def r5_3 : List PS := [.mk (some 26) (.move (.tmp 0)) none,
  .mk (some 27) (.move (.tmp 1)) none,
  .mk (some 28) (.call ⟨(.value (.func 24)), #[(.tmp 26), (.tmp 27)], #[3, 3]⟩) none,
  .mk (some 25) (.move (.tmp 28)) none,
  .mk (some 29) (.extract (.tmp 25) 0) none,
  .mk (some 30) (.extract (.tmp 25) 1) none,
  .mk (some 9) (.assign (.tmp 29)) none,
  .mk (some 10) (.assign (.tmp 30)) none]
def r5_4 : List PS := [.mk (some 32) (.move (.tmp 0)) none,
  .mk (some 33) (.move (.tmp 1)) none,
  .mk (some 34) (.call ⟨(.value (.func 25)), #[(.tmp 32), (.tmp 33)], #[3, 3]⟩) none,
  .mk (some 31) (.move (.tmp 34)) none,
  .mk (some 35) (.extract (.tmp 31) 0) none,
  .mk (some 36) (.extract (.tmp 31) 1) none,
  .mk (some 11) (.assign (.tmp 35)) none,
  .mk (some 12) (.assign (.tmp 36)) none]
def r5_5 : List PS := [.mk (some 37) (.move (.tmp 5)) none,
  .mk (some 38) (.move (.tmp 7)) none,
  .mk (some 39) (.binOp .eql 3 (.tmp 37) (.tmp 38) 3) none,
  .mk (some 40) (.move (.tmp 39)) none,
  .mk (some 41) (.move (.tmp 6)) (some (40, true)),
  .mk (some 42) (.move (.tmp 8)) (some (40, true)),
  .mk (some 43) (.binOp .eql 4 (.tmp 41) (.tmp 42) 4) (some (40, true)),
  .mk (some 44) (.pick (.tmp 40) (.tmp 43) (.const (.bool false))) none,
  .mk (some 45) (.move (.tmp 44)) none,
  .mk (some 46) (.move (.tmp 9)) (some (45, true)),
  .mk (some 47) (.move (.tmp 11)) (some (45, true)),
  .mk (some 48) (.binOp .eql 3 (.tmp 46) (.tmp 47) 3) (some (45, true)),
  .mk (some 49) (.pick (.tmp 45) (.tmp 48) (.const (.bool false))) none,
  .mk (some 50) (.move (.tmp 49)) none,
  .mk (some 51) (.move (.tmp 10)) (some (50, true)),
  .mk (some 52) (.move (.tmp 12)) (some (50, true)),
  .mk (some 53) (.binOp .eql 4 (.tmp 51) (.tmp 52) 4) (some (50, true)),
  .mk (some 54) (.pick (.tmp 50) (.tmp 53) (.const (.bool false))) none,
  .mk (some 55) (.move (.tmp 54)) none,
  .mk (some 56) (.call ⟨(.value (.func 13)), #[], #[]⟩) (some (55, true)),
  .mk (some 57) (.pick (.tmp 55) (.tmp 56) (.const (.bool false))) none,
  .mk (some 4) (.assign (.tmp 57)) none]
def c5 : PC := (.seq (.reg false r5_0) (.seq (.reg false r5_1) (.seq (.reg false r5_2) (.seq (.reg false r5_3) (.seq (.reg false r5_4) (.seq (.reg false r5_5) .ret))))))
theorem e5 {args : List PV} {h : Heap} {K : PV → Heap → Prop} (hl : args.length = 2) (s : pwp Try.prog [] c5 (fin Try.prog [.tmp 4] h K) (slots0 (olds args)) h) : CanP Try.prog 5 args h K :=
  can_of2 (n := 58) mixed Try.func5 rfl (by kernel_rfl) (by rw [hl]; kernel_rfl) rfl (by kernel_rfl) s
/-! ### naskh.naskhlaw09.FormsBack: function 6 -/
def r6_0 : List PS := [.mk (some 6) (.assign (.const (.bool false))) none]
def r6_1 : List PS := [.mk (some 32) (.move (.tmp 0)) none,
  .mk (some 33) (.move (.tmp 1)) none,
  .mk (some 34) (.call ⟨(.value (.func 22)), #[(.tmp 32), (.tmp 33)], #[3, 3]⟩) none,
  .mk (some 31) (.move (.tmp 34)) none,
  .mk (some 35) (.extract (.tmp 31) 0) none,
  .mk (some 36) (.extract (.tmp 31) 1) none,
  .mk (some 7) (.assign (.tmp 35)) none,
  .mk (some 8) (.assign (.tmp 36)) none]
def r6_2 : List PS := [.mk (some 37) (.move (.tmp 8)) none]
def r6_3 : List PS := [.mk (some 39) (.move (.tmp 7)) none,
  .mk (some 40) (.call ⟨(.value (.func 7)), #[(.tmp 39)], #[3]⟩) none,
  .mk (some 38) (.move (.tmp 40)) none,
  .mk (some 41) (.extract (.tmp 38) 0) none,
  .mk (some 42) (.extract (.tmp 38) 1) none,
  .mk (some 43) (.extract (.tmp 38) 2) none,
  .mk (some 9) (.assign (.tmp 41)) none,
  .mk (some 10) (.assign (.tmp 42)) none,
  .mk (some 11) (.assign (.tmp 43)) none]
def r6_4 : List PS := [.mk (some 44) (.move (.tmp 11)) none,
  .mk (some 45) (.unOp .not 4 (.tmp 44)) none,
  .mk (some 46) (.move (.tmp 45)) none,
  .mk (some 47) (.move (.tmp 9)) (some (46, false)),
  .mk (some 48) (.move (.tmp 0)) (some (46, false)),
  .mk (some 49) (.binOp .neq 3 (.tmp 47) (.tmp 48) 3) (some (46, false)),
  .mk (some 50) (.pick (.tmp 46) (.const (.bool true)) (.tmp 49)) none,
  .mk (some 51) (.move (.tmp 50)) none,
  .mk (some 52) (.move (.tmp 10)) (some (51, false)),
  .mk (some 53) (.move (.tmp 1)) (some (51, false)),
  .mk (some 54) (.binOp .neq 3 (.tmp 52) (.tmp 53) 3) (some (51, false)),
  .mk (some 55) (.pick (.tmp 51) (.const (.bool true)) (.tmp 54)) none,
  .mk (some 56) (.move (.tmp 55)) none,
  .mk (some 57) (.move (.tmp 7)) (some (56, false)),
  .mk (some 58) (.call ⟨(.value (.func 11)), #[(.tmp 57)], #[3]⟩) (some (56, false)),
  .mk (some 59) (.unOp .not 4 (.tmp 58)) (some (56, false)),
  .mk (some 60) (.pick (.tmp 56) (.const (.bool true)) (.tmp 59)) none]
def r6_5 : List PS := [.mk (some 6) (.assign (.const (.bool false))) none]
def r6_6 : List PS := [.mk (some 62) (.move (.tmp 0)) none,
  .mk (some 63) (.move (.tmp 1)) none,
  .mk (some 64) (.call ⟨(.value (.func 24)), #[(.tmp 62), (.tmp 63)], #[3, 3]⟩) none,
  .mk (some 61) (.move (.tmp 64)) none,
  .mk (some 65) (.extract (.tmp 61) 0) none,
  .mk (some 66) (.extract (.tmp 61) 1) none,
  .mk (some 12) (.assign (.tmp 65)) none,
  .mk (some 13) (.assign (.tmp 66)) none]
def r6_7 : List PS := [.mk (some 67) (.move (.tmp 13)) none]
def r6_8 : List PS := [.mk (some 69) (.move (.tmp 12)) none,
  .mk (some 70) (.call ⟨(.value (.func 9)), #[(.tmp 69)], #[3]⟩) none,
  .mk (some 68) (.move (.tmp 70)) none,
  .mk (some 71) (.extract (.tmp 68) 0) none,
  .mk (some 72) (.extract (.tmp 68) 1) none,
  .mk (some 73) (.extract (.tmp 68) 2) none,
  .mk (some 14) (.assign (.tmp 71)) none,
  .mk (some 15) (.assign (.tmp 72)) none,
  .mk (some 16) (.assign (.tmp 73)) none]
def r6_9 : List PS := [.mk (some 74) (.move (.tmp 16)) none,
  .mk (some 75) (.unOp .not 4 (.tmp 74)) none,
  .mk (some 76) (.move (.tmp 75)) none,
  .mk (some 77) (.move (.tmp 14)) (some (76, false)),
  .mk (some 78) (.move (.tmp 0)) (some (76, false)),
  .mk (some 79) (.binOp .neq 3 (.tmp 77) (.tmp 78) 3) (some (76, false)),
  .mk (some 80) (.pick (.tmp 76) (.const (.bool true)) (.tmp 79)) none,
  .mk (some 81) (.move (.tmp 80)) none,
  .mk (some 82) (.move (.tmp 15)) (some (81, false)),
  .mk (some 83) (.move (.tmp 1)) (some (81, false)),
  .mk (some 84) (.binOp .neq 3 (.tmp 82) (.tmp 83) 3) (some (81, false)),
  .mk (some 85) (.pick (.tmp 81) (.const (.bool true)) (.tmp 84)) none]
def r6_10 : List PS := [.mk (some 6) (.assign (.const (.bool false))) none]
def r6_11 : List PS := [.mk (some 17) (.assign (.const (.int .i64 0))) none]
def r6_12 : List PS := [.mk (some 87) (.move (.tmp 2)) none,
  .mk (some 88) (.call ⟨(.value (.func 7)), #[(.tmp 87)], #[3]⟩) none,
  .mk (some 86) (.move (.tmp 88)) none,
  .mk (some 89) (.extract (.tmp 86) 0) none,
  .mk (some 90) (.extract (.tmp 86) 1) none,
  .mk (some 91) (.extract (.tmp 86) 2) none,
  .mk (some 18) (.assign (.tmp 89)) none,
  .mk (some 19) (.assign (.tmp 90)) none,
  .mk (some 20) (.assign (.tmp 91)) none]
def r6_13 : List PS := [.mk (some 93) (.move (.tmp 2)) none,
  .mk (some 94) (.call ⟨(.value (.func 9)), #[(.tmp 93)], #[3]⟩) none,
  .mk (some 92) (.move (.tmp 94)) none,
  .mk (some 95) (.extract (.tmp 92) 0) none,
  .mk (some 96) (.extract (.tmp 92) 1) none,
  .mk (some 97) (.extract (.tmp 92) 2) none,
  .mk (some 21) (.assign (.tmp 95)) none,
  .mk (some 22) (.assign (.tmp 96)) none,
  .mk (some 23) (.assign (.tmp 97)) none]
def r6_14 : List PS := [.mk (some 99) (.move (.tmp 2)) none,
  .mk (some 100) (.call ⟨(.value (.func 16)), #[(.tmp 99)], #[3]⟩) none,
  .mk (some 98) (.move (.tmp 100)) none,
  .mk (some 101) (.extract (.tmp 98) 0) none,
  .mk (some 102) (.extract (.tmp 98) 1) none,
  .mk (some 103) (.extract (.tmp 98) 2) none,
  .mk (some 24) (.assign (.tmp 101)) none,
  .mk (some 25) (.assign (.tmp 102)) none,
  .mk (some 26) (.assign (.tmp 103)) none]
def r6_15 : List PS := [.mk (some 105) (.move (.tmp 2)) none,
  .mk (some 106) (.call ⟨(.value (.func 20)), #[(.tmp 105)], #[3]⟩) none,
  .mk (some 104) (.move (.tmp 106)) none,
  .mk (some 107) (.extract (.tmp 104) 0) none,
  .mk (some 108) (.extract (.tmp 104) 1) none,
  .mk (some 27) (.assign (.tmp 107)) none,
  .mk (some 28) (.assign (.tmp 108)) none]
def r6_16 : List PS := [.mk (some 109) (.move (.tmp 20)) none,
  .mk (some 110) (.move (.tmp 23)) none,
  .mk (some 111) (.move (.tmp 26)) none,
  .mk (some 112) (.move (.tmp 28)) none,
  .mk (some 113) (.buildSlice 34 4 #[(0, (.tmp 109)), (1, (.tmp 110)), (2, (.tmp 111)), (3, (.tmp 112))]) none,
  .mk (some 114) (.call ⟨(.builtin .len), #[(.tmp 113)], #[34]⟩) none,
  .mk (some 115) (.move (.const (.int .i64 0))) none]
def r6_17 : List PS := [.mk (some 116) (.binOp .lss 3 (.tmp 115) (.tmp 114) 3) none]
def r6_18 : List PS := [.mk (some 117) (.indexAddr 34 (.tmp 113) (.tmp 115)) none,
  .mk (some 118) (.load 4 (.tmp 117)) none,
  .mk (some 30) (.assign (.tmp 118)) none]
def r6_19 : List PS := [.mk (some 119) (.move (.tmp 30)) none]
def r6_20 : List PS := [.mk (some 120) (.move (.tmp 17)) none,
  .mk (some 121) (.binOp .add 3 (.tmp 120) (.const (.int .i64 1)) 3) none,
  .mk (some 17) (.assign (.tmp 121)) none]
def r6_21 : List PS := [.mk (some 122) (.binOp .add 3 (.tmp 115) (.const (.int .i64 1)) 3) none,
  .mk (some 115) (.move (.tmp 122)) none]
def r6_22 : List PS := [.mk (some 123) (.move (.tmp 17)) none,
  .mk (some 124) (.binOp .leq 3 (.tmp 123) (.const (.int .i64 1)) 3) none,
  .mk (some 125) (.move (.tmp 124)) none,
  .mk (some 126) (.call ⟨(.value (.func 13)), #[], #[]⟩) (some (125, true)),
  .mk (some 127) (.pick (.tmp 125) (.tmp 126) (.const (.bool false))) none,
  .mk (some 6) (.assign (.tmp 127)) none]
def c6 : PC := (.seq (.reg false r6_0) (.seq (.seq (.reg false r6_1) (.seq (.reg false r6_2) (.cond (.tmp 37) (.seq (.reg false r6_3) (.seq (.reg false r6_4) (.cond (.tmp 60) (.seq (.reg false r6_5) .ret) .skip))) .skip))) (.seq (.seq (.reg false r6_6) (.seq (.reg false r6_7) (.cond (.tmp 67) (.seq (.reg false r6_8) (.seq (.reg false r6_9) (.cond (.tmp 85) (.seq (.reg false r6_10) .ret) .skip))) .skip))) (.seq (.reg false r6_11) (.seq (.reg false r6_12) (.seq (.reg false r6_13) (.seq (.reg false r6_14) (.seq (.reg false r6_15) (.seq (.seq (.reg false r6_16) (.block 0 (.loop (.seq (.reg false r6_17) (.seq (.cond (.tmp 116) .skip (.exit 0)) (.seq (.block 1 (.seq (.reg false r6_18) (.seq (.reg false r6_19) (.cond (.tmp 119) (.reg false r6_20) .skip)))) (.reg false r6_21))))))) (.seq (.reg false r6_22) .ret))))))))))
theorem e6 {args : List PV} {h : Heap} {K : PV → Heap → Prop} (hl : args.length = 3) (s : pwp Try.prog [] c6 (fin Try.prog [.tmp 6] h K) (slots0 (olds args)) h) : CanP Try.prog 6 args h K :=
  can_of2 (n := 128) mixed Try.func6 rfl (by kernel_rfl) (by rw [hl]; kernel_rfl) rfl (by kernel_rfl) s
end Go.Proofs.Ytlmfdoilbfgleaa
