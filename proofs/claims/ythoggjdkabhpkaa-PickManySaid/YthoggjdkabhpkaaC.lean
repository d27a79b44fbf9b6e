/-
  The functions that the statements of this seat reach, told in short, and facts on their types. Printed by this project's own program.
  Conditions: none.
-/
import Derived.Test.YthoggjdkabhpkaaPmO
import Derived.Test.YthoggjdkabhpkaaProg
import Derived.KernelRfl
namespace Go.Proofs.Ythoggjdkabhpkaa
open Go.Pm
set_option maxRecDepth 100000
set_option linter.unusedVariables false
theorem mixed : Try.prog.follows .mixedOrders = true := by kernel_rfl
theorem tag3 : tag Try.prog 3 = some false := by kernel_rfl
theorem tsz3 : tsz Try.prog 3 = some 1 := by kernel_rfl
theorem und3 : und Try.prog 3 = true := by kernel_rfl
theorem ik3 : ik Try.prog 3 = some .i64 := by kernel_rfl
theorem kd3 : kd Try.prog 3 = none := by kernel_rfl
theorem esz3 : esz Try.prog 3 = none := by kernel_rfl
theorem zc3 : zc Try.prog 3 = some [.int .i64 0] := by kernel_rfl
theorem ars3 : ars Try.prog 3 = none := by kernel_rfl
theorem tag4 : tag Try.prog 4 = some false := by kernel_rfl
theorem tsz4 : tsz Try.prog 4 = some 1 := by kernel_rfl
theorem und4 : und Try.prog 4 = true := by kernel_rfl
theorem ik4 : ik Try.prog 4 = none := by kernel_rfl
theorem kd4 : kd Try.prog 4 = some 3 := by kernel_rfl
theorem esz4 : esz Try.prog 4 = none := by kernel_rfl
theorem zc4 : zc Try.prog 4 = some [.bool false] := by kernel_rfl
theorem ars4 : ars Try.prog 4 = none := by kernel_rfl
theorem tag5 : tag Try.prog 5 = some false := by kernel_rfl
theorem tsz5 : tsz Try.prog 5 = some 1 := by kernel_rfl
theorem und5 : und Try.prog 5 = true := by kernel_rfl
theorem ik5 : ik Try.prog 5 = some .u8 := by kernel_rfl
theorem kd5 : kd Try.prog 5 = none := by kernel_rfl
theorem esz5 : esz Try.prog 5 = none := by kernel_rfl
theorem zc5 : zc Try.prog 5 = some [.int .u8 0] := by kernel_rfl
theorem ars5 : ars Try.prog 5 = none := by kernel_rfl
theorem tag9 : tag Try.prog 9 = some false := by kernel_rfl
theorem tsz9 : tsz Try.prog 9 = some 1 := by kernel_rfl
theorem und9 : und Try.prog 9 = true := by kernel_rfl
theorem ik9 : ik Try.prog 9 = none := by kernel_rfl
theorem kd9 : kd Try.prog 9 = some 0 := by kernel_rfl
theorem esz9 : esz Try.prog 9 = none := by kernel_rfl
theorem zc9 : zc Try.prog 9 = some [.str ⟨#[]⟩] := by kernel_rfl
theorem ars9 : ars Try.prog 9 = none := by kernel_rfl
theorem tag22 : tag Try.prog 22 = some false := by kernel_rfl
theorem tsz22 : tsz Try.prog 22 = some 1 := by kernel_rfl
theorem und22 : und Try.prog 22 = true := by kernel_rfl
theorem ik22 : ik Try.prog 22 = none := by kernel_rfl
theorem kd22 : kd Try.prog 22 = some 1 := by kernel_rfl
theorem esz22 : esz Try.prog 22 = some 1 := by kernel_rfl
theorem elt22 : elt Try.prog 22 = some 3 := by kernel_rfl
theorem zc22 : zc Try.prog 22 = some [.nils] := by kernel_rfl
theorem ars22 : ars Try.prog 22 = none := by kernel_rfl
theorem eli22 : eli Try.prog 22 = some (1, 8, [.int .i64 0]) := by kernel_rfl
theorem tag25 : tag Try.prog 25 = some true := by kernel_rfl
theorem tsz25 : tsz Try.prog 25 = some 2 := by kernel_rfl
theorem und25 : und Try.prog 25 = true := by kernel_rfl
theorem ik25 : ik Try.prog 25 = none := by kernel_rfl
theorem kd25 : kd Try.prog 25 = some 14 := by kernel_rfl
theorem esz25 : esz Try.prog 25 = none := by kernel_rfl
theorem zc25 : zc Try.prog 25 = some [.int .i64 0, .int .i64 0] := by kernel_rfl
theorem ars25 : ars Try.prog 25 = none := by kernel_rfl
theorem fld25_0 : fld Try.prog 25 0 = some (0, false, 1) := by kernel_rfl
theorem fld25_1 : fld Try.prog 25 1 = some (1, false, 1) := by kernel_rfl
theorem plc25 : plc Try.prog 25 = some fun i => [(0, 1), (1, 1)][i]? := by kernel_rfl
theorem tag27 : tag Try.prog 27 = some false := by kernel_rfl
theorem tsz27 : tsz Try.prog 27 = some 1 := by kernel_rfl
theorem und27 : und Try.prog 27 = true := by kernel_rfl
theorem ik27 : ik Try.prog 27 = none := by kernel_rfl
theorem kd27 : kd Try.prog 27 = some 1 := by kernel_rfl
theorem esz27 : esz Try.prog 27 = some 2 := by kernel_rfl
theorem elt27 : elt Try.prog 27 = some 25 := by kernel_rfl
theorem zc27 : zc Try.prog 27 = some [.nils] := by kernel_rfl
theorem ars27 : ars Try.prog 27 = none := by kernel_rfl
theorem eli27 : eli Try.prog 27 = some (2, 16, [.int .i64 0, .int .i64 0]) := by kernel_rfl
theorem tag28 : tag Try.prog 28 = some false := by kernel_rfl
theorem tsz28 : tsz Try.prog 28 = some 1 := by kernel_rfl
theorem und28 : und Try.prog 28 = true := by kernel_rfl
theorem ik28 : ik Try.prog 28 = some .i64 := by kernel_rfl
theorem kd28 : kd Try.prog 28 = none := by kernel_rfl
theorem esz28 : esz Try.prog 28 = none := by kernel_rfl
theorem zc28 : zc Try.prog 28 = some [.int .i64 0] := by kernel_rfl
theorem ars28 : ars Try.prog 28 = none := by kernel_rfl
theorem tag34 : tag Try.prog 34 = some false := by kernel_rfl
theorem tsz34 : tsz Try.prog 34 = some 1 := by kernel_rfl
theorem und34 : und Try.prog 34 = true := by kernel_rfl
theorem ik34 : ik Try.prog 34 = none := by kernel_rfl
theorem kd34 : kd Try.prog 34 = some 1 := by kernel_rfl
theorem esz34 : esz Try.prog 34 = some 1 := by kernel_rfl
theorem elt34 : elt Try.prog 34 = some 4 := by kernel_rfl
theorem zc34 : zc Try.prog 34 = some [.nils] := by kernel_rfl
theorem ars34 : ars Try.prog 34 = none := by kernel_rfl
theorem eli34 : eli Try.prog 34 = some (1, 1, [.bool false]) := by kernel_rfl
theorem tag48 : tag Try.prog 48 = some false := by kernel_rfl
theorem tsz48 : tsz Try.prog 48 = some 1 := by kernel_rfl
theorem und48 : und Try.prog 48 = true := by kernel_rfl
theorem ik48 : ik Try.prog 48 = none := by kernel_rfl
theorem kd48 : kd Try.prog 48 = none := by kernel_rfl
theorem esz48 : esz Try.prog 48 = none := by kernel_rfl
theorem zc48 : zc Try.prog 48 = some [.nilf] := by kernel_rfl
theorem ars48 : ars Try.prog 48 = none := by kernel_rfl
theorem tag50 : tag Try.prog 50 = some false := by kernel_rfl
theorem tsz50 : tsz Try.prog 50 = some 1 := by kernel_rfl
theorem und50 : und Try.prog 50 = true := by kernel_rfl
theorem ik50 : ik Try.prog 50 = none := by kernel_rfl
theorem kd50 : kd Try.prog 50 = none := by kernel_rfl
theorem esz50 : esz Try.prog 50 = none := by kernel_rfl
theorem zc50 : zc Try.prog 50 = some [.nilf] := by kernel_rfl
theorem ars50 : ars Try.prog 50 = none := by kernel_rfl
theorem tag57 : tag Try.prog 57 = some false := by kernel_rfl
theorem tsz57 : tsz Try.prog 57 = some 1 := by kernel_rfl
theorem und57 : und Try.prog 57 = true := by kernel_rfl
theorem ik57 : ik Try.prog 57 = none := by kernel_rfl
theorem kd57 : kd Try.prog 57 = none := by kernel_rfl
theorem esz57 : esz Try.prog 57 = none := by kernel_rfl
theorem zc57 : zc Try.prog 57 = some [.nilf] := by kernel_rfl
theorem ars57 : ars Try.prog 57 = none := by kernel_rfl
theorem tag64 : tag Try.prog 64 = some false := by kernel_rfl
theorem tsz64 : tsz Try.prog 64 = some 1 := by kernel_rfl
theorem und64 : und Try.prog 64 = true := by kernel_rfl
theorem ik64 : ik Try.prog 64 = some .u64 := by kernel_rfl
theorem kd64 : kd Try.prog 64 = none := by kernel_rfl
theorem esz64 : esz Try.prog 64 = none := by kernel_rfl
theorem zc64 : zc Try.prog 64 = some [.int .u64 0] := by kernel_rfl
theorem ars64 : ars Try.prog 64 = none := by kernel_rfl
theorem tag66 : tag Try.prog 66 = some false := by kernel_rfl
theorem tsz66 : tsz Try.prog 66 = some 1 := by kernel_rfl
theorem und66 : und Try.prog 66 = true := by kernel_rfl
theorem ik66 : ik Try.prog 66 = some .i64 := by kernel_rfl
theorem kd66 : kd Try.prog 66 = none := by kernel_rfl
theorem esz66 : esz Try.prog 66 = none := by kernel_rfl
theorem zc66 : zc Try.prog 66 = some [.int .i64 0] := by kernel_rfl
theorem ars66 : ars Try.prog 66 = none := by kernel_rfl
theorem tag75 : tag Try.prog 75 = some false := by kernel_rfl
theorem tsz75 : tsz Try.prog 75 = some 1 := by kernel_rfl
theorem und75 : und Try.prog 75 = true := by kernel_rfl
theorem ik75 : ik Try.prog 75 = some .u32 := by kernel_rfl
theorem kd75 : kd Try.prog 75 = none := by kernel_rfl
theorem esz75 : esz Try.prog 75 = none := by kernel_rfl
theorem zc75 : zc Try.prog 75 = some [.int .u32 0] := by kernel_rfl
theorem ars75 : ars Try.prog 75 = none := by kernel_rfl
theorem tag77 : tag Try.prog 77 = some false := by kernel_rfl
theorem tsz77 : tsz Try.prog 77 = some 1 := by kernel_rfl
theorem und77 : und Try.prog 77 = true := by kernel_rfl
theorem ik77 : ik Try.prog 77 = some .u64 := by kernel_rfl
theorem kd77 : kd Try.prog 77 = none := by kernel_rfl
theorem esz77 : esz Try.prog 77 = none := by kernel_rfl
theorem zc77 : zc Try.prog 77 = some [.int .u64 0] := by kernel_rfl
theorem ars77 : ars Try.prog 77 = none := by kernel_rfl
theorem tag80 : tag Try.prog 80 = some false := by kernel_rfl
theorem tsz80 : tsz Try.prog 80 = some 1 := by kernel_rfl
theorem und80 : und Try.prog 80 = true := by kernel_rfl
theorem ik80 : ik Try.prog 80 = some .u64 := by kernel_rfl
theorem kd80 : kd Try.prog 80 = none := by kernel_rfl
theorem esz80 : esz Try.prog 80 = none := by kernel_rfl
theorem zc80 : zc Try.prog 80 = some [.int .u64 0] := by kernel_rfl
theorem ars80 : ars Try.prog 80 = none := by kernel_rfl
theorem tag84 : tag Try.prog 84 = some false := by kernel_rfl
theorem tsz84 : tsz Try.prog 84 = some 1 := by kernel_rfl
theorem und84 : und Try.prog 84 = true := by kernel_rfl
theorem ik84 : ik Try.prog 84 = none := by kernel_rfl
theorem kd84 : kd Try.prog 84 = some 2 := by kernel_rfl
theorem esz84 : esz Try.prog 84 = none := by kernel_rfl
theorem zc84 : zc Try.prog 84 = some [.nilp] := by kernel_rfl
theorem ars84 : ars Try.prog 84 = none := by kernel_rfl
theorem tag90 : tag Try.prog 90 = some false := by kernel_rfl
theorem tsz90 : tsz Try.prog 90 = some 1 := by kernel_rfl
theorem und90 : und Try.prog 90 = true := by kernel_rfl
theorem ik90 : ik Try.prog 90 = none := by kernel_rfl
theorem kd90 : kd Try.prog 90 = some 2 := by kernel_rfl
theorem esz90 : esz Try.prog 90 = none := by kernel_rfl
theorem zc90 : zc Try.prog 90 = some [.nilp] := by kernel_rfl
theorem ars90 : ars Try.prog 90 = none := by kernel_rfl
theorem ft : (tag Try.prog 3 = some false) ∧
    (tsz Try.prog 3 = some 1) ∧
    (und Try.prog 3 = true) ∧
    (ik Try.prog 3 = some .i64) ∧
    (kd Try.prog 3 = none) ∧
    (esz Try.prog 3 = none) ∧
    (zc Try.prog 3 = some [.int .i64 0]) ∧
    (ars Try.prog 3 = none) ∧
    (tag Try.prog 4 = some false) ∧
    (tsz Try.prog 4 = some 1) ∧
    (und Try.prog 4 = true) ∧
    (ik Try.prog 4 = none) ∧
    (kd Try.prog 4 = some 3) ∧
    (esz Try.prog 4 = none) ∧
    (zc Try.prog 4 = some [.bool false]) ∧
    (ars Try.prog 4 = none) ∧
    (tag Try.prog 5 = some false) ∧
    (tsz Try.prog 5 = some 1) ∧
    (und Try.prog 5 = true) ∧
    (ik Try.prog 5 = some .u8) ∧
    (kd Try.prog 5 = none) ∧
    (esz Try.prog 5 = none) ∧
    (zc Try.prog 5 = some [.int .u8 0]) ∧
    (ars Try.prog 5 = none) ∧
    (tag Try.prog 9 = some false) ∧
    (tsz Try.prog 9 = some 1) ∧
    (und Try.prog 9 = true) ∧
    (ik Try.prog 9 = none) ∧
    (kd Try.prog 9 = some 0) ∧
    (esz Try.prog 9 = none) ∧
    (zc Try.prog 9 = some [.str ⟨#[]⟩]) ∧
    (ars Try.prog 9 = none) ∧
    (tag Try.prog 22 = some false) ∧
    (tsz Try.prog 22 = some 1) ∧
    (und Try.prog 22 = true) ∧
    (ik Try.prog 22 = none) ∧
    (kd Try.prog 22 = some 1) ∧
    (esz Try.prog 22 = some 1) ∧
    (elt Try.prog 22 = some 3) ∧
    (zc Try.prog 22 = some [.nils]) ∧
    (ars Try.prog 22 = none) ∧
    (eli Try.prog 22 = some (1, 8, [.int .i64 0])) ∧
    (tag Try.prog 25 = some true) ∧
    (tsz Try.prog 25 = some 2) ∧
    (und Try.prog 25 = true) ∧
    (ik Try.prog 25 = none) ∧
    (kd Try.prog 25 = some 14) ∧
    (esz Try.prog 25 = none) ∧
    (zc Try.prog 25 = some [.int .i64 0, .int .i64 0]) ∧
    (ars Try.prog 25 = none) ∧
    (fld Try.prog 25 0 = some (0, false, 1)) ∧
    (fld Try.prog 25 1 = some (1, false, 1)) ∧
    (plc Try.prog 25 = some fun i => [(0, 1), (1, 1)][i]?) ∧
    (tag Try.prog 27 = some false) ∧
    (tsz Try.prog 27 = some 1) ∧
    (und Try.prog 27 = true) ∧
    (ik Try.prog 27 = none) ∧
    (kd Try.prog 27 = some 1) ∧
    (esz Try.prog 27 = some 2) ∧
    (elt Try.prog 27 = some 25) ∧
    (zc Try.prog 27 = some [.nils]) ∧
    (ars Try.prog 27 = none) ∧
    (eli Try.prog 27 = some (2, 16, [.int .i64 0, .int .i64 0])) ∧
    (tag Try.prog 28 = some false) ∧
    (tsz Try.prog 28 = some 1) ∧
    (und Try.prog 28 = true) ∧
    (ik Try.prog 28 = some .i64) ∧
    (kd Try.prog 28 = none) ∧
    (esz Try.prog 28 = none) ∧
    (zc Try.prog 28 = some [.int .i64 0]) ∧
    (ars Try.prog 28 = none) ∧
    (tag Try.prog 34 = some false) ∧
    (tsz Try.prog 34 = some 1) ∧
    (und Try.prog 34 = true) ∧
    (ik Try.prog 34 = none) ∧
    (kd Try.prog 34 = some 1) ∧
    (esz Try.prog 34 = some 1) ∧
    (elt Try.prog 34 = some 4) ∧
    (zc Try.prog 34 = some [.nils]) ∧
    (ars Try.prog 34 = none) ∧
    (eli Try.prog 34 = some (1, 1, [.bool false])) ∧
    (tag Try.prog 48 = some false) ∧
    (tsz Try.prog 48 = some 1) ∧
    (und Try.prog 48 = true) ∧
    (ik Try.prog 48 = none) ∧
    (kd Try.prog 48 = none) ∧
    (esz Try.prog 48 = none) ∧
    (zc Try.prog 48 = some [.nilf]) ∧
    (ars Try.prog 48 = none) ∧
    (tag Try.prog 50 = some false) ∧
    (tsz Try.prog 50 = some 1) ∧
    (und Try.prog 50 = true) ∧
    (ik Try.prog 50 = none) ∧
    (kd Try.prog 50 = none) ∧
    (esz Try.prog 50 = none) ∧
    (zc Try.prog 50 = some [.nilf]) ∧
    (ars Try.prog 50 = none) ∧
    (tag Try.prog 57 = some false) ∧
    (tsz Try.prog 57 = some 1) ∧
    (und Try.prog 57 = true) ∧
    (ik Try.prog 57 = none) ∧
    (kd Try.prog 57 = none) ∧
    (esz Try.prog 57 = none) ∧
    (zc Try.prog 57 = some [.nilf]) ∧
    (ars Try.prog 57 = none) ∧
    (tag Try.prog 64 = some false) ∧
    (tsz Try.prog 64 = some 1) ∧
    (und Try.prog 64 = true) ∧
    (ik Try.prog 64 = some .u64) ∧
    (kd Try.prog 64 = none) ∧
    (esz Try.prog 64 = none) ∧
    (zc Try.prog 64 = some [.int .u64 0]) ∧
    (ars Try.prog 64 = none) ∧
    (tag Try.prog 66 = some false) ∧
    (tsz Try.prog 66 = some 1) ∧
    (und Try.prog 66 = true) ∧
    (ik Try.prog 66 = some .i64) ∧
    (kd Try.prog 66 = none) ∧
    (esz Try.prog 66 = none) ∧
    (zc Try.prog 66 = some [.int .i64 0]) ∧
    (ars Try.prog 66 = none) ∧
    (tag Try.prog 75 = some false) ∧
    (tsz Try.prog 75 = some 1) ∧
    (und Try.prog 75 = true) ∧
    (ik Try.prog 75 = some .u32) ∧
    (kd Try.prog 75 = none) ∧
    (esz Try.prog 75 = none) ∧
    (zc Try.prog 75 = some [.int .u32 0]) ∧
    (ars Try.prog 75 = none) ∧
    (tag Try.prog 77 = some false) ∧
    (tsz Try.prog 77 = some 1) ∧
    (und Try.prog 77 = true) ∧
    (ik Try.prog 77 = some .u64) ∧
    (kd Try.prog 77 = none) ∧
    (esz Try.prog 77 = none) ∧
    (zc Try.prog 77 = some [.int .u64 0]) ∧
    (ars Try.prog 77 = none) ∧
    (tag Try.prog 80 = some false) ∧
    (tsz Try.prog 80 = some 1) ∧
    (und Try.prog 80 = true) ∧
    (ik Try.prog 80 = some .u64) ∧
    (kd Try.prog 80 = none) ∧
    (esz Try.prog 80 = none) ∧
    (zc Try.prog 80 = some [.int .u64 0]) ∧
    (ars Try.prog 80 = none) ∧
    (tag Try.prog 84 = some false) ∧
    (tsz Try.prog 84 = some 1) ∧
    (und Try.prog 84 = true) ∧
    (ik Try.prog 84 = none) ∧
    (kd Try.prog 84 = some 2) ∧
    (esz Try.prog 84 = none) ∧
    (zc Try.prog 84 = some [.nilp]) ∧
    (ars Try.prog 84 = none) ∧
    (tag Try.prog 90 = some false) ∧
    (tsz Try.prog 90 = some 1) ∧
    (und Try.prog 90 = true) ∧
    (ik Try.prog 90 = none) ∧
    (kd Try.prog 90 = some 2) ∧
    (esz Try.prog 90 = none) ∧
    (zc Try.prog 90 = some [.nilp]) ∧
    (ars Try.prog 90 = none) :=
  ⟨tag3, tsz3, und3, ik3, kd3, esz3, zc3, ars3, tag4, tsz4, und4, ik4, kd4, esz4, zc4, ars4, tag5, tsz5, und5, ik5, kd5, esz5, zc5, ars5, tag9, tsz9, und9, ik9, kd9, esz9, zc9, ars9, tag22, tsz22, und22, ik22, kd22, esz22, elt22, zc22, ars22, eli22, tag25, tsz25, und25, ik25, kd25, esz25, zc25, ars25, fld25_0, fld25_1, plc25, tag27, tsz27, und27, ik27, kd27, esz27, elt27, zc27, ars27, eli27, tag28, tsz28, und28, ik28, kd28, esz28, zc28, ars28, tag34, tsz34, und34, ik34, kd34, esz34, elt34, zc34, ars34, eli34, tag48, tsz48, und48, ik48, kd48, esz48, zc48, ars48, tag50, tsz50, und50, ik50, kd50, esz50, zc50, ars50, tag57, tsz57, und57, ik57, kd57, esz57, zc57, ars57, tag64, tsz64, und64, ik64, kd64, esz64, zc64, ars64, tag66, tsz66, und66, ik66, kd66, esz66, zc66, ars66, tag75, tsz75, und75, ik75, kd75, esz75, zc75, ars75, tag77, tsz77, und77, ik77, kd77, esz77, zc77, ars77, tag80, tsz80, und80, ik80, kd80, esz80, zc80, ars80, tag84, tsz84, und84, ik84, kd84, esz84, zc84, ars84, tag90, tsz90, und90, ik90, kd90, esz90, zc90, ars90⟩
/-! ### naskh.span.Has: function 11 -/
def r11_0 : List PS := [.mk (some 2) (.box 25 (.tmp 0)) none,
  .mk (some 4) (.assign (.const (.bool false))) none]
def r11_1 : List PS := [.mk (some 5) (.fieldAddr 25 (.tmp 2) 0) none,
  .mk (some 6) (.load 3 (.tmp 5)) none,
  .mk (some 7) (.move (.tmp 1)) none,
  .mk (some 8) (.binOp .leq 3 (.tmp 6) (.tmp 7) 3) none,
  .mk (some 9) (.move (.tmp 8)) none,
  .mk (some 10) (.move (.tmp 1)) (some (9, true)),
  .mk (some 11) (.fieldAddr 25 (.tmp 2) 1) (some (9, true)),
  .mk (some 12) (.load 3 (.tmp 11)) (some (9, true)),
  .mk (some 13) (.binOp .lss 3 (.tmp 10) (.tmp 12) 3) (some (9, true)),
  .mk (some 14) (.pick (.tmp 9) (.tmp 13) (.const (.bool false))) none,
  .mk (some 4) (.assign (.tmp 14)) none]
def c11 : PC := (.seq (.reg false r11_0) (.seq (.reg false r11_1) .ret))
theorem e11 {args : List PV} {h : Heap} {K : PV → Heap → Prop} (hl : args.length = 2) (s : pwp Try.prog [] c11 (fin Try.prog [.tmp 4] h K) (slots0 (olds args)) h) : CanP Try.prog 11 args h K :=
  can_of2 (n := 15) mixed Try.func11 rfl (by kernel_rfl) (by rw [hl]; kernel_rfl) rfl (by kernel_rfl) s
/-! ### naskh.span.Right: function 26 -/
def r26_0 : List PS := [.mk (some 1) (.box 25 (.tmp 0)) none,
  .mk (some 2) (.assign (.const (.bool false))) none]
def r26_1 : List PS := [.mk (some 3) (.fieldAddr 25 (.tmp 1) 0) none,
  .mk (some 4) (.load 3 (.tmp 3)) none,
  .mk (some 5) (.binOp .leq 3 (.const (.int .i64 0)) (.tmp 4) 3) none,
  .mk (some 6) (.move (.tmp 5)) none,
  .mk (some 7) (.fieldAddr 25 (.tmp 1) 0) (some (6, true)),
  .mk (some 8) (.load 3 (.tmp 7)) (some (6, true)),
  .mk (some 9) (.fieldAddr 25 (.tmp 1) 1) (some (6, true)),
  .mk (some 10) (.load 3 (.tmp 9)) (some (6, true)),
  .mk (some 11) (.binOp .lss 3 (.tmp 8) (.tmp 10) 3) (some (6, true)),
  .mk (some 12) (.pick (.tmp 6) (.tmp 11) (.const (.bool false))) none,
  .mk (some 2) (.assign (.tmp 12)) none]
def c26 : PC := (.seq (.reg false r26_0) (.seq (.reg false r26_1) .ret))
theorem e26 {args : List PV} {h : Heap} {K : PV → Heap → Prop} (hl : args.length = 1) (s : pwp Try.prog [] c26 (fin Try.prog [.tmp 2] h K) (slots0 (olds args)) h) : CanP Try.prog 26 args h K :=
  can_of2 (n := 13) mixed Try.func26 rfl (by kernel_rfl) (by rw [hl]; kernel_rfl) rfl (by kernel_rfl) s
/-! ### math.bits.Mul32: function 63 -/
def r63_0 : List PS := [.mk (some 4) (.assign (.const (.int .u32 0))) none,
  .mk (some 5) (.assign (.const (.int .u32 0))) none]
def r63_1 : List PS := [.mk (some 7) (.move (.tmp 0)) none,
  .mk (some 8) (.convert 75 77 (.tmp 7)) none,
  .mk (some 9) (.move (.tmp 1)) none,
  .mk (some 10) (.convert 75 77 (.tmp 9)) none,
  .mk (some 11) (.binOp .mul 77 (.tmp 8) (.tmp 10) 77) none,
  .mk (some 6) (.assign (.tmp 11)) none]
def r63_2 : List PS := [.mk (some 12) (.move (.tmp 6)) none,
  .mk (some 13) (.binOp .shr 77 (.tmp 12) (.const (.int .u64 32)) 64) none,
  .mk (some 14) (.convert 77 75 (.tmp 13)) none,
  .mk (some 15) (.move (.tmp 6)) none,
  .mk (some 16) (.convert 77 75 (.tmp 15)) none,
  .mk (some 4) (.assign (.tmp 14)) none,
  .mk (some 5) (.assign (.tmp 16)) none]
def c63 : PC := (.seq (.reg false r63_0) (.seq (.reg false r63_1) (.seq (.reg false r63_2) .ret)))
theorem e63 {args : List PV} {h : Heap} {K : PV → Heap → Prop} (hl : args.length = 2) (s : pwp Try.prog [] c63 (fin Try.prog [.tmp 4, .tmp 5] h K) (slots0 (olds args)) h) : CanP Try.prog 63 args h K :=
  can_of2 (n := 17) mixed Try.func63 rfl (by kernel_rfl) (by rw [hl]; kernel_rfl) rfl (by kernel_rfl) s
/-! ### math.bits.Mul64: function 64 -/
def r64_0 : List PS := [.mk (some 4) (.assign (.const (.int .u64 0))) none,
  .mk (some 5) (.assign (.const (.int .u64 0))) none]
def r64_1 : List PS := [.mk (some 14) (.move (.tmp 0)) none,
  .mk (some 15) (.binOp .and 77 (.tmp 14) (.const (.int .u64 4294967295)) 77) none,
  .mk (some 6) (.assign (.tmp 15)) none]
def r64_2 : List PS := [.mk (some 16) (.move (.tmp 0)) none,
  .mk (some 17) (.binOp .shr 77 (.tmp 16) (.const (.int .u64 32)) 64) none,
  .mk (some 7) (.assign (.tmp 17)) none]
def r64_3 : List PS := [.mk (some 18) (.move (.tmp 1)) none,
  .mk (some 19) (.binOp .and 77 (.tmp 18) (.const (.int .u64 4294967295)) 77) none,
  .mk (some 8) (.assign (.tmp 19)) none]
def r64_4 : List PS := [.mk (some 20) (.move (.tmp 1)) none,
  .mk (some 21) (.binOp .shr 77 (.tmp 20) (.const (.int .u64 32)) 64) none,
  .mk (some 9) (.assign (.tmp 21)) none]
def r64_5 : List PS := [.mk (some 22) (.move (.tmp 6)) none,
  .mk (some 23) (.move (.tmp 8)) none,
  .mk (some 24) (.binOp .mul 77 (.tmp 22) (.tmp 23) 77) none,
  .mk (some 10) (.assign (.tmp 24)) none]
def r64_6 : List PS := [.mk (some 25) (.move (.tmp 7)) none,
  .mk (some 26) (.move (.tmp 8)) none,
  .mk (some 27) (.binOp .mul 77 (.tmp 25) (.tmp 26) 77) none,
  .mk (some 28) (.move (.tmp 10)) none,
  .mk (some 29) (.binOp .shr 77 (.tmp 28) (.const (.int .u64 32)) 64) none,
  .mk (some 30) (.binOp .add 77 (.tmp 27) (.tmp 29) 77) none,
  .mk (some 11) (.assign (.tmp 30)) none]
def r64_7 : List PS := [.mk (some 31) (.move (.tmp 11)) none,
  .mk (some 32) (.binOp .and 77 (.tmp 31) (.const (.int .u64 4294967295)) 77) none,
  .mk (some 12) (.assign (.tmp 32)) none]
def r64_8 : List PS := [.mk (some 33) (.move (.tmp 11)) none,
  .mk (some 34) (.binOp .shr 77 (.tmp 33) (.const (.int .u64 32)) 64) none,
  .mk (some 13) (.assign (.tmp 34)) none]
def r64_9 : List PS := [.mk (some 35) (.move (.tmp 12)) none,
  .mk (some 36) (.move (.tmp 6)) none,
  .mk (some 37) (.move (.tmp 9)) none,
  .mk (some 38) (.binOp .mul 77 (.tmp 36) (.tmp 37) 77) none,
  .mk (some 39) (.binOp .add 77 (.tmp 35) (.tmp 38) 77) none,
  .mk (some 12) (.assign (.tmp 39)) none]
def r64_10 : List PS := [.mk (some 40) (.move (.tmp 7)) none,
  .mk (some 41) (.move (.tmp 9)) none,
  .mk (some 42) (.binOp .mul 77 (.tmp 40) (.tmp 41) 77) none,
  .mk (some 43) (.move (.tmp 13)) none,
  .mk (some 44) (.binOp .add 77 (.tmp 42) (.tmp 43) 77) none,
  .mk (some 45) (.move (.tmp 12)) none,
  .mk (some 46) (.binOp .shr 77 (.tmp 45) (.const (.int .u64 32)) 64) none,
  .mk (some 47) (.binOp .add 77 (.tmp 44) (.tmp 46) 77) none,
  .mk (some 4) (.assign (.tmp 47)) none]
def r64_11 : List PS := [.mk (some 48) (.move (.tmp 0)) none,
  .mk (some 49) (.move (.tmp 1)) none,
  .mk (some 50) (.binOp .mul 77 (.tmp 48) (.tmp 49) 77) none,
  .mk (some 5) (.assign (.tmp 50)) none]
def c64 : PC := (.seq (.reg false r64_0) (.seq (.reg false r64_1) (.seq (.reg false r64_2) (.seq (.reg false r64_3) (.seq (.reg false r64_4) (.seq (.reg false r64_5) (.seq (.reg false r64_6) (.seq (.reg false r64_7) (.seq (.reg false r64_8) (.seq (.reg false r64_9) (.seq (.reg false r64_10) (.seq (.reg false r64_11) .ret))))))))))))
theorem e64 {args : List PV} {h : Heap} {K : PV → Heap → Prop} (hl : args.length = 2) (s : pwp Try.prog [] c64 (fin Try.prog [.tmp 4, .tmp 5] h K) (slots0 (olds args)) h) : CanP Try.prog 64 args h K :=
  can_of2 (n := 51) mixed Try.func64 rfl (by kernel_rfl) (by rw [hl]; kernel_rfl) rfl (by kernel_rfl) s
/-! ### math.bits.Mul: function 56 -/
def r56_0 : List PS := [.mk (some 4) (.assign (.const (.int .u64 0))) none,
  .mk (some 5) (.assign (.const (.int .u64 0))) none]
def r56_1 : List PS := [.mk (some 11) (.move (.tmp 0)) none,
  .mk (some 12) (.convert 64 75 (.tmp 11)) none,
  .mk (some 13) (.move (.tmp 1)) none,
  .mk (some 14) (.convert 64 75 (.tmp 13)) none,
  .mk (some 15) (.call ⟨(.value (.func 63)), #[(.tmp 12), (.tmp 14)], #[75, 75]⟩) none,
  .mk (some 10) (.move (.tmp 15)) none,
  .mk (some 16) (.extract (.tmp 10) 0) none,
  .mk (some 17) (.extract (.tmp 10) 1) none,
  .mk (some 6) (.assign (.tmp 16)) none,
  .mk (some 7) (.assign (.tmp 17)) none]
def r56_2 : List PS := [.mk (some 18) (.move (.tmp 6)) none,
  .mk (some 19) (.convert 75 64 (.tmp 18)) none,
  .mk (some 20) (.move (.tmp 7)) none,
  .mk (some 21) (.convert 75 64 (.tmp 20)) none,
  .mk (some 4) (.assign (.tmp 19)) none,
  .mk (some 5) (.assign (.tmp 21)) none]
def r56_3 : List PS := [.mk (some 23) (.move (.tmp 0)) none,
  .mk (some 24) (.move (.tmp 1)) none,
  .mk (some 25) (.call ⟨(.value (.func 64)), #[(.tmp 23), (.tmp 24)], #[77, 77]⟩) none,
  .mk (some 22) (.move (.tmp 25)) none,
  .mk (some 26) (.extract (.tmp 22) 0) none,
  .mk (some 27) (.extract (.tmp 22) 1) none,
  .mk (some 8) (.assign (.tmp 26)) none,
  .mk (some 9) (.assign (.tmp 27)) none]
def r56_4 : List PS := [.mk (some 28) (.move (.tmp 8)) none,
  .mk (some 29) (.move (.tmp 9)) none,
  .mk (some 4) (.assign (.tmp 28)) none,
  .mk (some 5) (.assign (.tmp 29)) none]
def c56 : PC := (.seq (.reg false r56_0) (.seq (.cond (.const (.bool false)) (.seq (.reg false r56_1) (.seq (.reg false r56_2) .ret)) .skip) (.seq (.reg false r56_3) (.seq (.reg false r56_4) .ret))))
theorem e56 {args : List PV} {h : Heap} {K : PV → Heap → Prop} (hl : args.length = 2) (s : pwp Try.prog [] c56 (fin Try.prog [.tmp 4, .tmp 5] h K) (slots0 (olds args)) h) : CanP Try.prog 56 args h K :=
  can_of2 (n := 30) mixed Try.func56 rfl (by kernel_rfl) (by rw [hl]; kernel_rfl) rfl (by kernel_rfl) s
/-! ### slices.Repeat[[]int,int]: function 44 -/
def r44_0 : List PS := [.mk (some 4) (.assign (.const (.slice none 0 0))) none]
def r44_1 : List PS := [.mk (some 9) (.move (.tmp 1)) none,
  .mk (some 10) (.binOp .lss 3 (.tmp 9) (.const (.int .i64 0)) 3) none]
def r44_2 : List PS := [.mk (some 11) (.makeInterface 9 (.const (.string ⟨#[99, 97, 110, 110, 111, 116, 32, 98, 101, 32, 110, 101, 103, 97, 116, 105, 118, 101]⟩))) none,
  .mk none (.panic (.tmp 11)) none]
def r44_3 : List PS := [.mk (some 13) (.move (.tmp 0)) none,
  .mk (some 14) (.call ⟨(.builtin .len), #[(.tmp 13)], #[22]⟩) none,
  .mk (some 15) (.convert 3 64 (.tmp 14)) none,
  .mk (some 16) (.move (.tmp 1)) none,
  .mk (some 17) (.convert 3 64 (.tmp 16)) none,
  .mk (some 18) (.call ⟨(.value (.func 56)), #[(.tmp 15), (.tmp 17)], #[64, 64]⟩) none,
  .mk (some 12) (.move (.tmp 18)) none,
  .mk (some 19) (.extract (.tmp 12) 0) none,
  .mk (some 20) (.extract (.tmp 12) 1) none,
  .mk (some 5) (.assign (.tmp 19)) none,
  .mk (some 6) (.assign (.tmp 20)) none]
def r44_4 : List PS := [.mk (some 21) (.move (.tmp 5)) none,
  .mk (some 22) (.binOp .gtr 64 (.tmp 21) (.const (.int .u64 0)) 64) none,
  .mk (some 23) (.move (.tmp 22)) none,
  .mk (some 24) (.move (.tmp 6)) (some (23, false)),
  .mk (some 25) (.binOp .gtr 64 (.tmp 24) (.const (.int .u64 9223372036854775807)) 64) (some (23, false)),
  .mk (some 26) (.pick (.tmp 23) (.const (.bool true)) (.tmp 25)) none]
def r44_5 : List PS := [.mk (some 27) (.makeInterface 9 (.const (.string ⟨#[116, 104, 101, 32, 114, 101, 115, 117, 108, 116, 32, 111, 102, 32, 40, 108, 101, 110, 40, 120, 41, 32, 42, 32, 99, 111, 117, 110, 116, 41, 32, 111, 118, 101, 114, 102, 108, 111, 119, 115]⟩))) none,
  .mk none (.panic (.tmp 27)) none]
def r44_6 : List PS := [.mk (some 28) (.move (.tmp 6)) none,
  .mk (some 29) (.convert 64 3 (.tmp 28)) none,
  .mk (some 30) (.makeSlice 22 (.tmp 29) (.tmp 29)) none,
  .mk (some 7) (.assign (.tmp 30)) none]
def r44_7 : List PS := [.mk (some 31) (.move (.tmp 7)) none,
  .mk (some 32) (.move (.tmp 0)) none,
  .mk (some 33) (.call ⟨(.builtin .copy), #[(.tmp 31), (.tmp 32)], #[22, 22]⟩) none,
  .mk (some 8) (.assign (.tmp 33)) none]
def r44_8 : List PS := [.mk (some 34) (.move (.tmp 8)) none,
  .mk (some 35) (.move (.tmp 7)) none,
  .mk (some 36) (.call ⟨(.builtin .len), #[(.tmp 35)], #[22]⟩) none,
  .mk (some 37) (.binOp .lss 3 (.tmp 34) (.tmp 36) 3) none]
def r44_9 : List PS := [.mk (some 38) (.move (.tmp 8)) none,
  .mk (some 39) (.move (.tmp 7)) none,
  .mk (some 40) (.move (.tmp 8)) none,
  .mk (some 41) (.slice 22 (.tmp 39) (some (.tmp 40)) none none) none,
  .mk (some 42) (.move (.tmp 7)) none,
  .mk (some 43) (.move (.tmp 8)) none,
  .mk (some 44) (.slice 22 (.tmp 42) none (some (.tmp 43)) none) none,
  .mk (some 45) (.call ⟨(.builtin .copy), #[(.tmp 41), (.tmp 44)], #[22, 22]⟩) none,
  .mk (some 46) (.binOp .add 3 (.tmp 38) (.tmp 45) 3) none,
  .mk (some 8) (.assign (.tmp 46)) none]
def r44_10 : List PS := [.mk (some 47) (.move (.tmp 7)) none,
  .mk (some 4) (.assign (.tmp 47)) none]
def c44 : PC := (.seq (.reg false r44_0) (.seq (.seq (.reg false r44_1) (.cond (.tmp 10) (.reg false r44_2) .skip)) (.seq (.reg false r44_3) (.seq (.seq (.reg false r44_4) (.cond (.tmp 26) (.reg false r44_5) .skip)) (.seq (.reg false r44_6) (.seq (.reg false r44_7) (.seq (.block 0 (.loop (.seq (.seq (.reg false r44_8) (.cond (.tmp 37) .skip (.exit 0))) (.block 1 (.reg true r44_9))))) (.seq (.reg false r44_10) .ret))))))))
theorem e44 {args : List PV} {h : Heap} {K : PV → Heap → Prop} (hl : args.length = 2) (s : pwp Try.prog [] c44 (fin Try.prog [.tmp 4] h K) (slots0 (olds args)) h) : CanP Try.prog 44 args h K :=
  can_of2 (n := 48) mixed Try.func44 rfl (by kernel_rfl) (by rw [hl]; kernel_rfl) rfl (by kernel_rfl) s
/-! ### naskh.order.places: function 40 -/
def r40_0 : List PS := [.mk (some 2) (.assign (.const (.slice none 0 0))) none,
  .mk (some 3) (.assign (.const (.bool false))) none]
def r40_1 : List PS := [.mk (some 7) (.buildSlice 22 1 #[(0, (.const (.int .i64 (-1))))]) none,
  .mk (some 8) (.move (.tmp 0)) none,
  .mk (some 9) (.call ⟨(.builtin .len), #[(.tmp 8)], #[22]⟩) none,
  .mk (some 10) (.call ⟨(.value (.func 44)), #[(.tmp 7), (.tmp 9)], #[22, 3]⟩) none,
  .mk (some 4) (.assign (.tmp 10)) none]
def r40_2 : List PS := [.mk (some 11) (.move (.tmp 0)) none,
  .mk (some 12) (.call ⟨(.builtin .len), #[(.tmp 11)], #[22]⟩) none,
  .mk (some 13) (.move (.const (.int .i64 0))) none]
def r40_3 : List PS := [.mk (some 14) (.binOp .lss 3 (.tmp 13) (.tmp 12) 3) none]
def r40_4 : List PS := [.mk (some 15) (.move (.tmp 13)) none,
  .mk (some 16) (.indexAddr 22 (.tmp 11) (.tmp 13)) none,
  .mk (some 17) (.load 3 (.tmp 16)) none,
  .mk (some 5) (.assign (.tmp 15)) none,
  .mk (some 6) (.assign (.tmp 17)) none]
def r40_5 : List PS := [.mk (some 18) (.move (.tmp 6)) none,
  .mk (some 19) (.binOp .lss 3 (.tmp 18) (.const (.int .i64 0)) 3) none,
  .mk (some 20) (.move (.tmp 19)) none,
  .mk (some 21) (.move (.tmp 6)) (some (20, false)),
  .mk (some 22) (.move (.tmp 0)) (some (20, false)),
  .mk (some 23) (.call ⟨(.builtin .len), #[(.tmp 22)], #[22]⟩) (some (20, false)),
  .mk (some 24) (.binOp .geq 3 (.tmp 21) (.tmp 23) 3) (some (20, false)),
  .mk (some 25) (.pick (.tmp 20) (.const (.bool true)) (.tmp 24)) none,
  .mk (some 26) (.move (.tmp 25)) none,
  .mk (some 27) (.move (.tmp 4)) (some (26, false)),
  .mk (some 28) (.move (.tmp 6)) (some (26, false)),
  .mk (some 29) (.indexAddr 22 (.tmp 27) (.tmp 28)) (some (26, false)),
  .mk (some 30) (.load 3 (.tmp 29)) (some (26, false)),
  .mk (some 31) (.binOp .geq 3 (.tmp 30) (.const (.int .i64 0)) 3) (some (26, false)),
  .mk (some 32) (.pick (.tmp 26) (.const (.bool true)) (.tmp 31)) none]
def r40_6 : List PS := [.mk (some 2) (.assign (.const (.slice none 0 0))) none,
  .mk (some 3) (.assign (.const (.bool false))) none]
def r40_7 : List PS := [.mk (some 33) (.move (.tmp 4)) none,
  .mk (some 34) (.move (.tmp 6)) none,
  .mk (some 35) (.move (.tmp 5)) none,
  .mk (some 36) (.indexAddr 22 (.tmp 33) (.tmp 34)) none,
  .mk none (.store 3 (.tmp 36) (.tmp 35)) none]
def r40_8 : List PS := [.mk (some 37) (.binOp .add 3 (.tmp 13) (.const (.int .i64 1)) 3) none,
  .mk (some 13) (.move (.tmp 37)) none]
def r40_9 : List PS := [.mk (some 38) (.move (.tmp 4)) none,
  .mk (some 2) (.assign (.tmp 38)) none,
  .mk (some 3) (.assign (.const (.bool true))) none]
def c40 : PC := (.seq (.reg false r40_0) (.seq (.reg false r40_1) (.seq (.seq (.reg false r40_2) (.block 0 (.loop (.seq (.reg false r40_3) (.seq (.cond (.tmp 14) .skip (.exit 0)) (.seq (.block 1 (.seq (.reg false r40_4) (.seq (.seq (.reg false r40_5) (.cond (.tmp 32) (.seq (.reg false r40_6) .ret) .skip)) (.reg false r40_7)))) (.reg false r40_8))))))) (.seq (.reg false r40_9) .ret))))
theorem e40 {args : List PV} {h : Heap} {K : PV → Heap → Prop} (hl : args.length = 1) (s : pwp Try.prog [] c40 (fin Try.prog [.tmp 2, .tmp 3] h K) (slots0 (olds args)) h) : CanP Try.prog 40 args h K :=
  can_of2 (n := 39) mixed Try.func40 rfl (by kernel_rfl) (by rw [hl]; kernel_rfl) rfl (by kernel_rfl) s
/-! ### naskh.order.Permutes: function 34 -/
def r34_0 : List PS := [.mk (some 2) (.assign (.const (.bool false))) none]
def r34_1 : List PS := [.mk (some 6) (.move (.tmp 0)) none,
  .mk (some 7) (.call ⟨(.value (.func 40)), #[(.tmp 6)], #[22]⟩) none,
  .mk (some 5) (.move (.tmp 7)) none,
  .mk (some 8) (.extract (.tmp 5) 0) none,
  .mk (some 9) (.extract (.tmp 5) 1) none,
  .mk (some 3) (.assign (.tmp 8)) none,
  .mk (some 4) (.assign (.tmp 9)) none]
def r34_2 : List PS := [.mk (some 10) (.move (.tmp 4)) none,
  .mk (some 2) (.assign (.tmp 10)) none]
def c34 : PC := (.seq (.reg false r34_0) (.seq (.reg false r34_1) (.seq (.reg false r34_2) .ret)))
theorem e34 {args : List PV} {h : Heap} {K : PV → Heap → Prop} (hl : args.length = 1) (s : pwp Try.prog [] c34 (fin Try.prog [.tmp 2] h K) (slots0 (olds args)) h) : CanP Try.prog 34 args h K :=
  can_of2 (n := 11) mixed Try.func34 rfl (by kernel_rfl) (by rw [hl]; kernel_rfl) rfl (by kernel_rfl) s
/-! ### naskh.pick.may: function 22 -/
def r22_0 : List PS := [.mk (some 4) (.assign (.const (.int .i64 0))) none]
def r22_1 : List PS := [.mk (some 7) (.move (.tmp 0)) none,
  .mk (some 8) (.call ⟨(.value (.func 34)), #[(.tmp 7)], #[22]⟩) none,
  .mk (some 9) (.unOp .not 4 (.tmp 8)) none]
def r22_2 : List PS := [.mk (some 4) (.assign (.const (.int .i64 13))) none]
def r22_3 : List PS := [.mk (some 10) (.move (.tmp 1)) none,
  .mk (some 11) (.call ⟨(.builtin .len), #[(.tmp 10)], #[27]⟩) none,
  .mk (some 12) (.move (.const (.int .i64 0))) none]
def r22_4 : List PS := [.mk (some 13) (.binOp .lss 3 (.tmp 12) (.tmp 11) 3) none]
def r22_5 : List PS := [.mk (some 14) (.indexAddr 27 (.tmp 10) (.tmp 12)) none,
  .mk (some 15) (.load 25 (.tmp 14)) none,
  .mk (some 6) (.alloc 25) none,
  .mk none (.store 25 (.tmp 6) (.tmp 15)) none,
  .frz 6]
def r22_6 : List PS := [.mk (some 16) (.load 25 (.tmp 6)) none,
  .mk (some 17) (.call ⟨(.value (.func 26)), #[(.tmp 16)], #[25]⟩) none,
  .mk (some 18) (.unOp .not 4 (.tmp 17)) none,
  .mk (some 19) (.move (.tmp 18)) none,
  .mk (some 20) (.fieldAddr 25 (.tmp 6) 1) (some (19, false)),
  .mk (some 21) (.load 3 (.tmp 20)) (some (19, false)),
  .mk (some 22) (.move (.tmp 0)) (some (19, false)),
  .mk (some 23) (.call ⟨(.builtin .len), #[(.tmp 22)], #[22]⟩) (some (19, false)),
  .mk (some 24) (.binOp .gtr 3 (.tmp 21) (.tmp 23) 3) (some (19, false)),
  .mk (some 25) (.pick (.tmp 19) (.const (.bool true)) (.tmp 24)) none]
def r22_7 : List PS := [.mk (some 4) (.assign (.const (.int .i64 1))) none]
def r22_8 : List PS := [.mk (some 26) (.binOp .add 3 (.tmp 12) (.const (.int .i64 1)) 3) none,
  .mk (some 12) (.move (.tmp 26)) none]
def r22_9 : List PS := [.mk (some 4) (.assign (.const (.int .i64 0))) none]
def c22 : PC := (.seq (.reg false r22_0) (.seq (.seq (.reg false r22_1) (.cond (.tmp 9) (.seq (.reg false r22_2) .ret) .skip)) (.seq (.seq (.reg false r22_3) (.block 0 (.loop (.seq (.reg false r22_4) (.seq (.cond (.tmp 13) .skip (.exit 0)) (.seq (.block 1 (.seq (.reg false r22_5) (.seq (.reg false r22_6) (.cond (.tmp 25) (.seq (.reg false r22_7) .ret) .skip)))) (.reg false r22_8))))))) (.seq (.reg false r22_9) .ret))))
theorem e22 {args : List PV} {h : Heap} {K : PV → Heap → Prop} (hl : args.length = 2) (s : pwp Try.prog [6] c22 (fin Try.prog [.tmp 4] h K) (slots0 (olds args)) h) : CanP Try.prog 22 args h K :=
  can_of2 (n := 27) mixed Try.func22 rfl (by kernel_rfl) (by rw [hl]; kernel_rfl) rfl (by kernel_rfl) s
/-! ### naskh.pick.merged: function 23 -/
def r23_0 : List PS := [.mk (some 2) (.assign (.const (.slice none 0 0))) none]
def r23_1 : List PS := [.mk (some 3) (.assign (.const (.slice none 0 0))) none]
def r23_2 : List PS := [.mk (some 7) (.move (.tmp 0)) none,
  .mk (some 8) (.call ⟨(.builtin .len), #[(.tmp 7)], #[22]⟩) none,
  .mk (some 9) (.move (.const (.int .i64 0))) none]
def r23_3 : List PS := [.mk (some 10) (.binOp .lss 3 (.tmp 9) (.tmp 8) 3) none]
def r23_4 : List PS := [.mk (some 11) (.indexAddr 22 (.tmp 7) (.tmp 9)) none,
  .mk (some 12) (.load 3 (.tmp 11)) none,
  .mk (some 5) (.assign (.tmp 12)) none]
def r23_5 : List PS := [.mk (some 13) (.move (.tmp 3)) none,
  .mk (some 14) (.call ⟨(.builtin .len), #[(.tmp 13)], #[27]⟩) none,
  .mk (some 15) (.binOp .sub 3 (.tmp 14) (.const (.int .i64 1)) 3) none,
  .mk (some 6) (.assign (.tmp 15)) none]
def r23_6 : List PS := [.mk (some 16) (.move (.tmp 6)) none,
  .mk (some 17) (.binOp .geq 3 (.tmp 16) (.const (.int .i64 0)) 3) none,
  .mk (some 18) (.move (.tmp 17)) none,
  .mk (some 19) (.move (.tmp 3)) (some (18, true)),
  .mk (some 20) (.move (.tmp 6)) (some (18, true)),
  .mk (some 21) (.indexAddr 27 (.tmp 19) (.tmp 20)) (some (18, true)),
  .mk (some 22) (.fieldAddr 25 (.tmp 21) 1) (some (18, true)),
  .mk (some 23) (.load 3 (.tmp 22)) (some (18, true)),
  .mk (some 24) (.move (.tmp 5)) (some (18, true)),
  .mk (some 25) (.binOp .eql 3 (.tmp 23) (.tmp 24) 3) (some (18, true)),
  .mk (some 26) (.pick (.tmp 18) (.tmp 25) (.const (.bool false))) none]
def r23_7 : List PS := [.mk (some 27) (.move (.tmp 3)) none,
  .mk (some 28) (.move (.tmp 6)) none,
  .mk (some 29) (.indexAddr 27 (.tmp 27) (.tmp 28)) none,
  .mk (some 30) (.fieldAddr 25 (.tmp 29) 1) none,
  .mk (some 31) (.load 3 (.tmp 30)) none,
  .mk (some 32) (.binOp .add 3 (.tmp 31) (.const (.int .i64 1)) 3) none,
  .mk (some 33) (.indexAddr 27 (.tmp 27) (.tmp 28)) none,
  .mk (some 34) (.fieldAddr 25 (.tmp 33) 1) none,
  .mk none (.store 3 (.tmp 34) (.tmp 32)) none]
def r23_8 : List PS := [.mk (some 35) (.move (.tmp 3)) none,
  .mk (some 36) (.move (.tmp 5)) none,
  .mk (some 37) (.move (.tmp 5)) none,
  .mk (some 38) (.binOp .add 3 (.tmp 37) (.const (.int .i64 1)) 3) none,
  .mk (some 39) (.build 25 #[(0, (.tmp 36)), (1, (.tmp 38))]) none,
  .mk (some 40) (.buildSlice 27 1 #[(0, (.tmp 39))]) none,
  .mk (some 41) (.call ⟨(.builtin .append), #[(.tmp 35), (.tmp 40)], #[27, 27]⟩) none,
  .mk (some 3) (.assign (.tmp 41)) none]
def r23_9 : List PS := [.mk (some 42) (.binOp .add 3 (.tmp 9) (.const (.int .i64 1)) 3) none,
  .mk (some 9) (.move (.tmp 42)) none]
def r23_10 : List PS := [.mk (some 43) (.move (.tmp 3)) none,
  .mk (some 2) (.assign (.tmp 43)) none]
def c23 : PC := (.seq (.reg false r23_0) (.seq (.reg false r23_1) (.seq (.seq (.reg false r23_2) (.block 0 (.loop (.seq (.reg false r23_3) (.seq (.cond (.tmp 10) .skip (.exit 0)) (.seq (.block 1 (.seq (.reg false r23_4) (.seq (.seq (.reg false r23_5) (.seq (.reg false r23_6) (.cond (.tmp 26) (.seq (.reg false r23_7) (.exit 1)) .skip))) (.reg false r23_8)))) (.reg false r23_9))))))) (.seq (.reg false r23_10) .ret))))
theorem e23 {args : List PV} {h : Heap} {K : PV → Heap → Prop} (hl : args.length = 1) (s : pwp Try.prog [] c23 (fin Try.prog [.tmp 2] h K) (slots0 (olds args)) h) : CanP Try.prog 23 args h K :=
  can_of2 (n := 44) mixed Try.func23 rfl (by kernel_rfl) (by rw [hl]; kernel_rfl) rfl (by kernel_rfl) s
/-! ### naskh.pick.Seen: function 8 -/
def r8_0 : List PS := [.mk (some 3) (.box 25 (.tmp 1)) none,
  .mk (some 4) (.assign (.const (.slice none 0 0))) none,
  .mk (some 5) (.assign (.const (.int .i64 0))) none]
def r8_1 : List PS := [.mk (some 10) (.move (.tmp 0)) none,
  .mk (some 11) (.load 25 (.tmp 3)) none,
  .mk (some 12) (.buildSlice 27 1 #[(0, (.tmp 11))]) none,
  .mk (some 13) (.call ⟨(.value (.func 22)), #[(.tmp 10), (.tmp 12)], #[22, 27]⟩) none,
  .mk (some 6) (.assign (.tmp 13)) none]
def r8_2 : List PS := [.mk (some 14) (.move (.tmp 6)) none,
  .mk (some 15) (.binOp .neq 28 (.tmp 14) (.const (.int .i64 0)) 28) none]
def r8_3 : List PS := [.mk (some 16) (.move (.tmp 6)) none,
  .mk (some 4) (.assign (.const (.slice none 0 0))) none,
  .mk (some 5) (.assign (.tmp 16)) none]
def r8_4 : List PS := [.mk (some 7) (.assign (.const (.slice none 0 0))) none]
def r8_5 : List PS := [.mk (some 17) (.move (.tmp 0)) none,
  .mk (some 18) (.call ⟨(.builtin .len), #[(.tmp 17)], #[22]⟩) none,
  .mk (some 19) (.move (.const (.int .i64 0))) none]
def r8_6 : List PS := [.mk (some 20) (.binOp .lss 3 (.tmp 19) (.tmp 18) 3) none]
def r8_7 : List PS := [.mk (some 21) (.move (.tmp 19)) none,
  .mk (some 22) (.indexAddr 22 (.tmp 17) (.tmp 19)) none,
  .mk (some 23) (.load 3 (.tmp 22)) none,
  .mk (some 8) (.assign (.tmp 21)) none,
  .mk (some 9) (.assign (.tmp 23)) none]
def r8_8 : List PS := [.mk (some 24) (.load 25 (.tmp 3)) none,
  .mk (some 25) (.move (.tmp 9)) none,
  .mk (some 26) (.call ⟨(.value (.func 11)), #[(.tmp 24), (.tmp 25)], #[25, 3]⟩) none]
def r8_9 : List PS := [.mk (some 27) (.move (.tmp 7)) none,
  .mk (some 28) (.move (.tmp 8)) none,
  .mk (some 29) (.buildSlice 22 1 #[(0, (.tmp 28))]) none,
  .mk (some 30) (.call ⟨(.builtin .append), #[(.tmp 27), (.tmp 29)], #[22, 22]⟩) none,
  .mk (some 7) (.assign (.tmp 30)) none]
def r8_10 : List PS := [.mk (some 31) (.binOp .add 3 (.tmp 19) (.const (.int .i64 1)) 3) none,
  .mk (some 19) (.move (.tmp 31)) none]
def r8_11 : List PS := [.frz 7,
  .mk (some 32) (.move (.tmp 7)) none,
  .mk (some 33) (.call ⟨(.value (.func 23)), #[(.tmp 32)], #[22]⟩) none,
  .mk (some 4) (.assign (.tmp 33)) none,
  .mk (some 5) (.assign (.const (.int .i64 0))) none]
def c8 : PC := (.seq (.reg false r8_0) (.seq (.seq (.reg false r8_1) (.seq (.reg false r8_2) (.cond (.tmp 15) (.seq (.reg false r8_3) .ret) .skip))) (.seq (.reg false r8_4) (.seq (.seq (.reg false r8_5) (.block 0 (.loop (.seq (.reg false r8_6) (.seq (.cond (.tmp 20) .skip (.exit 0)) (.seq (.block 1 (.seq (.reg false r8_7) (.seq (.reg false r8_8) (.cond (.tmp 26) (.reg false r8_9) .skip)))) (.reg false r8_10))))))) (.seq (.reg false r8_11) .ret)))))
theorem e8 {args : List PV} {h : Heap} {K : PV → Heap → Prop} (hl : args.length = 2) (s : pwp Try.prog [] c8 (fin Try.prog [.tmp 4, .tmp 5] h K) (slots0 (olds args)) h) : CanP Try.prog 8 args h K :=
  can_of2 (n := 34) mixed Try.func8 rfl (by kernel_rfl) (by rw [hl]; kernel_rfl) rfl (by kernel_rfl) s
/-! ### slices.Collect[int]: function 35 -/
def r35_0 : List PS := [.mk (some 2) (.assign (.const (.slice none 0 0))) none]
def r35_1 : List PS := [.mk (some 3) (.move (.tmp 0)) none,
  .mk (some 4) (.call ⟨(.value (.func 41)), #[(.const (.slice none 0 0)), (.tmp 3)], #[22, 48]⟩) none,
  .mk (some 2) (.assign (.tmp 4)) none]
def c35 : PC := (.seq (.reg false r35_0) (.seq (.reg false r35_1) .ret))
theorem e35 {args : List PV} {h : Heap} {K : PV → Heap → Prop} (hl : args.length = 1) (s : pwp Try.prog [] c35 (fin Try.prog [.tmp 2] h K) (slots0 (olds args)) h) : CanP Try.prog 35 args h K :=
  can_of2 (n := 5) mixed Try.func35 rfl (by kernel_rfl) (by rw [hl]; kernel_rfl) rfl (by kernel_rfl) s
/-! ### cmp.isNaN[int]: function 62 -/
def r62_0 : List PS := [.mk (some 2) (.assign (.const (.bool false))) none]
def r62_1 : List PS := [.mk (some 3) (.move (.tmp 0)) none,
  .mk (some 4) (.move (.tmp 0)) none,
  .mk (some 5) (.binOp .neq 3 (.tmp 3) (.tmp 4) 3) none,
  .mk (some 2) (.assign (.tmp 5)) none]
def c62 : PC := (.seq (.reg false r62_0) (.seq (.reg false r62_1) .ret))
theorem e62 {args : List PV} {h : Heap} {K : PV → Heap → Prop} (hl : args.length = 1) (s : pwp Try.prog [] c62 (fin Try.prog [.tmp 2] h K) (slots0 (olds args)) h) : CanP Try.prog 62 args h K :=
  can_of2 (n := 6) mixed Try.func62 rfl (by kernel_rfl) (by rw [hl]; kernel_rfl) rfl (by kernel_rfl) s
/-! ### cmp.Less[int]: function 51 -/
def r51_0 : List PS := [.mk (some 4) (.assign (.const (.bool false))) none]
def r51_1 : List PS := [.mk (some 5) (.move (.tmp 0)) none,
  .mk (some 6) (.call ⟨(.value (.func 62)), #[(.tmp 5)], #[3]⟩) none,
  .mk (some 7) (.move (.tmp 6)) none,
  .mk (some 8) (.move (.tmp 1)) (some (7, true)),
  .mk (some 9) (.call ⟨(.value (.func 62)), #[(.tmp 8)], #[3]⟩) (some (7, true)),
  .mk (some 10) (.unOp .not 4 (.tmp 9)) (some (7, true)),
  .mk (some 11) (.pick (.tmp 7) (.tmp 10) (.const (.bool false))) none,
  .mk (some 12) (.move (.tmp 11)) none,
  .mk (some 13) (.move (.tmp 0)) (some (12, false)),
  .mk (some 14) (.move (.tmp 1)) (some (12, false)),
  .mk (some 15) (.binOp .lss 3 (.tmp 13) (.tmp 14) 3) (some (12, false)),
  .mk (some 16) (.pick (.tmp 12) (.const (.bool true)) (.tmp 15)) none,
  .mk (some 4) (.assign (.tmp 16)) none]
def c51 : PC := (.seq (.reg false r51_0) (.seq (.reg false r51_1) .ret))
theorem e51 {args : List PV} {h : Heap} {K : PV → Heap → Prop} (hl : args.length = 2) (s : pwp Try.prog [] c51 (fin Try.prog [.tmp 4] h K) (slots0 (olds args)) h) : CanP Try.prog 51 args h K :=
  can_of2 (n := 17) mixed Try.func51 rfl (by kernel_rfl) (by rw [hl]; kernel_rfl) rfl (by kernel_rfl) s
/-! ### slices.insertionSortOrdered[int]: function 45 -/
def r45_0 : List PS := [.mk (some 8) (.move (.tmp 1)) none,
  .mk (some 9) (.binOp .add 3 (.tmp 8) (.const (.int .i64 1)) 3) none,
  .mk (some 6) (.assign (.tmp 9)) none]
def r45_1 : List PS := [.mk (some 10) (.move (.tmp 6)) none,
  .mk (some 11) (.move (.tmp 2)) none,
  .mk (some 12) (.binOp .lss 3 (.tmp 10) (.tmp 11) 3) none]
def r45_2 : List PS := [.mk (some 15) (.move (.tmp 6)) none,
  .mk (some 7) (.assign (.tmp 15)) none]
def r45_3 : List PS := [.mk (some 16) (.move (.tmp 7)) none,
  .mk (some 17) (.move (.tmp 1)) none,
  .mk (some 18) (.binOp .gtr 3 (.tmp 16) (.tmp 17) 3) none,
  .mk (some 19) (.move (.tmp 18)) none,
  .mk (some 20) (.move (.tmp 0)) (some (19, true)),
  .mk (some 21) (.move (.tmp 7)) (some (19, true)),
  .mk (some 22) (.indexAddr 22 (.tmp 20) (.tmp 21)) (some (19, true)),
  .mk (some 23) (.load 3 (.tmp 22)) (some (19, true)),
  .mk (some 24) (.move (.tmp 0)) (some (19, true)),
  .mk (some 25) (.move (.tmp 7)) (some (19, true)),
  .mk (some 26) (.binOp .sub 3 (.tmp 25) (.const (.int .i64 1)) 3) (some (19, true)),
  .mk (some 27) (.indexAddr 22 (.tmp 24) (.tmp 26)) (some (19, true)),
  .mk (some 28) (.load 3 (.tmp 27)) (some (19, true)),
  .mk (some 29) (.call ⟨(.value (.func 51)), #[(.tmp 23), (.tmp 28)], #[3, 3]⟩) (some (19, true)),
  .mk (some 30) (.pick (.tmp 19) (.tmp 29) (.const (.bool false))) none]
def r45_4 : List PS := [.mk (some 33) (.move (.tmp 0)) none,
  .mk (some 34) (.move (.tmp 7)) none,
  .mk (some 35) (.move (.tmp 0)) none,
  .mk (some 36) (.move (.tmp 7)) none,
  .mk (some 37) (.binOp .sub 3 (.tmp 36) (.const (.int .i64 1)) 3) none,
  .mk (some 38) (.move (.tmp 0)) none,
  .mk (some 39) (.move (.tmp 7)) none,
  .mk (some 40) (.binOp .sub 3 (.tmp 39) (.const (.int .i64 1)) 3) none,
  .mk (some 41) (.indexAddr 22 (.tmp 38) (.tmp 40)) none,
  .mk (some 42) (.load 3 (.tmp 41)) none,
  .mk (some 43) (.move (.tmp 0)) none,
  .mk (some 44) (.move (.tmp 7)) none,
  .mk (some 45) (.indexAddr 22 (.tmp 43) (.tmp 44)) none,
  .mk (some 46) (.load 3 (.tmp 45)) none,
  .mk (some 47) (.indexAddr 22 (.tmp 33) (.tmp 34)) none,
  .mk none (.store 3 (.tmp 47) (.tmp 42)) none,
  .mk (some 48) (.indexAddr 22 (.tmp 35) (.tmp 37)) none,
  .mk none (.store 3 (.tmp 48) (.tmp 46)) none]
def r45_5 : List PS := [.mk (some 31) (.move (.tmp 7)) none,
  .mk (some 32) (.binOp .sub 3 (.tmp 31) (.const (.int .i64 1)) 3) none,
  .mk (some 7) (.assign (.tmp 32)) none]
def r45_6 : List PS := [.mk (some 13) (.move (.tmp 6)) none,
  .mk (some 14) (.binOp .add 3 (.tmp 13) (.const (.int .i64 1)) 3) none,
  .mk (some 6) (.assign (.tmp 14)) none]
def c45 : PC := (.seq (.reg false r45_0) (.block 0 (.loop (.seq (.seq (.reg false r45_1) (.cond (.tmp 12) .skip (.exit 0))) (.seq (.block 1 (.seq (.reg false r45_2) (.block 2 (.loop (.seq (.seq (.reg true r45_3) (.cond (.tmp 30) .skip (.exit 2))) (.seq (.block 3 (.reg true r45_4)) (.reg false r45_5))))))) (.reg false r45_6))))))
theorem e45 {args : List PV} {h : Heap} {K : PV → Heap → Prop} (hl : args.length = 3) (s : pwp Try.prog [] c45 (fin Try.prog [] h K) (slots0 (olds args)) h) : CanP Try.prog 45 args h K :=
  can_of2 (n := 49) mixed Try.func45 rfl (by kernel_rfl) (by rw [hl]; kernel_rfl) rfl (by kernel_rfl) s
/-! ### slices.siftDownOrdered[int]: function 57 -/
def r57_0 : List PS := [.mk (some 10) (.move (.tmp 1)) none,
  .mk (some 8) (.assign (.tmp 10)) none]
def r57_1 : List PS := [.mk (some 11) (.move (.tmp 8)) none,
  .mk (some 12) (.binOp .mul 3 (.const (.int .i64 2)) (.tmp 11) 3) none,
  .mk (some 13) (.binOp .add 3 (.tmp 12) (.const (.int .i64 1)) 3) none,
  .mk (some 9) (.assign (.tmp 13)) none]
def r57_2 : List PS := [.mk (some 14) (.move (.tmp 9)) none,
  .mk (some 15) (.move (.tmp 2)) none,
  .mk (some 16) (.binOp .geq 3 (.tmp 14) (.tmp 15) 3) none]
def r57_3 : List PS := [.mk (some 17) (.move (.tmp 9)) none,
  .mk (some 18) (.binOp .add 3 (.tmp 17) (.const (.int .i64 1)) 3) none,
  .mk (some 19) (.move (.tmp 2)) none,
  .mk (some 20) (.binOp .lss 3 (.tmp 18) (.tmp 19) 3) none,
  .mk (some 21) (.move (.tmp 20)) none,
  .mk (some 22) (.move (.tmp 0)) (some (21, true)),
  .mk (some 23) (.move (.tmp 3)) (some (21, true)),
  .mk (some 24) (.move (.tmp 9)) (some (21, true)),
  .mk (some 25) (.binOp .add 3 (.tmp 23) (.tmp 24) 3) (some (21, true)),
  .mk (some 26) (.indexAddr 22 (.tmp 22) (.tmp 25)) (some (21, true)),
  .mk (some 27) (.load 3 (.tmp 26)) (some (21, true)),
  .mk (some 28) (.move (.tmp 0)) (some (21, true)),
  .mk (some 29) (.move (.tmp 3)) (some (21, true)),
  .mk (some 30) (.move (.tmp 9)) (some (21, true)),
  .mk (some 31) (.binOp .add 3 (.tmp 29) (.tmp 30) 3) (some (21, true)),
  .mk (some 32) (.binOp .add 3 (.tmp 31) (.const (.int .i64 1)) 3) (some (21, true)),
  .mk (some 33) (.indexAddr 22 (.tmp 28) (.tmp 32)) (some (21, true)),
  .mk (some 34) (.load 3 (.tmp 33)) (some (21, true)),
  .mk (some 35) (.call ⟨(.value (.func 51)), #[(.tmp 27), (.tmp 34)], #[3, 3]⟩) (some (21, true)),
  .mk (some 36) (.pick (.tmp 21) (.tmp 35) (.const (.bool false))) none]
def r57_4 : List PS := [.mk (some 37) (.move (.tmp 9)) none,
  .mk (some 38) (.binOp .add 3 (.tmp 37) (.const (.int .i64 1)) 3) none,
  .mk (some 9) (.assign (.tmp 38)) none]
def r57_5 : List PS := [.mk (some 39) (.move (.tmp 0)) none,
  .mk (some 40) (.move (.tmp 3)) none,
  .mk (some 41) (.move (.tmp 8)) none,
  .mk (some 42) (.binOp .add 3 (.tmp 40) (.tmp 41) 3) none,
  .mk (some 43) (.indexAddr 22 (.tmp 39) (.tmp 42)) none,
  .mk (some 44) (.load 3 (.tmp 43)) none,
  .mk (some 45) (.move (.tmp 0)) none,
  .mk (some 46) (.move (.tmp 3)) none,
  .mk (some 47) (.move (.tmp 9)) none,
  .mk (some 48) (.binOp .add 3 (.tmp 46) (.tmp 47) 3) none,
  .mk (some 49) (.indexAddr 22 (.tmp 45) (.tmp 48)) none,
  .mk (some 50) (.load 3 (.tmp 49)) none,
  .mk (some 51) (.call ⟨(.value (.func 51)), #[(.tmp 44), (.tmp 50)], #[3, 3]⟩) none,
  .mk (some 52) (.unOp .not 4 (.tmp 51)) none]
def r57_6 : List PS := [.mk (some 53) (.move (.tmp 0)) none,
  .mk (some 54) (.move (.tmp 3)) none,
  .mk (some 55) (.move (.tmp 8)) none,
  .mk (some 56) (.binOp .add 3 (.tmp 54) (.tmp 55) 3) none,
  .mk (some 57) (.move (.tmp 0)) none,
  .mk (some 58) (.move (.tmp 3)) none,
  .mk (some 59) (.move (.tmp 9)) none,
  .mk (some 60) (.binOp .add 3 (.tmp 58) (.tmp 59) 3) none,
  .mk (some 61) (.move (.tmp 0)) none,
  .mk (some 62) (.move (.tmp 3)) none,
  .mk (some 63) (.move (.tmp 9)) none,
  .mk (some 64) (.binOp .add 3 (.tmp 62) (.tmp 63) 3) none,
  .mk (some 65) (.indexAddr 22 (.tmp 61) (.tmp 64)) none,
  .mk (some 66) (.load 3 (.tmp 65)) none,
  .mk (some 67) (.move (.tmp 0)) none,
  .mk (some 68) (.move (.tmp 3)) none,
  .mk (some 69) (.move (.tmp 8)) none,
  .mk (some 70) (.binOp .add 3 (.tmp 68) (.tmp 69) 3) none,
  .mk (some 71) (.indexAddr 22 (.tmp 67) (.tmp 70)) none,
  .mk (some 72) (.load 3 (.tmp 71)) none,
  .mk (some 73) (.indexAddr 22 (.tmp 53) (.tmp 56)) none,
  .mk none (.store 3 (.tmp 73) (.tmp 66)) none,
  .mk (some 74) (.indexAddr 22 (.tmp 57) (.tmp 60)) none,
  .mk none (.store 3 (.tmp 74) (.tmp 72)) none]
def r57_7 : List PS := [.mk (some 75) (.move (.tmp 9)) none,
  .mk (some 8) (.assign (.tmp 75)) none]
def c57 : PC := (.seq (.reg false r57_0) (.block 0 (.loop (.block 1 (.seq (.reg false r57_1) (.seq (.seq (.reg false r57_2) (.cond (.tmp 16) (.exit 0) .skip)) (.seq (.seq (.reg true r57_3) (.cond (.tmp 36) (.reg false r57_4) .skip)) (.seq (.seq (.reg true r57_5) (.cond (.tmp 52) .ret .skip)) (.seq (.reg true r57_6) (.reg false r57_7))))))))))
theorem e57 {args : List PV} {h : Heap} {K : PV → Heap → Prop} (hl : args.length = 4) (s : pwp Try.prog [] c57 (fin Try.prog [] h K) (slots0 (olds args)) h) : CanP Try.prog 57 args h K :=
  can_of2 (n := 76) mixed Try.func57 rfl (by kernel_rfl) (by rw [hl]; kernel_rfl) rfl (by kernel_rfl) s
/-! ### slices.heapSortOrdered[int]: function 46 -/
def r46_0 : List PS := [.mk (some 11) (.move (.tmp 1)) none,
  .mk (some 6) (.assign (.tmp 11)) none]
def r46_1 : List PS := [.mk (some 7) (.assign (.const (.int .i64 0))) none]
def r46_2 : List PS := [.mk (some 12) (.move (.tmp 2)) none,
  .mk (some 13) (.move (.tmp 1)) none,
  .mk (some 14) (.binOp .sub 3 (.tmp 12) (.tmp 13) 3) none,
  .mk (some 8) (.assign (.tmp 14)) none]
def r46_3 : List PS := [.mk (some 15) (.move (.tmp 8)) none,
  .mk (some 16) (.binOp .sub 3 (.tmp 15) (.const (.int .i64 1)) 3) none,
  .mk (some 17) (.binOp .quo 3 (.tmp 16) (.const (.int .i64 2)) 3) none,
  .mk (some 9) (.assign (.tmp 17)) none]
def r46_4 : List PS := [.mk (some 18) (.move (.tmp 9)) none,
  .mk (some 19) (.binOp .geq 3 (.tmp 18) (.const (.int .i64 0)) 3) none]
def r46_5 : List PS := [.mk (some 22) (.move (.tmp 0)) none,
  .mk (some 23) (.move (.tmp 9)) none,
  .mk (some 24) (.move (.tmp 8)) none,
  .mk (some 25) (.move (.tmp 6)) none,
  .mk (some 26) (.call ⟨(.value (.func 57)), #[(.tmp 22), (.tmp 23), (.tmp 24), (.tmp 25)], #[22, 3, 3, 3]⟩) none]
def r46_6 : List PS := [.mk (some 20) (.move (.tmp 9)) none,
  .mk (some 21) (.binOp .sub 3 (.tmp 20) (.const (.int .i64 1)) 3) none,
  .mk (some 9) (.assign (.tmp 21)) none]
def r46_7 : List PS := [.mk (some 27) (.move (.tmp 8)) none,
  .mk (some 28) (.binOp .sub 3 (.tmp 27) (.const (.int .i64 1)) 3) none,
  .mk (some 10) (.assign (.tmp 28)) none]
def r46_8 : List PS := [.mk (some 29) (.move (.tmp 10)) none,
  .mk (some 30) (.binOp .geq 3 (.tmp 29) (.const (.int .i64 0)) 3) none]
def r46_9 : List PS := [.mk (some 33) (.move (.tmp 0)) none,
  .mk (some 34) (.move (.tmp 6)) none,
  .mk (some 35) (.move (.tmp 0)) none,
  .mk (some 36) (.move (.tmp 6)) none,
  .mk (some 37) (.move (.tmp 10)) none,
  .mk (some 38) (.binOp .add 3 (.tmp 36) (.tmp 37) 3) none,
  .mk (some 39) (.move (.tmp 0)) none,
  .mk (some 40) (.move (.tmp 6)) none,
  .mk (some 41) (.move (.tmp 10)) none,
  .mk (some 42) (.binOp .add 3 (.tmp 40) (.tmp 41) 3) none,
  .mk (some 43) (.indexAddr 22 (.tmp 39) (.tmp 42)) none,
  .mk (some 44) (.load 3 (.tmp 43)) none,
  .mk (some 45) (.move (.tmp 0)) none,
  .mk (some 46) (.move (.tmp 6)) none,
  .mk (some 47) (.indexAddr 22 (.tmp 45) (.tmp 46)) none,
  .mk (some 48) (.load 3 (.tmp 47)) none,
  .mk (some 49) (.indexAddr 22 (.tmp 33) (.tmp 34)) none,
  .mk none (.store 3 (.tmp 49) (.tmp 44)) none,
  .mk (some 50) (.indexAddr 22 (.tmp 35) (.tmp 38)) none,
  .mk none (.store 3 (.tmp 50) (.tmp 48)) none]
def r46_10 : List PS := [.mk (some 51) (.move (.tmp 0)) none,
  .mk (some 52) (.move (.tmp 7)) none,
  .mk (some 53) (.move (.tmp 10)) none,
  .mk (some 54) (.move (.tmp 6)) none,
  .mk (some 55) (.call ⟨(.value (.func 57)), #[(.tmp 51), (.tmp 52), (.tmp 53), (.tmp 54)], #[22, 3, 3, 3]⟩) none]
def r46_11 : List PS := [.mk (some 31) (.move (.tmp 10)) none,
  .mk (some 32) (.binOp .sub 3 (.tmp 31) (.const (.int .i64 1)) 3) none,
  .mk (some 10) (.assign (.tmp 32)) none]
def c46 : PC := (.seq (.reg false r46_0) (.seq (.reg false r46_1) (.seq (.reg false r46_2) (.seq (.seq (.reg false r46_3) (.block 0 (.loop (.seq (.seq (.reg false r46_4) (.cond (.tmp 19) .skip (.exit 0))) (.seq (.block 1 (.reg false r46_5)) (.reg false r46_6)))))) (.seq (.reg false r46_7) (.block 2 (.loop (.seq (.seq (.reg false r46_8) (.cond (.tmp 30) .skip (.exit 2))) (.seq (.block 3 (.seq (.reg true r46_9) (.reg false r46_10))) (.reg false r46_11))))))))))
theorem e46 {args : List PV} {h : Heap} {K : PV → Heap → Prop} (hl : args.length = 3) (s : pwp Try.prog [] c46 (fin Try.prog [] h K) (slots0 (olds args)) h) : CanP Try.prog 46 args h K :=
  can_of2 (n := 56) mixed Try.func46 rfl (by kernel_rfl) (by rw [hl]; kernel_rfl) rfl (by kernel_rfl) s
/-! ### math.bits.Len32: function 54 -/
def r54_0 : List PS := [.mk (some 2) (.assign (.const (.int .i64 0))) none]
def r54_1 : List PS := [.mk (some 3) (.move (.tmp 0)) none,
  .mk (some 4) (.binOp .geq 75 (.tmp 3) (.const (.int .u32 65536)) 75) none]
def r54_2 : List PS := [.mk (some 5) (.move (.tmp 0)) none,
  .mk (some 6) (.binOp .shr 75 (.tmp 5) (.const (.int .u64 16)) 64) none,
  .mk (some 0) (.assign (.tmp 6)) none]
def r54_3 : List PS := [.mk (some 2) (.assign (.const (.int .i64 16))) none]
def r54_4 : List PS := [.mk (some 7) (.move (.tmp 0)) none,
  .mk (some 8) (.binOp .geq 75 (.tmp 7) (.const (.int .u32 256)) 75) none]
def r54_5 : List PS := [.mk (some 9) (.move (.tmp 0)) none,
  .mk (some 10) (.binOp .shr 75 (.tmp 9) (.const (.int .u64 8)) 64) none,
  .mk (some 0) (.assign (.tmp 10)) none]
def r54_6 : List PS := [.mk (some 11) (.move (.tmp 2)) none,
  .mk (some 12) (.binOp .add 3 (.tmp 11) (.const (.int .i64 8)) 3) none,
  .mk (some 2) (.assign (.tmp 12)) none]
def r54_7 : List PS := [.mk (some 13) (.move (.tmp 2)) none,
  .mk (some 14) (.move (.tmp 0)) none,
  .mk (some 15) (.convert 75 5 (.tmp 14)) none,
  .mk (some 16) (.index 9 (.const (.string ⟨#[0, 1, 2, 2, 3, 3, 3, 3, 4, 4, 4, 4, 4, 4, 4, 4, 5, 5, 5, 5, 5, 5, 5, 5, 5, 5, 5, 5, 5, 5, 5, 5, 6, 6, 6, 6, 6, 6, 6, 6, 6, 6, 6, 6, 6, 6, 6, 6, 6, 6, 6, 6, 6, 6, 6, 6, 6, 6, 6, 6, 6, 6, 6, 6, 7, 7, 7, 7, 7, 7, 7, 7, 7, 7, 7, 7, 7, 7, 7, 7, 7, 7, 7, 7, 7, 7, 7, 7, 7, 7, 7, 7, 7, 7, 7, 7, 7, 7, 7, 7, 7, 7, 7, 7, 7, 7, 7, 7, 7, 7, 7, 7, 7, 7, 7, 7, 7, 7, 7, 7, 7, 7, 7, 7, 7, 7, 7, 7, 8, 8, 8, 8, 8, 8, 8, 8, 8, 8, 8, 8, 8, 8, 8, 8, 8, 8, 8, 8, 8, 8, 8, 8, 8, 8, 8, 8, 8, 8, 8, 8, 8, 8, 8, 8, 8, 8, 8, 8, 8, 8, 8, 8, 8, 8, 8, 8, 8, 8, 8, 8, 8, 8, 8, 8, 8, 8, 8, 8, 8, 8, 8, 8, 8, 8, 8, 8, 8, 8, 8, 8, 8, 8, 8, 8, 8, 8, 8, 8, 8, 8, 8, 8, 8, 8, 8, 8, 8, 8, 8, 8, 8, 8, 8, 8, 8, 8, 8, 8, 8, 8, 8, 8, 8, 8, 8, 8, 8, 8, 8, 8, 8, 8, 8, 8, 8, 8, 8, 8, 8, 8, 8, 8, 8, 8, 8, 8]⟩)) (.tmp 15)) none,
  .mk (some 17) (.convert 5 3 (.tmp 16)) none,
  .mk (some 18) (.binOp .add 3 (.tmp 13) (.tmp 17) 3) none,
  .mk (some 2) (.assign (.tmp 18)) none]
def c54 : PC := (.seq (.reg false r54_0) (.seq (.seq (.reg false r54_1) (.cond (.tmp 4) (.seq (.reg false r54_2) (.reg false r54_3)) .skip)) (.seq (.seq (.reg false r54_4) (.cond (.tmp 8) (.seq (.reg false r54_5) (.reg false r54_6)) .skip)) (.seq (.reg false r54_7) .ret))))
theorem e54 {args : List PV} {h : Heap} {K : PV → Heap → Prop} (hl : args.length = 1) (s : pwp Try.prog [] c54 (fin Try.prog [.tmp 2] h K) (slots0 (olds args)) h) : CanP Try.prog 54 args h K :=
  can_of2 (n := 19) mixed Try.func54 rfl (by kernel_rfl) (by rw [hl]; kernel_rfl) rfl (by kernel_rfl) s
/-! ### math.bits.Len64: function 55 -/
def r55_0 : List PS := [.mk (some 2) (.assign (.const (.int .i64 0))) none]
def r55_1 : List PS := [.mk (some 3) (.move (.tmp 0)) none,
  .mk (some 4) (.binOp .geq 77 (.tmp 3) (.const (.int .u64 4294967296)) 77) none]
def r55_2 : List PS := [.mk (some 5) (.move (.tmp 0)) none,
  .mk (some 6) (.binOp .shr 77 (.tmp 5) (.const (.int .u64 32)) 64) none,
  .mk (some 0) (.assign (.tmp 6)) none]
def r55_3 : List PS := [.mk (some 2) (.assign (.const (.int .i64 32))) none]
def r55_4 : List PS := [.mk (some 7) (.move (.tmp 0)) none,
  .mk (some 8) (.binOp .geq 77 (.tmp 7) (.const (.int .u64 65536)) 77) none]
def r55_5 : List PS := [.mk (some 9) (.move (.tmp 0)) none,
  .mk (some 10) (.binOp .shr 77 (.tmp 9) (.const (.int .u64 16)) 64) none,
  .mk (some 0) (.assign (.tmp 10)) none]
def r55_6 : List PS := [.mk (some 11) (.move (.tmp 2)) none,
  .mk (some 12) (.binOp .add 3 (.tmp 11) (.const (.int .i64 16)) 3) none,
  .mk (some 2) (.assign (.tmp 12)) none]
def r55_7 : List PS := [.mk (some 13) (.move (.tmp 0)) none,
  .mk (some 14) (.binOp .geq 77 (.tmp 13) (.const (.int .u64 256)) 77) none]
def r55_8 : List PS := [.mk (some 15) (.move (.tmp 0)) none,
  .mk (some 16) (.binOp .shr 77 (.tmp 15) (.const (.int .u64 8)) 64) none,
  .mk (some 0) (.assign (.tmp 16)) none]
def r55_9 : List PS := [.mk (some 17) (.move (.tmp 2)) none,
  .mk (some 18) (.binOp .add 3 (.tmp 17) (.const (.int .i64 8)) 3) none,
  .mk (some 2) (.assign (.tmp 18)) none]
def r55_10 : List PS := [.mk (some 19) (.move (.tmp 2)) none,
  .mk (some 20) (.move (.tmp 0)) none,
  .mk (some 21) (.convert 77 5 (.tmp 20)) none,
  .mk (some 22) (.index 9 (.const (.string ⟨#[0, 1, 2, 2, 3, 3, 3, 3, 4, 4, 4, 4, 4, 4, 4, 4, 5, 5, 5, 5, 5, 5, 5, 5, 5, 5, 5, 5, 5, 5, 5, 5, 6, 6, 6, 6, 6, 6, 6, 6, 6, 6, 6, 6, 6, 6, 6, 6, 6, 6, 6, 6, 6, 6, 6, 6, 6, 6, 6, 6, 6, 6, 6, 6, 7, 7, 7, 7, 7, 7, 7, 7, 7, 7, 7, 7, 7, 7, 7, 7, 7, 7, 7, 7, 7, 7, 7, 7, 7, 7, 7, 7, 7, 7, 7, 7, 7, 7, 7, 7, 7, 7, 7, 7, 7, 7, 7, 7, 7, 7, 7, 7, 7, 7, 7, 7, 7, 7, 7, 7, 7, 7, 7, 7, 7, 7, 7, 7, 8, 8, 8, 8, 8, 8, 8, 8, 8, 8, 8, 8, 8, 8, 8, 8, 8, 8, 8, 8, 8, 8, 8, 8, 8, 8, 8, 8, 8, 8, 8, 8, 8, 8, 8, 8, 8, 8, 8, 8, 8, 8, 8, 8, 8, 8, 8, 8, 8, 8, 8, 8, 8, 8, 8, 8, 8, 8, 8, 8, 8, 8, 8, 8, 8, 8, 8, 8, 8, 8, 8, 8, 8, 8, 8, 8, 8, 8, 8, 8, 8, 8, 8, 8, 8, 8, 8, 8, 8, 8, 8, 8, 8, 8, 8, 8, 8, 8, 8, 8, 8, 8, 8, 8, 8, 8, 8, 8, 8, 8, 8, 8, 8, 8, 8, 8, 8, 8, 8, 8, 8, 8, 8, 8, 8, 8, 8, 8]⟩)) (.tmp 21)) none,
  .mk (some 23) (.convert 5 3 (.tmp 22)) none,
  .mk (some 24) (.binOp .add 3 (.tmp 19) (.tmp 23) 3) none,
  .mk (some 2) (.assign (.tmp 24)) none]
def c55 : PC := (.seq (.reg false r55_0) (.seq (.seq (.reg false r55_1) (.cond (.tmp 4) (.seq (.reg false r55_2) (.reg false r55_3)) .skip)) (.seq (.seq (.reg false r55_4) (.cond (.tmp 8) (.seq (.reg false r55_5) (.reg false r55_6)) .skip)) (.seq (.seq (.reg false r55_7) (.cond (.tmp 14) (.seq (.reg false r55_8) (.reg false r55_9)) .skip)) (.seq (.reg false r55_10) .ret)))))
theorem e55 {args : List PV} {h : Heap} {K : PV → Heap → Prop} (hl : args.length = 1) (s : pwp Try.prog [] c55 (fin Try.prog [.tmp 2] h K) (slots0 (olds args)) h) : CanP Try.prog 55 args h K :=
  can_of2 (n := 25) mixed Try.func55 rfl (by kernel_rfl) (by rw [hl]; kernel_rfl) rfl (by kernel_rfl) s
/-! ### math.bits.Len: function 43 -/
def r43_0 : List PS := [.mk (some 2) (.assign (.const (.int .i64 0))) none]
def r43_1 : List PS := [.mk (some 3) (.move (.tmp 0)) none,
  .mk (some 4) (.convert 64 75 (.tmp 3)) none,
  .mk (some 5) (.call ⟨(.value (.func 54)), #[(.tmp 4)], #[75]⟩) none,
  .mk (some 2) (.assign (.tmp 5)) none]
def r43_2 : List PS := [.mk (some 6) (.move (.tmp 0)) none,
  .mk (some 7) (.call ⟨(.value (.func 55)), #[(.tmp 6)], #[77]⟩) none,
  .mk (some 2) (.assign (.tmp 7)) none]
def c43 : PC := (.seq (.reg false r43_0) (.seq (.cond (.const (.bool false)) (.seq (.reg false r43_1) .ret) .skip) (.seq (.reg false r43_2) .ret)))
theorem e43 {args : List PV} {h : Heap} {K : PV → Heap → Prop} (hl : args.length = 1) (s : pwp Try.prog [] c43 (fin Try.prog [.tmp 2] h K) (slots0 (olds args)) h) : CanP Try.prog 43 args h K :=
  can_of2 (n := 8) mixed Try.func43 rfl (by kernel_rfl) (by rw [hl]; kernel_rfl) rfl (by kernel_rfl) s
/-! ### slices.nextPowerOfTwo: function 58 -/
def r58_0 : List PS := [.mk (some 2) (.assign (.const (.int .u64 0))) none]
def r58_1 : List PS := [.mk (some 3) (.move (.tmp 0)) none,
  .mk (some 4) (.convert 3 64 (.tmp 3)) none,
  .mk (some 5) (.call ⟨(.value (.func 43)), #[(.tmp 4)], #[64]⟩) none,
  .mk (some 6) (.binOp .shl 64 (.const (.int .u64 1)) (.tmp 5) 3) none,
  .mk (some 2) (.assign (.tmp 6)) none]
def c58 : PC := (.seq (.reg false r58_0) (.seq (.reg false r58_1) .ret))
theorem e58 {args : List PV} {h : Heap} {K : PV → Heap → Prop} (hl : args.length = 1) (s : pwp Try.prog [] c58 (fin Try.prog [.tmp 2] h K) (slots0 (olds args)) h) : CanP Try.prog 58 args h K :=
  can_of2 (n := 7) mixed Try.func58 rfl (by kernel_rfl) (by rw [hl]; kernel_rfl) rfl (by kernel_rfl) s
/-! ### (*slices.xorshift).Next: function 59 -/
def r59_0 : List PS := [.mk (some 2) (.assign (.const (.int .u64 0))) none]
def r59_1 : List PS := [.mk (some 3) (.move (.tmp 0)) none,
  .mk (some 4) (.nilCheck (.tmp 3)) none,
  .mk (some 5) (.load 80 (.tmp 4)) none,
  .mk (some 6) (.move (.tmp 0)) none,
  .mk (some 7) (.nilCheck (.tmp 6)) none,
  .mk (some 8) (.load 80 (.tmp 7)) none,
  .mk (some 9) (.binOp .shl 80 (.tmp 8) (.const (.int .u64 13)) 64) none,
  .mk (some 10) (.binOp .xor 80 (.tmp 5) (.tmp 9) 80) none,
  .mk (some 11) (.nilCheck (.tmp 3)) none,
  .mk none (.store 80 (.tmp 11) (.tmp 10)) none]
def r59_2 : List PS := [.mk (some 12) (.move (.tmp 0)) none,
  .mk (some 13) (.nilCheck (.tmp 12)) none,
  .mk (some 14) (.load 80 (.tmp 13)) none,
  .mk (some 15) (.move (.tmp 0)) none,
  .mk (some 16) (.nilCheck (.tmp 15)) none,
  .mk (some 17) (.load 80 (.tmp 16)) none,
  .mk (some 18) (.binOp .shr 80 (.tmp 17) (.const (.int .u64 7)) 64) none,
  .mk (some 19) (.binOp .xor 80 (.tmp 14) (.tmp 18) 80) none,
  .mk (some 20) (.nilCheck (.tmp 12)) none,
  .mk none (.store 80 (.tmp 20) (.tmp 19)) none]
def r59_3 : List PS := [.mk (some 21) (.move (.tmp 0)) none,
  .mk (some 22) (.nilCheck (.tmp 21)) none,
  .mk (some 23) (.load 80 (.tmp 22)) none,
  .mk (some 24) (.move (.tmp 0)) none,
  .mk (some 25) (.nilCheck (.tmp 24)) none,
  .mk (some 26) (.load 80 (.tmp 25)) none,
  .mk (some 27) (.binOp .shl 80 (.tmp 26) (.const (.int .u64 17)) 64) none,
  .mk (some 28) (.binOp .xor 80 (.tmp 23) (.tmp 27) 80) none,
  .mk (some 29) (.nilCheck (.tmp 21)) none,
  .mk none (.store 80 (.tmp 29) (.tmp 28)) none]
def r59_4 : List PS := [.mk (some 30) (.move (.tmp 0)) none,
  .mk (some 31) (.nilCheck (.tmp 30)) none,
  .mk (some 32) (.load 80 (.tmp 31)) none,
  .mk (some 2) (.assign (.tmp 32)) none]
def c59 : PC := (.seq (.reg false r59_0) (.seq (.reg true r59_1) (.seq (.reg true r59_2) (.seq (.reg true r59_3) (.seq (.reg false r59_4) .ret)))))
theorem e59 {args : List PV} {h : Heap} {K : PV → Heap → Prop} (hl : args.length = 1) (s : pwp Try.prog [] c59 (fin Try.prog [.tmp 2] h K) (slots0 (olds args)) h) : CanP Try.prog 59 args h K :=
  can_of2 (n := 33) mixed Try.func59 rfl (by kernel_rfl) (by rw [hl]; kernel_rfl) rfl (by kernel_rfl) s
/-! ### slices.breakPatternsOrdered[int]: function 47 -/
def r47_0 : List PS := [.mk (some 11) (.move (.tmp 2)) none,
  .mk (some 12) (.move (.tmp 1)) none,
  .mk (some 13) (.binOp .sub 3 (.tmp 11) (.tmp 12) 3) none,
  .mk (some 6) (.assign (.tmp 13)) none]
def r47_1 : List PS := [.mk (some 14) (.move (.tmp 6)) none,
  .mk (some 15) (.binOp .geq 3 (.tmp 14) (.const (.int .i64 8)) 3) none]
def r47_2 : List PS := [.mk (some 16) (.move (.tmp 6)) none,
  .mk (some 17) (.convert 3 80 (.tmp 16)) none,
  .mk (some 7) (.alloc 80) none,
  .mk none (.store 80 (.tmp 7) (.tmp 17)) none]
def r47_3 : List PS := [.mk (some 18) (.move (.tmp 6)) none,
  .mk (some 19) (.call ⟨(.value (.func 58)), #[(.tmp 18)], #[3]⟩) none,
  .mk (some 8) (.assign (.tmp 19)) none]
def r47_4 : List PS := [.mk (some 20) (.move (.tmp 1)) none,
  .mk (some 21) (.move (.tmp 6)) none,
  .mk (some 22) (.binOp .quo 3 (.tmp 21) (.const (.int .i64 4)) 3) none,
  .mk (some 23) (.binOp .mul 3 (.tmp 22) (.const (.int .i64 2)) 3) none,
  .mk (some 24) (.binOp .add 3 (.tmp 20) (.tmp 23) 3) none,
  .mk (some 25) (.binOp .sub 3 (.tmp 24) (.const (.int .i64 1)) 3) none,
  .mk (some 9) (.assign (.tmp 25)) none]
def r47_5 : List PS := [.mk (some 26) (.move (.tmp 9)) none,
  .mk (some 27) (.move (.tmp 1)) none,
  .mk (some 28) (.move (.tmp 6)) none,
  .mk (some 29) (.binOp .quo 3 (.tmp 28) (.const (.int .i64 4)) 3) none,
  .mk (some 30) (.binOp .mul 3 (.tmp 29) (.const (.int .i64 2)) 3) none,
  .mk (some 31) (.binOp .add 3 (.tmp 27) (.tmp 30) 3) none,
  .mk (some 32) (.binOp .add 3 (.tmp 31) (.const (.int .i64 1)) 3) none,
  .mk (some 33) (.binOp .leq 3 (.tmp 26) (.tmp 32) 3) none]
def r47_6 : List PS := [.mk (some 36) (.call ⟨(.value (.func 59)), #[(.tmp 7)], #[80]⟩) none,
  .mk (some 37) (.move (.tmp 8)) none,
  .mk (some 38) (.binOp .sub 64 (.tmp 37) (.const (.int .u64 1)) 64) none,
  .mk (some 39) (.binOp .and 64 (.tmp 36) (.tmp 38) 64) none,
  .mk (some 40) (.convert 64 3 (.tmp 39)) none,
  .mk (some 10) (.assign (.tmp 40)) none]
def r47_7 : List PS := [.mk (some 41) (.move (.tmp 10)) none,
  .mk (some 42) (.move (.tmp 6)) none,
  .mk (some 43) (.binOp .geq 3 (.tmp 41) (.tmp 42) 3) none]
def r47_8 : List PS := [.mk (some 44) (.move (.tmp 10)) none,
  .mk (some 45) (.move (.tmp 6)) none,
  .mk (some 46) (.binOp .sub 3 (.tmp 44) (.tmp 45) 3) none,
  .mk (some 10) (.assign (.tmp 46)) none]
def r47_9 : List PS := [.mk (some 47) (.move (.tmp 0)) none,
  .mk (some 48) (.move (.tmp 9)) none,
  .mk (some 49) (.move (.tmp 0)) none,
  .mk (some 50) (.move (.tmp 1)) none,
  .mk (some 51) (.move (.tmp 10)) none,
  .mk (some 52) (.binOp .add 3 (.tmp 50) (.tmp 51) 3) none,
  .mk (some 53) (.move (.tmp 0)) none,
  .mk (some 54) (.move (.tmp 1)) none,
  .mk (some 55) (.move (.tmp 10)) none,
  .mk (some 56) (.binOp .add 3 (.tmp 54) (.tmp 55) 3) none,
  .mk (some 57) (.indexAddr 22 (.tmp 53) (.tmp 56)) none,
  .mk (some 58) (.load 3 (.tmp 57)) none,
  .mk (some 59) (.move (.tmp 0)) none,
  .mk (some 60) (.move (.tmp 9)) none,
  .mk (some 61) (.indexAddr 22 (.tmp 59) (.tmp 60)) none,
  .mk (some 62) (.load 3 (.tmp 61)) none,
  .mk (some 63) (.indexAddr 22 (.tmp 47) (.tmp 48)) none,
  .mk none (.store 3 (.tmp 63) (.tmp 58)) none,
  .mk (some 64) (.indexAddr 22 (.tmp 49) (.tmp 52)) none,
  .mk none (.store 3 (.tmp 64) (.tmp 62)) none]
def r47_10 : List PS := [.mk (some 34) (.move (.tmp 9)) none,
  .mk (some 35) (.binOp .add 3 (.tmp 34) (.const (.int .i64 1)) 3) none,
  .mk (some 9) (.assign (.tmp 35)) none]
def c47 : PC := (.seq (.reg false r47_0) (.seq (.reg false r47_1) (.cond (.tmp 15) (.seq (.reg false r47_2) (.seq (.reg false r47_3) (.seq (.reg false r47_4) (.block 0 (.loop (.seq (.seq (.reg false r47_5) (.cond (.tmp 33) .skip (.exit 0))) (.seq (.block 1 (.seq (.reg false r47_6) (.seq (.seq (.reg false r47_7) (.cond (.tmp 43) (.reg false r47_8) .skip)) (.reg true r47_9)))) (.reg false r47_10)))))))) .skip)))
theorem e47 {args : List PV} {h : Heap} {K : PV → Heap → Prop} (hl : args.length = 3) (s : pwp Try.prog [7] c47 (fin Try.prog [] h K) (slots0 (olds args)) h) : CanP Try.prog 47 args h K :=
  can_of2 (n := 65) mixed Try.func47 rfl (by kernel_rfl) (by rw [hl]; kernel_rfl) rfl (by kernel_rfl) s
/-! ### slices.order2Ordered[int]: function 65 -/
def r65_0 : List PS := [.mk (some 8) (.assign (.const (.int .i64 0))) none,
  .mk (some 9) (.assign (.const (.int .i64 0))) none]
def r65_1 : List PS := [.mk (some 10) (.move (.tmp 0)) none,
  .mk (some 11) (.move (.tmp 2)) none,
  .mk (some 12) (.indexAddr 22 (.tmp 10) (.tmp 11)) none,
  .mk (some 13) (.load 3 (.tmp 12)) none,
  .mk (some 14) (.move (.tmp 0)) none,
  .mk (some 15) (.move (.tmp 1)) none,
  .mk (some 16) (.indexAddr 22 (.tmp 14) (.tmp 15)) none,
  .mk (some 17) (.load 3 (.tmp 16)) none,
  .mk (some 18) (.call ⟨(.value (.func 51)), #[(.tmp 13), (.tmp 17)], #[3, 3]⟩) none]
def r65_2 : List PS := [.mk (some 19) (.move (.tmp 3)) none,
  .mk (some 20) (.nilCheck (.tmp 19)) none,
  .mk (some 21) (.load 3 (.tmp 20)) none,
  .mk (some 22) (.binOp .add 3 (.tmp 21) (.const (.int .i64 1)) 3) none,
  .mk (some 23) (.nilCheck (.tmp 19)) none,
  .mk none (.store 3 (.tmp 23) (.tmp 22)) none]
def r65_3 : List PS := [.mk (some 24) (.move (.tmp 2)) none,
  .mk (some 25) (.move (.tmp 1)) none,
  .mk (some 8) (.assign (.tmp 24)) none,
  .mk (some 9) (.assign (.tmp 25)) none]
def r65_4 : List PS := [.mk (some 26) (.move (.tmp 1)) none,
  .mk (some 27) (.move (.tmp 2)) none,
  .mk (some 8) (.assign (.tmp 26)) none,
  .mk (some 9) (.assign (.tmp 27)) none]
def c65 : PC := (.seq (.reg false r65_0) (.seq (.seq (.reg true r65_1) (.cond (.tmp 18) (.seq (.reg false r65_2) (.seq (.reg false r65_3) .ret)) .skip)) (.seq (.reg false r65_4) .ret)))
theorem e65 {args : List PV} {h : Heap} {K : PV → Heap → Prop} (hl : args.length = 4) (s : pwp Try.prog [] c65 (fin Try.prog [.tmp 8, .tmp 9] h K) (slots0 (olds args)) h) : CanP Try.prog 65 args h K :=
  can_of2 (n := 28) mixed Try.func65 rfl (by kernel_rfl) (by rw [hl]; kernel_rfl) rfl (by kernel_rfl) s
/-! ### slices.medianOrdered[int]: function 61 -/
def r61_0 : List PS := [.mk (some 10) (.assign (.const (.int .i64 0))) none]
def r61_1 : List PS := [.mk (some 12) (.move (.tmp 0)) none,
  .mk (some 13) (.move (.tmp 1)) none,
  .mk (some 14) (.move (.tmp 2)) none,
  .mk (some 15) (.move (.tmp 4)) none,
  .mk (some 16) (.call ⟨(.value (.func 65)), #[(.tmp 12), (.tmp 13), (.tmp 14), (.tmp 15)], #[22, 3, 3, 84]⟩) none,
  .mk (some 11) (.move (.tmp 16)) none,
  .mk (some 17) (.extract (.tmp 11) 0) none,
  .mk (some 18) (.extract (.tmp 11) 1) none,
  .mk (some 1) (.assign (.tmp 17)) none,
  .mk (some 2) (.assign (.tmp 18)) none]
def r61_2 : List PS := [.mk (some 20) (.move (.tmp 0)) none,
  .mk (some 21) (.move (.tmp 2)) none,
  .mk (some 22) (.move (.tmp 3)) none,
  .mk (some 23) (.move (.tmp 4)) none,
  .mk (some 24) (.call ⟨(.value (.func 65)), #[(.tmp 20), (.tmp 21), (.tmp 22), (.tmp 23)], #[22, 3, 3, 84]⟩) none,
  .mk (some 19) (.move (.tmp 24)) none,
  .mk (some 25) (.extract (.tmp 19) 0) none,
  .mk (some 26) (.extract (.tmp 19) 1) none,
  .mk (some 2) (.assign (.tmp 25)) none,
  .mk (some 3) (.assign (.tmp 26)) none]
def r61_3 : List PS := [.mk (some 28) (.move (.tmp 0)) none,
  .mk (some 29) (.move (.tmp 1)) none,
  .mk (some 30) (.move (.tmp 2)) none,
  .mk (some 31) (.move (.tmp 4)) none,
  .mk (some 32) (.call ⟨(.value (.func 65)), #[(.tmp 28), (.tmp 29), (.tmp 30), (.tmp 31)], #[22, 3, 3, 84]⟩) none,
  .mk (some 27) (.move (.tmp 32)) none,
  .mk (some 33) (.extract (.tmp 27) 0) none,
  .mk (some 34) (.extract (.tmp 27) 1) none,
  .mk (some 1) (.assign (.tmp 33)) none,
  .mk (some 2) (.assign (.tmp 34)) none]
def r61_4 : List PS := [.mk (some 35) (.move (.tmp 2)) none,
  .mk (some 10) (.assign (.tmp 35)) none]
def c61 : PC := (.seq (.reg false r61_0) (.seq (.reg false r61_1) (.seq (.reg false r61_2) (.seq (.reg false r61_3) (.seq (.reg false r61_4) .ret)))))
theorem e61 {args : List PV} {h : Heap} {K : PV → Heap → Prop} (hl : args.length = 5) (s : pwp Try.prog [] c61 (fin Try.prog [.tmp 10] h K) (slots0 (olds args)) h) : CanP Try.prog 61 args h K :=
  can_of2 (n := 36) mixed Try.func61 rfl (by kernel_rfl) (by rw [hl]; kernel_rfl) rfl (by kernel_rfl) s
/-! ### slices.medianAdjacentOrdered[int]: function 60 -/
def r60_0 : List PS := [.mk (some 6) (.assign (.const (.int .i64 0))) none]
def r60_1 : List PS := [.mk (some 7) (.move (.tmp 0)) none,
  .mk (some 8) (.move (.tmp 1)) none,
  .mk (some 9) (.binOp .sub 3 (.tmp 8) (.const (.int .i64 1)) 3) none,
  .mk (some 10) (.move (.tmp 1)) none,
  .mk (some 11) (.move (.tmp 1)) none,
  .mk (some 12) (.binOp .add 3 (.tmp 11) (.const (.int .i64 1)) 3) none,
  .mk (some 13) (.move (.tmp 2)) none,
  .mk (some 14) (.call ⟨(.value (.func 61)), #[(.tmp 7), (.tmp 9), (.tmp 10), (.tmp 12), (.tmp 13)], #[22, 3, 3, 3, 84]⟩) none,
  .mk (some 6) (.assign (.tmp 14)) none]
def c60 : PC := (.seq (.reg false r60_0) (.seq (.reg false r60_1) .ret))
theorem e60 {args : List PV} {h : Heap} {K : PV → Heap → Prop} (hl : args.length = 3) (s : pwp Try.prog [] c60 (fin Try.prog [.tmp 6] h K) (slots0 (olds args)) h) : CanP Try.prog 60 args h K :=
  can_of2 (n := 15) mixed Try.func60 rfl (by kernel_rfl) (by rw [hl]; kernel_rfl) rfl (by kernel_rfl) s
/-! ### slices.choosePivotOrdered[int]: function 48 -/
def r48_0 : List PS := [.mk (some 6) (.assign (.const (.int .i64 0))) none,
  .mk (some 7) (.assign (.const (.int .i64 0))) none]
def r48_1 : List PS := [.mk (some 13) (.move (.tmp 2)) none,
  .mk (some 14) (.move (.tmp 1)) none,
  .mk (some 15) (.binOp .sub 3 (.tmp 13) (.tmp 14) 3) none,
  .mk (some 8) (.assign (.tmp 15)) none]
def r48_2 : List PS := [.mk (some 9) (.alloc 3) none]
def r48_3 : List PS := [.mk (some 16) (.move (.tmp 1)) none,
  .mk (some 17) (.move (.tmp 8)) none,
  .mk (some 18) (.binOp .quo 3 (.tmp 17) (.const (.int .i64 4)) 3) none,
  .mk (some 19) (.binOp .mul 3 (.tmp 18) (.const (.int .i64 1)) 3) none,
  .mk (some 20) (.binOp .add 3 (.tmp 16) (.tmp 19) 3) none,
  .mk (some 10) (.assign (.tmp 20)) none]
def r48_4 : List PS := [.mk (some 21) (.move (.tmp 1)) none,
  .mk (some 22) (.move (.tmp 8)) none,
  .mk (some 23) (.binOp .quo 3 (.tmp 22) (.const (.int .i64 4)) 3) none,
  .mk (some 24) (.binOp .mul 3 (.tmp 23) (.const (.int .i64 2)) 3) none,
  .mk (some 25) (.binOp .add 3 (.tmp 21) (.tmp 24) 3) none,
  .mk (some 11) (.assign (.tmp 25)) none]
def r48_5 : List PS := [.mk (some 26) (.move (.tmp 1)) none,
  .mk (some 27) (.move (.tmp 8)) none,
  .mk (some 28) (.binOp .quo 3 (.tmp 27) (.const (.int .i64 4)) 3) none,
  .mk (some 29) (.binOp .mul 3 (.tmp 28) (.const (.int .i64 3)) 3) none,
  .mk (some 30) (.binOp .add 3 (.tmp 26) (.tmp 29) 3) none,
  .mk (some 12) (.assign (.tmp 30)) none]
def r48_6 : List PS := [.mk (some 31) (.move (.tmp 8)) none,
  .mk (some 32) (.binOp .geq 3 (.tmp 31) (.const (.int .i64 8)) 3) none]
def r48_7 : List PS := [.mk (some 33) (.move (.tmp 8)) none,
  .mk (some 34) (.binOp .geq 3 (.tmp 33) (.const (.int .i64 50)) 3) none]
def r48_8 : List PS := [.mk (some 35) (.move (.tmp 0)) none,
  .mk (some 36) (.move (.tmp 10)) none,
  .mk (some 37) (.call ⟨(.value (.func 60)), #[(.tmp 35), (.tmp 36), (.tmp 9)], #[22, 3, 84]⟩) none,
  .mk (some 10) (.assign (.tmp 37)) none]
def r48_9 : List PS := [.mk (some 38) (.move (.tmp 0)) none,
  .mk (some 39) (.move (.tmp 11)) none,
  .mk (some 40) (.call ⟨(.value (.func 60)), #[(.tmp 38), (.tmp 39), (.tmp 9)], #[22, 3, 84]⟩) none,
  .mk (some 11) (.assign (.tmp 40)) none]
def r48_10 : List PS := [.mk (some 41) (.move (.tmp 0)) none,
  .mk (some 42) (.move (.tmp 12)) none,
  .mk (some 43) (.call ⟨(.value (.func 60)), #[(.tmp 41), (.tmp 42), (.tmp 9)], #[22, 3, 84]⟩) none,
  .mk (some 12) (.assign (.tmp 43)) none]
def r48_11 : List PS := [.mk (some 44) (.move (.tmp 0)) none,
  .mk (some 45) (.move (.tmp 10)) none,
  .mk (some 46) (.move (.tmp 11)) none,
  .mk (some 47) (.move (.tmp 12)) none,
  .mk (some 48) (.call ⟨(.value (.func 61)), #[(.tmp 44), (.tmp 45), (.tmp 46), (.tmp 47), (.tmp 9)], #[22, 3, 3, 3, 84]⟩) none,
  .mk (some 11) (.assign (.tmp 48)) none]
def r48_12 : List PS := [.mk (some 49) (.load 3 (.tmp 9)) none]
def r48_13 : List PS := [.mk (some 52) (.binOp .eql 3 (.tmp 49) (.const (.int .i64 0)) 3) none,
  .mk (some 51) (.assign (.tmp 52)) none]
def r48_14 : List PS := [.mk (some 53) (.move (.tmp 11)) none,
  .mk (some 6) (.assign (.tmp 53)) none,
  .mk (some 7) (.assign (.const (.int .i64 1))) none]
def r48_15 : List PS := [.mk (some 55) (.binOp .eql 3 (.tmp 49) (.const (.int .i64 12)) 3) none,
  .mk (some 54) (.assign (.tmp 55)) none]
def r48_16 : List PS := [.mk (some 56) (.move (.tmp 11)) none,
  .mk (some 6) (.assign (.tmp 56)) none,
  .mk (some 7) (.assign (.const (.int .i64 2))) none]
def r48_17 : List PS := [.mk (some 50) (.move (.tmp 11)) none,
  .mk (some 6) (.assign (.tmp 50)) none,
  .mk (some 7) (.assign (.const (.int .i64 0))) none]
def c48 : PC := (.seq (.reg false r48_0) (.seq (.reg false r48_1) (.seq (.reg false r48_2) (.seq (.reg false r48_3) (.seq (.reg false r48_4) (.seq (.reg false r48_5) (.seq (.seq (.reg false r48_6) (.cond (.tmp 32) (.seq (.seq (.reg false r48_7) (.cond (.tmp 34) (.seq (.reg false r48_8) (.seq (.reg false r48_9) (.reg false r48_10))) .skip)) (.reg false r48_11)) .skip)) (.seq (.reg false r48_12) (.block 0 (.seq (.reg false r48_13) (.cond (.tmp 51) (.seq (.reg false r48_14) .ret) (.seq (.reg false r48_15) (.cond (.tmp 54) (.seq (.reg false r48_16) .ret) (.seq (.reg false r48_17) .ret))))))))))))))
theorem e48 {args : List PV} {h : Heap} {K : PV → Heap → Prop} (hl : args.length = 3) (s : pwp Try.prog [9] c48 (fin Try.prog [.tmp 6, .tmp 7] h K) (slots0 (olds args)) h) : CanP Try.prog 48 args h K :=
  can_of2 (n := 57) mixed Try.func48 rfl (by kernel_rfl) (by rw [hl]; kernel_rfl) rfl (by kernel_rfl) s
/-! ### slices.reverseRangeOrdered[int]: function 49 -/
def r49_0 : List PS := [.mk (some 8) (.move (.tmp 1)) none,
  .mk (some 6) (.assign (.tmp 8)) none]
def r49_1 : List PS := [.mk (some 9) (.move (.tmp 2)) none,
  .mk (some 10) (.binOp .sub 3 (.tmp 9) (.const (.int .i64 1)) 3) none,
  .mk (some 7) (.assign (.tmp 10)) none]
def r49_2 : List PS := [.mk (some 11) (.move (.tmp 6)) none,
  .mk (some 12) (.move (.tmp 7)) none,
  .mk (some 13) (.binOp .lss 3 (.tmp 11) (.tmp 12) 3) none]
def r49_3 : List PS := [.mk (some 14) (.move (.tmp 0)) none,
  .mk (some 15) (.move (.tmp 6)) none,
  .mk (some 16) (.move (.tmp 0)) none,
  .mk (some 17) (.move (.tmp 7)) none,
  .mk (some 18) (.move (.tmp 0)) none,
  .mk (some 19) (.move (.tmp 7)) none,
  .mk (some 20) (.indexAddr 22 (.tmp 18) (.tmp 19)) none,
  .mk (some 21) (.load 3 (.tmp 20)) none,
  .mk (some 22) (.move (.tmp 0)) none,
  .mk (some 23) (.move (.tmp 6)) none,
  .mk (some 24) (.indexAddr 22 (.tmp 22) (.tmp 23)) none,
  .mk (some 25) (.load 3 (.tmp 24)) none,
  .mk (some 26) (.indexAddr 22 (.tmp 14) (.tmp 15)) none,
  .mk none (.store 3 (.tmp 26) (.tmp 21)) none,
  .mk (some 27) (.indexAddr 22 (.tmp 16) (.tmp 17)) none,
  .mk none (.store 3 (.tmp 27) (.tmp 25)) none]
def r49_4 : List PS := [.mk (some 28) (.move (.tmp 6)) none,
  .mk (some 29) (.binOp .add 3 (.tmp 28) (.const (.int .i64 1)) 3) none,
  .mk (some 6) (.assign (.tmp 29)) none]
def r49_5 : List PS := [.mk (some 30) (.move (.tmp 7)) none,
  .mk (some 31) (.binOp .sub 3 (.tmp 30) (.const (.int .i64 1)) 3) none,
  .mk (some 7) (.assign (.tmp 31)) none]
def c49 : PC := (.seq (.reg false r49_0) (.seq (.reg false r49_1) (.block 0 (.loop (.seq (.seq (.reg false r49_2) (.cond (.tmp 13) .skip (.exit 0))) (.block 1 (.seq (.reg true r49_3) (.seq (.reg false r49_4) (.reg false r49_5)))))))))
theorem e49 {args : List PV} {h : Heap} {K : PV → Heap → Prop} (hl : args.length = 3) (s : pwp Try.prog [] c49 (fin Try.prog [] h K) (slots0 (olds args)) h) : CanP Try.prog 49 args h K :=
  can_of2 (n := 32) mixed Try.func49 rfl (by kernel_rfl) (by rw [hl]; kernel_rfl) rfl (by kernel_rfl) s
/-! ### slices.partialInsertionSortOrdered[int]: function 50 -/
def r50_0 : List PS := [.mk (some 6) (.assign (.const (.bool false))) none]
def r50_1 : List PS := [.mk (some 11) (.move (.tmp 1)) none,
  .mk (some 12) (.binOp .add 3 (.tmp 11) (.const (.int .i64 1)) 3) none,
  .mk (some 7) (.assign (.tmp 12)) none]
def r50_2 : List PS := [.mk (some 8) (.assign (.const (.int .i64 0))) none]
def r50_3 : List PS := [.mk (some 13) (.move (.tmp 8)) none,
  .mk (some 14) (.binOp .lss 3 (.tmp 13) (.const (.int .i64 5)) 3) none]
def r50_4 : List PS := [.mk (some 17) (.move (.tmp 7)) none,
  .mk (some 18) (.move (.tmp 2)) none,
  .mk (some 19) (.binOp .lss 3 (.tmp 17) (.tmp 18) 3) none,
  .mk (some 20) (.move (.tmp 19)) none,
  .mk (some 21) (.move (.tmp 0)) (some (20, true)),
  .mk (some 22) (.move (.tmp 7)) (some (20, true)),
  .mk (some 23) (.indexAddr 22 (.tmp 21) (.tmp 22)) (some (20, true)),
  .mk (some 24) (.load 3 (.tmp 23)) (some (20, true)),
  .mk (some 25) (.move (.tmp 0)) (some (20, true)),
  .mk (some 26) (.move (.tmp 7)) (some (20, true)),
  .mk (some 27) (.binOp .sub 3 (.tmp 26) (.const (.int .i64 1)) 3) (some (20, true)),
  .mk (some 28) (.indexAddr 22 (.tmp 25) (.tmp 27)) (some (20, true)),
  .mk (some 29) (.load 3 (.tmp 28)) (some (20, true)),
  .mk (some 30) (.call ⟨(.value (.func 51)), #[(.tmp 24), (.tmp 29)], #[3, 3]⟩) (some (20, true)),
  .mk (some 31) (.unOp .not 4 (.tmp 30)) (some (20, true)),
  .mk (some 32) (.pick (.tmp 20) (.tmp 31) (.const (.bool false))) none]
def r50_5 : List PS := [.mk (some 33) (.move (.tmp 7)) none,
  .mk (some 34) (.binOp .add 3 (.tmp 33) (.const (.int .i64 1)) 3) none,
  .mk (some 7) (.assign (.tmp 34)) none]
def r50_6 : List PS := [.mk (some 35) (.move (.tmp 7)) none,
  .mk (some 36) (.move (.tmp 2)) none,
  .mk (some 37) (.binOp .eql 3 (.tmp 35) (.tmp 36) 3) none]
def r50_7 : List PS := [.mk (some 6) (.assign (.const (.bool true))) none]
def r50_8 : List PS := [.mk (some 38) (.move (.tmp 2)) none,
  .mk (some 39) (.move (.tmp 1)) none,
  .mk (some 40) (.binOp .sub 3 (.tmp 38) (.tmp 39) 3) none,
  .mk (some 41) (.binOp .lss 3 (.tmp 40) (.const (.int .i64 50)) 3) none]
def r50_9 : List PS := [.mk (some 6) (.assign (.const (.bool false))) none]
def r50_10 : List PS := [.mk (some 42) (.move (.tmp 0)) none,
  .mk (some 43) (.move (.tmp 7)) none,
  .mk (some 44) (.move (.tmp 0)) none,
  .mk (some 45) (.move (.tmp 7)) none,
  .mk (some 46) (.binOp .sub 3 (.tmp 45) (.const (.int .i64 1)) 3) none,
  .mk (some 47) (.move (.tmp 0)) none,
  .mk (some 48) (.move (.tmp 7)) none,
  .mk (some 49) (.binOp .sub 3 (.tmp 48) (.const (.int .i64 1)) 3) none,
  .mk (some 50) (.indexAddr 22 (.tmp 47) (.tmp 49)) none,
  .mk (some 51) (.load 3 (.tmp 50)) none,
  .mk (some 52) (.move (.tmp 0)) none,
  .mk (some 53) (.move (.tmp 7)) none,
  .mk (some 54) (.indexAddr 22 (.tmp 52) (.tmp 53)) none,
  .mk (some 55) (.load 3 (.tmp 54)) none,
  .mk (some 56) (.indexAddr 22 (.tmp 42) (.tmp 43)) none,
  .mk none (.store 3 (.tmp 56) (.tmp 51)) none,
  .mk (some 57) (.indexAddr 22 (.tmp 44) (.tmp 46)) none,
  .mk none (.store 3 (.tmp 57) (.tmp 55)) none]
def r50_11 : List PS := [.mk (some 58) (.move (.tmp 7)) none,
  .mk (some 59) (.move (.tmp 1)) none,
  .mk (some 60) (.binOp .sub 3 (.tmp 58) (.tmp 59) 3) none,
  .mk (some 61) (.binOp .geq 3 (.tmp 60) (.const (.int .i64 2)) 3) none]
def r50_12 : List PS := [.mk (some 62) (.move (.tmp 7)) none,
  .mk (some 63) (.binOp .sub 3 (.tmp 62) (.const (.int .i64 1)) 3) none,
  .mk (some 9) (.assign (.tmp 63)) none]
def r50_13 : List PS := [.mk (some 64) (.move (.tmp 9)) none,
  .mk (some 65) (.binOp .geq 3 (.tmp 64) (.const (.int .i64 1)) 3) none]
def r50_14 : List PS := [.mk (some 68) (.move (.tmp 0)) none,
  .mk (some 69) (.move (.tmp 9)) none,
  .mk (some 70) (.indexAddr 22 (.tmp 68) (.tmp 69)) none,
  .mk (some 71) (.load 3 (.tmp 70)) none,
  .mk (some 72) (.move (.tmp 0)) none,
  .mk (some 73) (.move (.tmp 9)) none,
  .mk (some 74) (.binOp .sub 3 (.tmp 73) (.const (.int .i64 1)) 3) none,
  .mk (some 75) (.indexAddr 22 (.tmp 72) (.tmp 74)) none,
  .mk (some 76) (.load 3 (.tmp 75)) none,
  .mk (some 77) (.call ⟨(.value (.func 51)), #[(.tmp 71), (.tmp 76)], #[3, 3]⟩) none,
  .mk (some 78) (.unOp .not 4 (.tmp 77)) none]
def r50_15 : List PS := [.mk (some 79) (.move (.tmp 0)) none,
  .mk (some 80) (.move (.tmp 9)) none,
  .mk (some 81) (.move (.tmp 0)) none,
  .mk (some 82) (.move (.tmp 9)) none,
  .mk (some 83) (.binOp .sub 3 (.tmp 82) (.const (.int .i64 1)) 3) none,
  .mk (some 84) (.move (.tmp 0)) none,
  .mk (some 85) (.move (.tmp 9)) none,
  .mk (some 86) (.binOp .sub 3 (.tmp 85) (.const (.int .i64 1)) 3) none,
  .mk (some 87) (.indexAddr 22 (.tmp 84) (.tmp 86)) none,
  .mk (some 88) (.load 3 (.tmp 87)) none,
  .mk (some 89) (.move (.tmp 0)) none,
  .mk (some 90) (.move (.tmp 9)) none,
  .mk (some 91) (.indexAddr 22 (.tmp 89) (.tmp 90)) none,
  .mk (some 92) (.load 3 (.tmp 91)) none,
  .mk (some 93) (.indexAddr 22 (.tmp 79) (.tmp 80)) none,
  .mk none (.store 3 (.tmp 93) (.tmp 88)) none,
  .mk (some 94) (.indexAddr 22 (.tmp 81) (.tmp 83)) none,
  .mk none (.store 3 (.tmp 94) (.tmp 92)) none]
def r50_16 : List PS := [.mk (some 66) (.move (.tmp 9)) none,
  .mk (some 67) (.binOp .sub 3 (.tmp 66) (.const (.int .i64 1)) 3) none,
  .mk (some 9) (.assign (.tmp 67)) none]
def r50_17 : List PS := [.mk (some 95) (.move (.tmp 2)) none,
  .mk (some 96) (.move (.tmp 7)) none,
  .mk (some 97) (.binOp .sub 3 (.tmp 95) (.tmp 96) 3) none,
  .mk (some 98) (.binOp .geq 3 (.tmp 97) (.const (.int .i64 2)) 3) none]
def r50_18 : List PS := [.mk (some 99) (.move (.tmp 7)) none,
  .mk (some 100) (.binOp .add 3 (.tmp 99) (.const (.int .i64 1)) 3) none,
  .mk (some 10) (.assign (.tmp 100)) none]
def r50_19 : List PS := [.mk (some 101) (.move (.tmp 10)) none,
  .mk (some 102) (.move (.tmp 2)) none,
  .mk (some 103) (.binOp .lss 3 (.tmp 101) (.tmp 102) 3) none]
def r50_20 : List PS := [.mk (some 106) (.move (.tmp 0)) none,
  .mk (some 107) (.move (.tmp 10)) none,
  .mk (some 108) (.indexAddr 22 (.tmp 106) (.tmp 107)) none,
  .mk (some 109) (.load 3 (.tmp 108)) none,
  .mk (some 110) (.move (.tmp 0)) none,
  .mk (some 111) (.move (.tmp 10)) none,
  .mk (some 112) (.binOp .sub 3 (.tmp 111) (.const (.int .i64 1)) 3) none,
  .mk (some 113) (.indexAddr 22 (.tmp 110) (.tmp 112)) none,
  .mk (some 114) (.load 3 (.tmp 113)) none,
  .mk (some 115) (.call ⟨(.value (.func 51)), #[(.tmp 109), (.tmp 114)], #[3, 3]⟩) none,
  .mk (some 116) (.unOp .not 4 (.tmp 115)) none]
def r50_21 : List PS := [.mk (some 117) (.move (.tmp 0)) none,
  .mk (some 118) (.move (.tmp 10)) none,
  .mk (some 119) (.move (.tmp 0)) none,
  .mk (some 120) (.move (.tmp 10)) none,
  .mk (some 121) (.binOp .sub 3 (.tmp 120) (.const (.int .i64 1)) 3) none,
  .mk (some 122) (.move (.tmp 0)) none,
  .mk (some 123) (.move (.tmp 10)) none,
  .mk (some 124) (.binOp .sub 3 (.tmp 123) (.const (.int .i64 1)) 3) none,
  .mk (some 125) (.indexAddr 22 (.tmp 122) (.tmp 124)) none,
  .mk (some 126) (.load 3 (.tmp 125)) none,
  .mk (some 127) (.move (.tmp 0)) none,
  .mk (some 128) (.move (.tmp 10)) none,
  .mk (some 129) (.indexAddr 22 (.tmp 127) (.tmp 128)) none,
  .mk (some 130) (.load 3 (.tmp 129)) none,
  .mk (some 131) (.indexAddr 22 (.tmp 117) (.tmp 118)) none,
  .mk none (.store 3 (.tmp 131) (.tmp 126)) none,
  .mk (some 132) (.indexAddr 22 (.tmp 119) (.tmp 121)) none,
  .mk none (.store 3 (.tmp 132) (.tmp 130)) none]
def r50_22 : List PS := [.mk (some 104) (.move (.tmp 10)) none,
  .mk (some 105) (.binOp .add 3 (.tmp 104) (.const (.int .i64 1)) 3) none,
  .mk (some 10) (.assign (.tmp 105)) none]
def r50_23 : List PS := [.mk (some 15) (.move (.tmp 8)) none,
  .mk (some 16) (.binOp .add 3 (.tmp 15) (.const (.int .i64 1)) 3) none,
  .mk (some 8) (.assign (.tmp 16)) none]
def r50_24 : List PS := [.mk (some 6) (.assign (.const (.bool false))) none]
def c50 : PC := (.seq (.reg false r50_0) (.seq (.reg false r50_1) (.seq (.seq (.reg false r50_2) (.block 0 (.loop (.seq (.seq (.reg false r50_3) (.cond (.tmp 14) .skip (.exit 0))) (.seq (.block 1 (.seq (.block 2 (.loop (.seq (.seq (.reg true r50_4) (.cond (.tmp 32) .skip (.exit 2))) (.block 3 (.reg false r50_5))))) (.seq (.seq (.reg false r50_6) (.cond (.tmp 37) (.seq (.reg false r50_7) .ret) .skip)) (.seq (.seq (.reg false r50_8) (.cond (.tmp 41) (.seq (.reg false r50_9) .ret) .skip)) (.seq (.reg true r50_10) (.seq (.seq (.reg false r50_11) (.cond (.tmp 61) (.seq (.reg false r50_12) (.block 4 (.loop (.seq (.seq (.reg false r50_13) (.cond (.tmp 65) .skip (.exit 4))) (.seq (.block 5 (.seq (.seq (.reg true r50_14) (.cond (.tmp 78) (.exit 4) .skip)) (.reg true r50_15))) (.reg false r50_16)))))) .skip)) (.seq (.reg false r50_17) (.cond (.tmp 98) (.seq (.reg false r50_18) (.block 6 (.loop (.seq (.seq (.reg false r50_19) (.cond (.tmp 103) .skip (.exit 6))) (.seq (.block 7 (.seq (.seq (.reg true r50_20) (.cond (.tmp 116) (.exit 6) .skip)) (.reg true r50_21))) (.reg false r50_22)))))) .skip)))))))) (.reg false r50_23)))))) (.seq (.reg false r50_24) .ret))))
theorem e50 {args : List PV} {h : Heap} {K : PV → Heap → Prop} (hl : args.length = 3) (s : pwp Try.prog [] c50 (fin Try.prog [.tmp 6] h K) (slots0 (olds args)) h) : CanP Try.prog 50 args h K :=
  can_of2 (n := 133) mixed Try.func50 rfl (by kernel_rfl) (by rw [hl]; kernel_rfl) rfl (by kernel_rfl) s
/-! ### slices.partitionEqualOrdered[int]: function 52 -/
def r52_0 : List PS := [.mk (some 8) (.assign (.const (.int .i64 0))) none]
def r52_1 : List PS := [.mk (some 11) (.move (.tmp 0)) none,
  .mk (some 12) (.move (.tmp 1)) none,
  .mk (some 13) (.move (.tmp 0)) none,
  .mk (some 14) (.move (.tmp 3)) none,
  .mk (some 15) (.move (.tmp 0)) none,
  .mk (some 16) (.move (.tmp 3)) none,
  .mk (some 17) (.indexAddr 22 (.tmp 15) (.tmp 16)) none,
  .mk (some 18) (.load 3 (.tmp 17)) none,
  .mk (some 19) (.move (.tmp 0)) none,
  .mk (some 20) (.move (.tmp 1)) none,
  .mk (some 21) (.indexAddr 22 (.tmp 19) (.tmp 20)) none,
  .mk (some 22) (.load 3 (.tmp 21)) none,
  .mk (some 23) (.indexAddr 22 (.tmp 11) (.tmp 12)) none,
  .mk none (.store 3 (.tmp 23) (.tmp 18)) none,
  .mk (some 24) (.indexAddr 22 (.tmp 13) (.tmp 14)) none,
  .mk none (.store 3 (.tmp 24) (.tmp 22)) none]
def r52_2 : List PS := [.mk (some 25) (.move (.tmp 1)) none,
  .mk (some 26) (.binOp .add 3 (.tmp 25) (.const (.int .i64 1)) 3) none,
  .mk (some 27) (.move (.tmp 2)) none,
  .mk (some 28) (.binOp .sub 3 (.tmp 27) (.const (.int .i64 1)) 3) none,
  .mk (some 9) (.assign (.tmp 26)) none,
  .mk (some 10) (.assign (.tmp 28)) none]
def r52_3 : List PS := [.mk (some 29) (.move (.tmp 9)) none,
  .mk (some 30) (.move (.tmp 10)) none,
  .mk (some 31) (.binOp .leq 3 (.tmp 29) (.tmp 30) 3) none,
  .mk (some 32) (.move (.tmp 31)) none,
  .mk (some 33) (.move (.tmp 0)) (some (32, true)),
  .mk (some 34) (.move (.tmp 1)) (some (32, true)),
  .mk (some 35) (.indexAddr 22 (.tmp 33) (.tmp 34)) (some (32, true)),
  .mk (some 36) (.load 3 (.tmp 35)) (some (32, true)),
  .mk (some 37) (.move (.tmp 0)) (some (32, true)),
  .mk (some 38) (.move (.tmp 9)) (some (32, true)),
  .mk (some 39) (.indexAddr 22 (.tmp 37) (.tmp 38)) (some (32, true)),
  .mk (some 40) (.load 3 (.tmp 39)) (some (32, true)),
  .mk (some 41) (.call ⟨(.value (.func 51)), #[(.tmp 36), (.tmp 40)], #[3, 3]⟩) (some (32, true)),
  .mk (some 42) (.unOp .not 4 (.tmp 41)) (some (32, true)),
  .mk (some 43) (.pick (.tmp 32) (.tmp 42) (.const (.bool false))) none]
def r52_4 : List PS := [.mk (some 44) (.move (.tmp 9)) none,
  .mk (some 45) (.binOp .add 3 (.tmp 44) (.const (.int .i64 1)) 3) none,
  .mk (some 9) (.assign (.tmp 45)) none]
def r52_5 : List PS := [.mk (some 46) (.move (.tmp 9)) none,
  .mk (some 47) (.move (.tmp 10)) none,
  .mk (some 48) (.binOp .leq 3 (.tmp 46) (.tmp 47) 3) none,
  .mk (some 49) (.move (.tmp 48)) none,
  .mk (some 50) (.move (.tmp 0)) (some (49, true)),
  .mk (some 51) (.move (.tmp 1)) (some (49, true)),
  .mk (some 52) (.indexAddr 22 (.tmp 50) (.tmp 51)) (some (49, true)),
  .mk (some 53) (.load 3 (.tmp 52)) (some (49, true)),
  .mk (some 54) (.move (.tmp 0)) (some (49, true)),
  .mk (some 55) (.move (.tmp 10)) (some (49, true)),
  .mk (some 56) (.indexAddr 22 (.tmp 54) (.tmp 55)) (some (49, true)),
  .mk (some 57) (.load 3 (.tmp 56)) (some (49, true)),
  .mk (some 58) (.call ⟨(.value (.func 51)), #[(.tmp 53), (.tmp 57)], #[3, 3]⟩) (some (49, true)),
  .mk (some 59) (.pick (.tmp 49) (.tmp 58) (.const (.bool false))) none]
def r52_6 : List PS := [.mk (some 60) (.move (.tmp 10)) none,
  .mk (some 61) (.binOp .sub 3 (.tmp 60) (.const (.int .i64 1)) 3) none,
  .mk (some 10) (.assign (.tmp 61)) none]
def r52_7 : List PS := [.mk (some 62) (.move (.tmp 9)) none,
  .mk (some 63) (.move (.tmp 10)) none,
  .mk (some 64) (.binOp .gtr 3 (.tmp 62) (.tmp 63) 3) none]
def r52_8 : List PS := [.mk (some 65) (.move (.tmp 0)) none,
  .mk (some 66) (.move (.tmp 9)) none,
  .mk (some 67) (.move (.tmp 0)) none,
  .mk (some 68) (.move (.tmp 10)) none,
  .mk (some 69) (.move (.tmp 0)) none,
  .mk (some 70) (.move (.tmp 10)) none,
  .mk (some 71) (.indexAddr 22 (.tmp 69) (.tmp 70)) none,
  .mk (some 72) (.load 3 (.tmp 71)) none,
  .mk (some 73) (.move (.tmp 0)) none,
  .mk (some 74) (.move (.tmp 9)) none,
  .mk (some 75) (.indexAddr 22 (.tmp 73) (.tmp 74)) none,
  .mk (some 76) (.load 3 (.tmp 75)) none,
  .mk (some 77) (.indexAddr 22 (.tmp 65) (.tmp 66)) none,
  .mk none (.store 3 (.tmp 77) (.tmp 72)) none,
  .mk (some 78) (.indexAddr 22 (.tmp 67) (.tmp 68)) none,
  .mk none (.store 3 (.tmp 78) (.tmp 76)) none]
def r52_9 : List PS := [.mk (some 79) (.move (.tmp 9)) none,
  .mk (some 80) (.binOp .add 3 (.tmp 79) (.const (.int .i64 1)) 3) none,
  .mk (some 9) (.assign (.tmp 80)) none]
def r52_10 : List PS := [.mk (some 81) (.move (.tmp 10)) none,
  .mk (some 82) (.binOp .sub 3 (.tmp 81) (.const (.int .i64 1)) 3) none,
  .mk (some 10) (.assign (.tmp 82)) none]
def r52_11 : List PS := [.mk (some 83) (.move (.tmp 9)) none,
  .mk (some 8) (.assign (.tmp 83)) none]
def c52 : PC := (.seq (.reg false r52_0) (.seq (.reg true r52_1) (.seq (.reg false r52_2) (.seq (.block 0 (.loop (.block 1 (.seq (.block 2 (.loop (.seq (.seq (.reg true r52_3) (.cond (.tmp 43) .skip (.exit 2))) (.block 3 (.reg false r52_4))))) (.seq (.block 4 (.loop (.seq (.seq (.reg true r52_5) (.cond (.tmp 59) .skip (.exit 4))) (.block 5 (.reg false r52_6))))) (.seq (.seq (.reg false r52_7) (.cond (.tmp 64) (.exit 0) .skip)) (.seq (.reg true r52_8) (.seq (.reg false r52_9) (.reg false r52_10))))))))) (.seq (.reg false r52_11) .ret)))))
theorem e52 {args : List PV} {h : Heap} {K : PV → Heap → Prop} (hl : args.length = 4) (s : pwp Try.prog [] c52 (fin Try.prog [.tmp 8] h K) (slots0 (olds args)) h) : CanP Try.prog 52 args h K :=
  can_of2 (n := 84) mixed Try.func52 rfl (by kernel_rfl) (by rw [hl]; kernel_rfl) rfl (by kernel_rfl) s
/-! ### slices.partitionOrdered[int]: function 53 -/
def r53_0 : List PS := [.mk (some 8) (.assign (.const (.int .i64 0))) none,
  .mk (some 9) (.assign (.const (.bool false))) none]
def r53_1 : List PS := [.mk (some 12) (.move (.tmp 0)) none,
  .mk (some 13) (.move (.tmp 1)) none,
  .mk (some 14) (.move (.tmp 0)) none,
  .mk (some 15) (.move (.tmp 3)) none,
  .mk (some 16) (.move (.tmp 0)) none,
  .mk (some 17) (.move (.tmp 3)) none,
  .mk (some 18) (.indexAddr 22 (.tmp 16) (.tmp 17)) none,
  .mk (some 19) (.load 3 (.tmp 18)) none,
  .mk (some 20) (.move (.tmp 0)) none,
  .mk (some 21) (.move (.tmp 1)) none,
  .mk (some 22) (.indexAddr 22 (.tmp 20) (.tmp 21)) none,
  .mk (some 23) (.load 3 (.tmp 22)) none,
  .mk (some 24) (.indexAddr 22 (.tmp 12) (.tmp 13)) none,
  .mk none (.store 3 (.tmp 24) (.tmp 19)) none,
  .mk (some 25) (.indexAddr 22 (.tmp 14) (.tmp 15)) none,
  .mk none (.store 3 (.tmp 25) (.tmp 23)) none]
def r53_2 : List PS := [.mk (some 26) (.move (.tmp 1)) none,
  .mk (some 27) (.binOp .add 3 (.tmp 26) (.const (.int .i64 1)) 3) none,
  .mk (some 28) (.move (.tmp 2)) none,
  .mk (some 29) (.binOp .sub 3 (.tmp 28) (.const (.int .i64 1)) 3) none,
  .mk (some 10) (.assign (.tmp 27)) none,
  .mk (some 11) (.assign (.tmp 29)) none]
def r53_3 : List PS := [.mk (some 30) (.move (.tmp 10)) none,
  .mk (some 31) (.move (.tmp 11)) none,
  .mk (some 32) (.binOp .leq 3 (.tmp 30) (.tmp 31) 3) none,
  .mk (some 33) (.move (.tmp 32)) none,
  .mk (some 34) (.move (.tmp 0)) (some (33, true)),
  .mk (some 35) (.move (.tmp 10)) (some (33, true)),
  .mk (some 36) (.indexAddr 22 (.tmp 34) (.tmp 35)) (some (33, true)),
  .mk (some 37) (.load 3 (.tmp 36)) (some (33, true)),
  .mk (some 38) (.move (.tmp 0)) (some (33, true)),
  .mk (some 39) (.move (.tmp 1)) (some (33, true)),
  .mk (some 40) (.indexAddr 22 (.tmp 38) (.tmp 39)) (some (33, true)),
  .mk (some 41) (.load 3 (.tmp 40)) (some (33, true)),
  .mk (some 42) (.call ⟨(.value (.func 51)), #[(.tmp 37), (.tmp 41)], #[3, 3]⟩) (some (33, true)),
  .mk (some 43) (.pick (.tmp 33) (.tmp 42) (.const (.bool false))) none]
def r53_4 : List PS := [.mk (some 44) (.move (.tmp 10)) none,
  .mk (some 45) (.binOp .add 3 (.tmp 44) (.const (.int .i64 1)) 3) none,
  .mk (some 10) (.assign (.tmp 45)) none]
def r53_5 : List PS := [.mk (some 46) (.move (.tmp 10)) none,
  .mk (some 47) (.move (.tmp 11)) none,
  .mk (some 48) (.binOp .leq 3 (.tmp 46) (.tmp 47) 3) none,
  .mk (some 49) (.move (.tmp 48)) none,
  .mk (some 50) (.move (.tmp 0)) (some (49, true)),
  .mk (some 51) (.move (.tmp 11)) (some (49, true)),
  .mk (some 52) (.indexAddr 22 (.tmp 50) (.tmp 51)) (some (49, true)),
  .mk (some 53) (.load 3 (.tmp 52)) (some (49, true)),
  .mk (some 54) (.move (.tmp 0)) (some (49, true)),
  .mk (some 55) (.move (.tmp 1)) (some (49, true)),
  .mk (some 56) (.indexAddr 22 (.tmp 54) (.tmp 55)) (some (49, true)),
  .mk (some 57) (.load 3 (.tmp 56)) (some (49, true)),
  .mk (some 58) (.call ⟨(.value (.func 51)), #[(.tmp 53), (.tmp 57)], #[3, 3]⟩) (some (49, true)),
  .mk (some 59) (.unOp .not 4 (.tmp 58)) (some (49, true)),
  .mk (some 60) (.pick (.tmp 49) (.tmp 59) (.const (.bool false))) none]
def r53_6 : List PS := [.mk (some 61) (.move (.tmp 11)) none,
  .mk (some 62) (.binOp .sub 3 (.tmp 61) (.const (.int .i64 1)) 3) none,
  .mk (some 11) (.assign (.tmp 62)) none]
def r53_7 : List PS := [.mk (some 63) (.move (.tmp 10)) none,
  .mk (some 64) (.move (.tmp 11)) none,
  .mk (some 65) (.binOp .gtr 3 (.tmp 63) (.tmp 64) 3) none]
def r53_8 : List PS := [.mk (some 66) (.move (.tmp 0)) none,
  .mk (some 67) (.move (.tmp 11)) none,
  .mk (some 68) (.move (.tmp 0)) none,
  .mk (some 69) (.move (.tmp 1)) none,
  .mk (some 70) (.move (.tmp 0)) none,
  .mk (some 71) (.move (.tmp 1)) none,
  .mk (some 72) (.indexAddr 22 (.tmp 70) (.tmp 71)) none,
  .mk (some 73) (.load 3 (.tmp 72)) none,
  .mk (some 74) (.move (.tmp 0)) none,
  .mk (some 75) (.move (.tmp 11)) none,
  .mk (some 76) (.indexAddr 22 (.tmp 74) (.tmp 75)) none,
  .mk (some 77) (.load 3 (.tmp 76)) none,
  .mk (some 78) (.indexAddr 22 (.tmp 66) (.tmp 67)) none,
  .mk none (.store 3 (.tmp 78) (.tmp 73)) none,
  .mk (some 79) (.indexAddr 22 (.tmp 68) (.tmp 69)) none,
  .mk none (.store 3 (.tmp 79) (.tmp 77)) none]
def r53_9 : List PS := [.mk (some 80) (.move (.tmp 11)) none,
  .mk (some 8) (.assign (.tmp 80)) none,
  .mk (some 9) (.assign (.const (.bool true))) none]
def r53_10 : List PS := [.mk (some 81) (.move (.tmp 0)) none,
  .mk (some 82) (.move (.tmp 10)) none,
  .mk (some 83) (.move (.tmp 0)) none,
  .mk (some 84) (.move (.tmp 11)) none,
  .mk (some 85) (.move (.tmp 0)) none,
  .mk (some 86) (.move (.tmp 11)) none,
  .mk (some 87) (.indexAddr 22 (.tmp 85) (.tmp 86)) none,
  .mk (some 88) (.load 3 (.tmp 87)) none,
  .mk (some 89) (.move (.tmp 0)) none,
  .mk (some 90) (.move (.tmp 10)) none,
  .mk (some 91) (.indexAddr 22 (.tmp 89) (.tmp 90)) none,
  .mk (some 92) (.load 3 (.tmp 91)) none,
  .mk (some 93) (.indexAddr 22 (.tmp 81) (.tmp 82)) none,
  .mk none (.store 3 (.tmp 93) (.tmp 88)) none,
  .mk (some 94) (.indexAddr 22 (.tmp 83) (.tmp 84)) none,
  .mk none (.store 3 (.tmp 94) (.tmp 92)) none]
def r53_11 : List PS := [.mk (some 95) (.move (.tmp 10)) none,
  .mk (some 96) (.binOp .add 3 (.tmp 95) (.const (.int .i64 1)) 3) none,
  .mk (some 10) (.assign (.tmp 96)) none]
def r53_12 : List PS := [.mk (some 97) (.move (.tmp 11)) none,
  .mk (some 98) (.binOp .sub 3 (.tmp 97) (.const (.int .i64 1)) 3) none,
  .mk (some 11) (.assign (.tmp 98)) none]
def r53_13 : List PS := [.mk (some 99) (.move (.tmp 10)) none,
  .mk (some 100) (.move (.tmp 11)) none,
  .mk (some 101) (.binOp .leq 3 (.tmp 99) (.tmp 100) 3) none,
  .mk (some 102) (.move (.tmp 101)) none,
  .mk (some 103) (.move (.tmp 0)) (some (102, true)),
  .mk (some 104) (.move (.tmp 10)) (some (102, true)),
  .mk (some 105) (.indexAddr 22 (.tmp 103) (.tmp 104)) (some (102, true)),
  .mk (some 106) (.load 3 (.tmp 105)) (some (102, true)),
  .mk (some 107) (.move (.tmp 0)) (some (102, true)),
  .mk (some 108) (.move (.tmp 1)) (some (102, true)),
  .mk (some 109) (.indexAddr 22 (.tmp 107) (.tmp 108)) (some (102, true)),
  .mk (some 110) (.load 3 (.tmp 109)) (some (102, true)),
  .mk (some 111) (.call ⟨(.value (.func 51)), #[(.tmp 106), (.tmp 110)], #[3, 3]⟩) (some (102, true)),
  .mk (some 112) (.pick (.tmp 102) (.tmp 111) (.const (.bool false))) none]
def r53_14 : List PS := [.mk (some 113) (.move (.tmp 10)) none,
  .mk (some 114) (.binOp .add 3 (.tmp 113) (.const (.int .i64 1)) 3) none,
  .mk (some 10) (.assign (.tmp 114)) none]
def r53_15 : List PS := [.mk (some 115) (.move (.tmp 10)) none,
  .mk (some 116) (.move (.tmp 11)) none,
  .mk (some 117) (.binOp .leq 3 (.tmp 115) (.tmp 116) 3) none,
  .mk (some 118) (.move (.tmp 117)) none,
  .mk (some 119) (.move (.tmp 0)) (some (118, true)),
  .mk (some 120) (.move (.tmp 11)) (some (118, true)),
  .mk (some 121) (.indexAddr 22 (.tmp 119) (.tmp 120)) (some (118, true)),
  .mk (some 122) (.load 3 (.tmp 121)) (some (118, true)),
  .mk (some 123) (.move (.tmp 0)) (some (118, true)),
  .mk (some 124) (.move (.tmp 1)) (some (118, true)),
  .mk (some 125) (.indexAddr 22 (.tmp 123) (.tmp 124)) (some (118, true)),
  .mk (some 126) (.load 3 (.tmp 125)) (some (118, true)),
  .mk (some 127) (.call ⟨(.value (.func 51)), #[(.tmp 122), (.tmp 126)], #[3, 3]⟩) (some (118, true)),
  .mk (some 128) (.unOp .not 4 (.tmp 127)) (some (118, true)),
  .mk (some 129) (.pick (.tmp 118) (.tmp 128) (.const (.bool false))) none]
def r53_16 : List PS := [.mk (some 130) (.move (.tmp 11)) none,
  .mk (some 131) (.binOp .sub 3 (.tmp 130) (.const (.int .i64 1)) 3) none,
  .mk (some 11) (.assign (.tmp 131)) none]
def r53_17 : List PS := [.mk (some 132) (.move (.tmp 10)) none,
  .mk (some 133) (.move (.tmp 11)) none,
  .mk (some 134) (.binOp .gtr 3 (.tmp 132) (.tmp 133) 3) none]
def r53_18 : List PS := [.mk (some 135) (.move (.tmp 0)) none,
  .mk (some 136) (.move (.tmp 10)) none,
  .mk (some 137) (.move (.tmp 0)) none,
  .mk (some 138) (.move (.tmp 11)) none,
  .mk (some 139) (.move (.tmp 0)) none,
  .mk (some 140) (.move (.tmp 11)) none,
  .mk (some 141) (.indexAddr 22 (.tmp 139) (.tmp 140)) none,
  .mk (some 142) (.load 3 (.tmp 141)) none,
  .mk (some 143) (.move (.tmp 0)) none,
  .mk (some 144) (.move (.tmp 10)) none,
  .mk (some 145) (.indexAddr 22 (.tmp 143) (.tmp 144)) none,
  .mk (some 146) (.load 3 (.tmp 145)) none,
  .mk (some 147) (.indexAddr 22 (.tmp 135) (.tmp 136)) none,
  .mk none (.store 3 (.tmp 147) (.tmp 142)) none,
  .mk (some 148) (.indexAddr 22 (.tmp 137) (.tmp 138)) none,
  .mk none (.store 3 (.tmp 148) (.tmp 146)) none]
def r53_19 : List PS := [.mk (some 149) (.move (.tmp 10)) none,
  .mk (some 150) (.binOp .add 3 (.tmp 149) (.const (.int .i64 1)) 3) none,
  .mk (some 10) (.assign (.tmp 150)) none]
def r53_20 : List PS := [.mk (some 151) (.move (.tmp 11)) none,
  .mk (some 152) (.binOp .sub 3 (.tmp 151) (.const (.int .i64 1)) 3) none,
  .mk (some 11) (.assign (.tmp 152)) none]
def r53_21 : List PS := [.mk (some 153) (.move (.tmp 0)) none,
  .mk (some 154) (.move (.tmp 11)) none,
  .mk (some 155) (.move (.tmp 0)) none,
  .mk (some 156) (.move (.tmp 1)) none,
  .mk (some 157) (.move (.tmp 0)) none,
  .mk (some 158) (.move (.tmp 1)) none,
  .mk (some 159) (.indexAddr 22 (.tmp 157) (.tmp 158)) none,
  .mk (some 160) (.load 3 (.tmp 159)) none,
  .mk (some 161) (.move (.tmp 0)) none,
  .mk (some 162) (.move (.tmp 11)) none,
  .mk (some 163) (.indexAddr 22 (.tmp 161) (.tmp 162)) none,
  .mk (some 164) (.load 3 (.tmp 163)) none,
  .mk (some 165) (.indexAddr 22 (.tmp 153) (.tmp 154)) none,
  .mk none (.store 3 (.tmp 165) (.tmp 160)) none,
  .mk (some 166) (.indexAddr 22 (.tmp 155) (.tmp 156)) none,
  .mk none (.store 3 (.tmp 166) (.tmp 164)) none]
def r53_22 : List PS := [.mk (some 167) (.move (.tmp 11)) none,
  .mk (some 8) (.assign (.tmp 167)) none,
  .mk (some 9) (.assign (.const (.bool false))) none]
def c53 : PC := (.seq (.reg false r53_0) (.seq (.reg true r53_1) (.seq (.reg false r53_2) (.seq (.block 0 (.loop (.seq (.seq (.reg true r53_3) (.cond (.tmp 43) .skip (.exit 0))) (.block 1 (.reg false r53_4))))) (.seq (.block 2 (.loop (.seq (.seq (.reg true r53_5) (.cond (.tmp 60) .skip (.exit 2))) (.block 3 (.reg false r53_6))))) (.seq (.seq (.reg false r53_7) (.cond (.tmp 65) (.seq (.reg true r53_8) (.seq (.reg false r53_9) .ret)) .skip)) (.seq (.reg true r53_10) (.seq (.reg false r53_11) (.seq (.reg false r53_12) (.seq (.block 4 (.loop (.block 5 (.seq (.block 6 (.loop (.seq (.seq (.reg true r53_13) (.cond (.tmp 112) .skip (.exit 6))) (.block 7 (.reg false r53_14))))) (.seq (.block 8 (.loop (.seq (.seq (.reg true r53_15) (.cond (.tmp 129) .skip (.exit 8))) (.block 9 (.reg false r53_16))))) (.seq (.seq (.reg false r53_17) (.cond (.tmp 134) (.exit 4) .skip)) (.seq (.reg true r53_18) (.seq (.reg false r53_19) (.reg false r53_20))))))))) (.seq (.reg true r53_21) (.seq (.reg false r53_22) .ret))))))))))))
theorem e53 {args : List PV} {h : Heap} {K : PV → Heap → Prop} (hl : args.length = 4) (s : pwp Try.prog [] c53 (fin Try.prog [.tmp 8, .tmp 9] h K) (slots0 (olds args)) h) : CanP Try.prog 53 args h K :=
  can_of2 (n := 168) mixed Try.func53 rfl (by kernel_rfl) (by rw [hl]; kernel_rfl) rfl (by kernel_rfl) s
/-! ### slices.pdqsortOrdered[int]: function 42 -/
def r42_0 : List PS := [.mk (some 8) (.assign (.const (.bool true))) none]
def r42_1 : List PS := [.mk (some 9) (.assign (.const (.bool true))) none]
def r42_2 : List PS := [.mk (some 19) (.move (.tmp 2)) none,
  .mk (some 20) (.move (.tmp 1)) none,
  .mk (some 21) (.binOp .sub 3 (.tmp 19) (.tmp 20) 3) none,
  .mk (some 10) (.assign (.tmp 21)) none]
def r42_3 : List PS := [.mk (some 22) (.move (.tmp 10)) none,
  .mk (some 23) (.binOp .leq 3 (.tmp 22) (.const (.int .i64 12)) 3) none]
def r42_4 : List PS := [.mk (some 24) (.move (.tmp 0)) none,
  .mk (some 25) (.move (.tmp 1)) none,
  .mk (some 26) (.move (.tmp 2)) none,
  .mk (some 27) (.call ⟨(.value (.func 45)), #[(.tmp 24), (.tmp 25), (.tmp 26)], #[22, 3, 3]⟩) none]
def r42_5 : List PS := [.mk (some 28) (.move (.tmp 3)) none,
  .mk (some 29) (.binOp .eql 3 (.tmp 28) (.const (.int .i64 0)) 3) none]
def r42_6 : List PS := [.mk (some 30) (.move (.tmp 0)) none,
  .mk (some 31) (.move (.tmp 1)) none,
  .mk (some 32) (.move (.tmp 2)) none,
  .mk (some 33) (.call ⟨(.value (.func 46)), #[(.tmp 30), (.tmp 31), (.tmp 32)], #[22, 3, 3]⟩) none]
def r42_7 : List PS := [.mk (some 34) (.move (.tmp 8)) none,
  .mk (some 35) (.unOp .not 4 (.tmp 34)) none]
def r42_8 : List PS := [.mk (some 36) (.move (.tmp 0)) none,
  .mk (some 37) (.move (.tmp 1)) none,
  .mk (some 38) (.move (.tmp 2)) none,
  .mk (some 39) (.call ⟨(.value (.func 47)), #[(.tmp 36), (.tmp 37), (.tmp 38)], #[22, 3, 3]⟩) none]
def r42_9 : List PS := [.mk (some 40) (.move (.tmp 3)) none,
  .mk (some 41) (.binOp .sub 3 (.tmp 40) (.const (.int .i64 1)) 3) none,
  .mk (some 3) (.assign (.tmp 41)) none]
def r42_10 : List PS := [.mk (some 43) (.move (.tmp 0)) none,
  .mk (some 44) (.move (.tmp 1)) none,
  .mk (some 45) (.move (.tmp 2)) none,
  .mk (some 46) (.call ⟨(.value (.func 48)), #[(.tmp 43), (.tmp 44), (.tmp 45)], #[22, 3, 3]⟩) none,
  .mk (some 42) (.move (.tmp 46)) none,
  .mk (some 47) (.extract (.tmp 42) 0) none,
  .mk (some 48) (.extract (.tmp 42) 1) none,
  .mk (some 11) (.assign (.tmp 47)) none,
  .mk (some 12) (.assign (.tmp 48)) none]
def r42_11 : List PS := [.mk (some 49) (.move (.tmp 12)) none,
  .mk (some 50) (.binOp .eql 66 (.tmp 49) (.const (.int .i64 2)) 66) none]
def r42_12 : List PS := [.mk (some 51) (.move (.tmp 0)) none,
  .mk (some 52) (.move (.tmp 1)) none,
  .mk (some 53) (.move (.tmp 2)) none,
  .mk (some 54) (.call ⟨(.value (.func 49)), #[(.tmp 51), (.tmp 52), (.tmp 53)], #[22, 3, 3]⟩) none]
def r42_13 : List PS := [.mk (some 55) (.move (.tmp 2)) none,
  .mk (some 56) (.binOp .sub 3 (.tmp 55) (.const (.int .i64 1)) 3) none,
  .mk (some 57) (.move (.tmp 11)) none,
  .mk (some 58) (.move (.tmp 1)) none,
  .mk (some 59) (.binOp .sub 3 (.tmp 57) (.tmp 58) 3) none,
  .mk (some 60) (.binOp .sub 3 (.tmp 56) (.tmp 59) 3) none,
  .mk (some 11) (.assign (.tmp 60)) none]
def r42_14 : List PS := [.mk (some 12) (.assign (.const (.int .i64 1))) none]
def r42_15 : List PS := [.mk (some 61) (.move (.tmp 8)) none,
  .mk (some 62) (.move (.tmp 61)) none,
  .mk (some 63) (.move (.tmp 9)) (some (62, true)),
  .mk (some 64) (.pick (.tmp 62) (.tmp 63) (.const (.bool false))) none,
  .mk (some 65) (.move (.tmp 64)) none,
  .mk (some 66) (.move (.tmp 12)) (some (65, true)),
  .mk (some 67) (.binOp .eql 66 (.tmp 66) (.const (.int .i64 1)) 66) (some (65, true)),
  .mk (some 68) (.pick (.tmp 65) (.tmp 67) (.const (.bool false))) none]
def r42_16 : List PS := [.mk (some 69) (.move (.tmp 0)) none,
  .mk (some 70) (.move (.tmp 1)) none,
  .mk (some 71) (.move (.tmp 2)) none,
  .mk (some 72) (.call ⟨(.value (.func 50)), #[(.tmp 69), (.tmp 70), (.tmp 71)], #[22, 3, 3]⟩) none]
def r42_17 : List PS := [.mk (some 73) (.move (.tmp 1)) none,
  .mk (some 74) (.binOp .gtr 3 (.tmp 73) (.const (.int .i64 0)) 3) none,
  .mk (some 75) (.move (.tmp 74)) none,
  .mk (some 76) (.move (.tmp 0)) (some (75, true)),
  .mk (some 77) (.move (.tmp 1)) (some (75, true)),
  .mk (some 78) (.binOp .sub 3 (.tmp 77) (.const (.int .i64 1)) 3) (some (75, true)),
  .mk (some 79) (.indexAddr 22 (.tmp 76) (.tmp 78)) (some (75, true)),
  .mk (some 80) (.load 3 (.tmp 79)) (some (75, true)),
  .mk (some 81) (.move (.tmp 0)) (some (75, true)),
  .mk (some 82) (.move (.tmp 11)) (some (75, true)),
  .mk (some 83) (.indexAddr 22 (.tmp 81) (.tmp 82)) (some (75, true)),
  .mk (some 84) (.load 3 (.tmp 83)) (some (75, true)),
  .mk (some 85) (.call ⟨(.value (.func 51)), #[(.tmp 80), (.tmp 84)], #[3, 3]⟩) (some (75, true)),
  .mk (some 86) (.unOp .not 4 (.tmp 85)) (some (75, true)),
  .mk (some 87) (.pick (.tmp 75) (.tmp 86) (.const (.bool false))) none]
def r42_18 : List PS := [.mk (some 88) (.move (.tmp 0)) none,
  .mk (some 89) (.move (.tmp 1)) none,
  .mk (some 90) (.move (.tmp 2)) none,
  .mk (some 91) (.move (.tmp 11)) none,
  .mk (some 92) (.call ⟨(.value (.func 52)), #[(.tmp 88), (.tmp 89), (.tmp 90), (.tmp 91)], #[22, 3, 3, 3]⟩) none,
  .mk (some 13) (.assign (.tmp 92)) none]
def r42_19 : List PS := [.mk (some 93) (.move (.tmp 13)) none,
  .mk (some 1) (.assign (.tmp 93)) none]
def r42_20 : List PS := [.mk (some 95) (.move (.tmp 0)) none,
  .mk (some 96) (.move (.tmp 1)) none,
  .mk (some 97) (.move (.tmp 2)) none,
  .mk (some 98) (.move (.tmp 11)) none,
  .mk (some 99) (.call ⟨(.value (.func 53)), #[(.tmp 95), (.tmp 96), (.tmp 97), (.tmp 98)], #[22, 3, 3, 3]⟩) none,
  .mk (some 94) (.move (.tmp 99)) none,
  .mk (some 100) (.extract (.tmp 94) 0) none,
  .mk (some 101) (.extract (.tmp 94) 1) none,
  .mk (some 14) (.assign (.tmp 100)) none,
  .mk (some 15) (.assign (.tmp 101)) none]
def r42_21 : List PS := [.mk (some 102) (.move (.tmp 15)) none,
  .mk (some 9) (.assign (.tmp 102)) none]
def r42_22 : List PS := [.mk (some 103) (.move (.tmp 14)) none,
  .mk (some 104) (.move (.tmp 1)) none,
  .mk (some 105) (.binOp .sub 3 (.tmp 103) (.tmp 104) 3) none,
  .mk (some 106) (.move (.tmp 2)) none,
  .mk (some 107) (.move (.tmp 14)) none,
  .mk (some 108) (.binOp .sub 3 (.tmp 106) (.tmp 107) 3) none,
  .mk (some 16) (.assign (.tmp 105)) none,
  .mk (some 17) (.assign (.tmp 108)) none]
def r42_23 : List PS := [.mk (some 109) (.move (.tmp 10)) none,
  .mk (some 110) (.binOp .quo 3 (.tmp 109) (.const (.int .i64 8)) 3) none,
  .mk (some 18) (.assign (.tmp 110)) none]
def r42_24 : List PS := [.mk (some 111) (.move (.tmp 16)) none,
  .mk (some 112) (.move (.tmp 17)) none,
  .mk (some 113) (.binOp .lss 3 (.tmp 111) (.tmp 112) 3) none]
def r42_25 : List PS := [.mk (some 114) (.move (.tmp 16)) none,
  .mk (some 115) (.move (.tmp 18)) none,
  .mk (some 116) (.binOp .geq 3 (.tmp 114) (.tmp 115) 3) none,
  .mk (some 8) (.assign (.tmp 116)) none]
def r42_26 : List PS := [.mk (some 117) (.move (.tmp 0)) none,
  .mk (some 118) (.move (.tmp 1)) none,
  .mk (some 119) (.move (.tmp 14)) none,
  .mk (some 120) (.move (.tmp 3)) none,
  .mk (some 121) (.call ⟨(.value (.func 42)), #[(.tmp 117), (.tmp 118), (.tmp 119), (.tmp 120)], #[22, 3, 3, 3]⟩) none]
def r42_27 : List PS := [.mk (some 122) (.move (.tmp 14)) none,
  .mk (some 123) (.binOp .add 3 (.tmp 122) (.const (.int .i64 1)) 3) none,
  .mk (some 1) (.assign (.tmp 123)) none]
def r42_28 : List PS := [.mk (some 124) (.move (.tmp 17)) none,
  .mk (some 125) (.move (.tmp 18)) none,
  .mk (some 126) (.binOp .geq 3 (.tmp 124) (.tmp 125) 3) none,
  .mk (some 8) (.assign (.tmp 126)) none]
def r42_29 : List PS := [.mk (some 127) (.move (.tmp 0)) none,
  .mk (some 128) (.move (.tmp 14)) none,
  .mk (some 129) (.binOp .add 3 (.tmp 128) (.const (.int .i64 1)) 3) none,
  .mk (some 130) (.move (.tmp 2)) none,
  .mk (some 131) (.move (.tmp 3)) none,
  .mk (some 132) (.call ⟨(.value (.func 42)), #[(.tmp 127), (.tmp 129), (.tmp 130), (.tmp 131)], #[22, 3, 3, 3]⟩) none]
def r42_30 : List PS := [.mk (some 133) (.move (.tmp 14)) none,
  .mk (some 2) (.assign (.tmp 133)) none]
def c42 : PC := (.seq (.reg false r42_0) (.seq (.reg false r42_1) (.block 0 (.loop (.block 1 (.seq (.reg false r42_2) (.seq (.seq (.reg false r42_3) (.cond (.tmp 23) (.seq (.reg false r42_4) .ret) .skip)) (.seq (.seq (.reg false r42_5) (.cond (.tmp 29) (.seq (.reg false r42_6) .ret) .skip)) (.seq (.seq (.reg false r42_7) (.cond (.tmp 35) (.seq (.reg false r42_8) (.reg false r42_9)) .skip)) (.seq (.reg false r42_10) (.seq (.seq (.reg false r42_11) (.cond (.tmp 50) (.seq (.reg false r42_12) (.seq (.reg false r42_13) (.reg false r42_14))) .skip)) (.seq (.seq (.reg false r42_15) (.cond (.tmp 68) (.seq (.reg false r42_16) (.cond (.tmp 72) .ret .skip)) .skip)) (.seq (.seq (.reg true r42_17) (.cond (.tmp 87) (.seq (.reg false r42_18) (.seq (.reg false r42_19) (.exit 1))) .skip)) (.seq (.reg false r42_20) (.seq (.reg false r42_21) (.seq (.reg false r42_22) (.seq (.reg false r42_23) (.seq (.reg false r42_24) (.cond (.tmp 113) (.seq (.reg false r42_25) (.seq (.reg false r42_26) (.reg false r42_27))) (.seq (.reg false r42_28) (.seq (.reg false r42_29) (.reg false r42_30))))))))))))))))))))))
theorem e42 {args : List PV} {h : Heap} {K : PV → Heap → Prop} (hl : args.length = 4) (s : pwp Try.prog [] c42 (fin Try.prog [] h K) (slots0 (olds args)) h) : CanP Try.prog 42 args h K :=
  can_of2 (n := 134) mixed Try.func42 rfl (by kernel_rfl) (by rw [hl]; kernel_rfl) rfl (by kernel_rfl) s
/-! ### slices.Sort[[]int,int]: function 36 -/
def r36_0 : List PS := [.mk (some 3) (.move (.tmp 0)) none,
  .mk (some 4) (.call ⟨(.builtin .len), #[(.tmp 3)], #[22]⟩) none,
  .mk (some 2) (.assign (.tmp 4)) none]
def r36_1 : List PS := [.mk (some 5) (.move (.tmp 0)) none,
  .mk (some 6) (.move (.tmp 2)) none,
  .mk (some 7) (.move (.tmp 2)) none,
  .mk (some 8) (.convert 3 64 (.tmp 7)) none,
  .mk (some 9) (.call ⟨(.value (.func 43)), #[(.tmp 8)], #[64]⟩) none,
  .mk (some 10) (.call ⟨(.value (.func 42)), #[(.tmp 5), (.const (.int .i64 0)), (.tmp 6), (.tmp 9)], #[22, 3, 3, 3]⟩) none]
def c36 : PC := (.seq (.reg false r36_0) (.reg false r36_1))
theorem e36 {args : List PV} {h : Heap} {K : PV → Heap → Prop} (hl : args.length = 1) (s : pwp Try.prog [] c36 (fin Try.prog [] h K) (slots0 (olds args)) h) : CanP Try.prog 36 args h K :=
  can_of2 (n := 11) mixed Try.func36 rfl (by kernel_rfl) (by rw [hl]; kernel_rfl) rfl (by kernel_rfl) s
/-! ### slices.Sorted[int]: function 24 -/
def r24_0 : List PS := [.mk (some 2) (.assign (.const (.slice none 0 0))) none]
def r24_1 : List PS := [.mk (some 4) (.move (.tmp 0)) none,
  .mk (some 5) (.call ⟨(.value (.func 35)), #[(.tmp 4)], #[48]⟩) none,
  .mk (some 3) (.assign (.tmp 5)) none]
def r24_2 : List PS := [.mk (some 6) (.move (.tmp 3)) none,
  .mk (some 7) (.call ⟨(.value (.func 36)), #[(.tmp 6)], #[22]⟩) none]
def r24_3 : List PS := [.mk (some 8) (.move (.tmp 3)) none,
  .mk (some 2) (.assign (.tmp 8)) none]
def c24 : PC := (.seq (.reg false r24_0) (.seq (.reg false r24_1) (.seq (.reg false r24_2) (.seq (.reg false r24_3) .ret))))
theorem e24 {args : List PV} {h : Heap} {K : PV → Heap → Prop} (hl : args.length = 1) (s : pwp Try.prog [] c24 (fin Try.prog [.tmp 2] h K) (slots0 (olds args)) h) : CanP Try.prog 24 args h K :=
  can_of2 (n := 9) mixed Try.func24 rfl (by kernel_rfl) (by rw [hl]; kernel_rfl) rfl (by kernel_rfl) s
/-! ### slices.Values[[]int,int]$1: function 37 -/
def r37_0 : List PS := [.mk (some 5) (.load 22 (.tmp 1)) none,
  .mk (some 6) (.call ⟨(.builtin .len), #[(.tmp 5)], #[22]⟩) none,
  .mk (some 7) (.move (.const (.int .i64 0))) none]
def r37_1 : List PS := [.mk (some 8) (.binOp .lss 3 (.tmp 7) (.tmp 6) 3) none]
def r37_2 : List PS := [.mk (some 9) (.indexAddr 22 (.tmp 5) (.tmp 7)) none,
  .mk (some 10) (.load 3 (.tmp 9)) none,
  .mk (some 4) (.assign (.tmp 10)) none]
def r37_3 : List PS := [.mk (some 11) (.move (.tmp 0)) none,
  .mk (some 12) (.move (.tmp 4)) none,
  .mk (some 13) (.call ⟨(.value (.tmp 11)), #[(.tmp 12)], #[3]⟩) none,
  .mk (some 14) (.unOp .not 4 (.tmp 13)) none]
def r37_4 : List PS := [.mk (some 15) (.binOp .add 3 (.tmp 7) (.const (.int .i64 1)) 3) none,
  .mk (some 7) (.move (.tmp 15)) none]
def c37 : PC := (.seq (.reg false r37_0) (.block 0 (.loop (.seq (.reg false r37_1) (.seq (.cond (.tmp 8) .skip (.exit 0)) (.seq (.block 1 (.seq (.reg false r37_2) (.seq (.reg false r37_3) (.cond (.tmp 14) .ret .skip)))) (.reg false r37_4)))))))
theorem e37 {args : List PV} {h : Heap} {K : PV → Heap → Prop} (hl : args.length = 2) (s : pwp Try.prog [] c37 (fin Try.prog [] h K) (slots0 (olds args)) h) : CanP Try.prog 37 args h K :=
  can_of2 (n := 16) mixed Try.func37 rfl (by kernel_rfl) (by rw [hl]; kernel_rfl) rfl (by kernel_rfl) s
/-! ### slices.Values[[]int,int]: function 25 -/
def r25_0 : List PS := [.mk (some 1) (.box 22 (.tmp 0)) none,
  .mk (some 2) (.assign (.const .nilFunc)) none]
def r25_1 : List PS := [.mk (some 3) (.makeFunc (.func 37) #[] #[(.tmp 1)]) none,
  .mk (some 2) (.assign (.tmp 3)) none]
def c25 : PC := (.seq (.reg false r25_0) (.seq (.reg false r25_1) .ret))
theorem e25 {args : List PV} {h : Heap} {K : PV → Heap → Prop} (hl : args.length = 1) (s : pwp Try.prog [] c25 (fin Try.prog [.tmp 2] h K) (slots0 (olds args)) h) : CanP Try.prog 25 args h K :=
  can_of2 (n := 4) mixed Try.func25 rfl (by kernel_rfl) (by rw [hl]; kernel_rfl) rfl (by kernel_rfl) s
/-! ### naskh.pick.Picked: function 9 -/
def r9_0 : List PS := [.mk (some 3) (.box 25 (.tmp 1)) none,
  .mk (some 4) (.assign (.const (.slice none 0 0))) none,
  .mk (some 5) (.assign (.const (.int .i64 0))) none]
def r9_1 : List PS := [.mk (some 7) (.move (.tmp 0)) none,
  .mk (some 8) (.load 25 (.tmp 3)) none,
  .mk (some 9) (.buildSlice 27 1 #[(0, (.tmp 8))]) none,
  .mk (some 10) (.call ⟨(.value (.func 22)), #[(.tmp 7), (.tmp 9)], #[22, 27]⟩) none,
  .mk (some 6) (.assign (.tmp 10)) none]
def r9_2 : List PS := [.mk (some 11) (.move (.tmp 6)) none,
  .mk (some 12) (.binOp .neq 28 (.tmp 11) (.const (.int .i64 0)) 28) none]
def r9_3 : List PS := [.mk (some 13) (.move (.tmp 6)) none,
  .mk (some 4) (.assign (.const (.slice none 0 0))) none,
  .mk (some 5) (.assign (.tmp 13)) none]
def r9_4 : List PS := [.mk (some 14) (.move (.tmp 0)) none,
  .mk (some 15) (.fieldAddr 25 (.tmp 3) 0) none,
  .mk (some 16) (.load 3 (.tmp 15)) none,
  .mk (some 17) (.fieldAddr 25 (.tmp 3) 1) none,
  .mk (some 18) (.load 3 (.tmp 17)) none,
  .mk (some 19) (.slice 22 (.tmp 14) (some (.tmp 16)) (some (.tmp 18)) none) none,
  .mk (some 20) (.call ⟨(.value (.func 25)), #[(.tmp 19)], #[22]⟩) none,
  .mk (some 21) (.call ⟨(.value (.func 24)), #[(.tmp 20)], #[48]⟩) none,
  .mk (some 22) (.call ⟨(.value (.func 23)), #[(.tmp 21)], #[22]⟩) none,
  .mk (some 4) (.assign (.tmp 22)) none,
  .mk (some 5) (.assign (.const (.int .i64 0))) none]
def c9 : PC := (.seq (.reg false r9_0) (.seq (.seq (.reg false r9_1) (.seq (.reg false r9_2) (.cond (.tmp 12) (.seq (.reg false r9_3) .ret) .skip))) (.seq (.reg false r9_4) .ret)))
theorem e9 {args : List PV} {h : Heap} {K : PV → Heap → Prop} (hl : args.length = 2) (s : pwp Try.prog [] c9 (fin Try.prog [.tmp 4, .tmp 5] h K) (slots0 (olds args)) h) : CanP Try.prog 9 args h K :=
  can_of2 (n := 23) mixed Try.func9 rfl (by kernel_rfl) (by rw [hl]; kernel_rfl) rfl (by kernel_rfl) s
/-! ### slices.Equal[[]naskh.api.Span,naskh.api.Span]: function 16 -/
def r16_0 : List PS := [.mk (some 4) (.assign (.const (.bool false))) none]
def r16_1 : List PS := [.mk (some 6) (.move (.tmp 0)) none,
  .mk (some 7) (.call ⟨(.builtin .len), #[(.tmp 6)], #[27]⟩) none,
  .mk (some 8) (.move (.tmp 1)) none,
  .mk (some 9) (.call ⟨(.builtin .len), #[(.tmp 8)], #[27]⟩) none,
  .mk (some 10) (.binOp .neq 3 (.tmp 7) (.tmp 9) 3) none]
def r16_2 : List PS := [.mk (some 4) (.assign (.const (.bool false))) none]
def r16_3 : List PS := [.mk (some 11) (.move (.tmp 0)) none,
  .mk (some 12) (.call ⟨(.builtin .len), #[(.tmp 11)], #[27]⟩) none,
  .mk (some 13) (.move (.const (.int .i64 0))) none]
def r16_4 : List PS := [.mk (some 14) (.binOp .lss 3 (.tmp 13) (.tmp 12) 3) none]
def r16_5 : List PS := [.mk (some 15) (.move (.tmp 13)) none,
  .mk (some 5) (.assign (.tmp 15)) none]
def r16_6 : List PS := [.mk (some 16) (.move (.tmp 0)) none,
  .mk (some 17) (.move (.tmp 5)) none,
  .mk (some 18) (.indexAddr 27 (.tmp 16) (.tmp 17)) none,
  .mk (some 19) (.load 25 (.tmp 18)) none,
  .mk (some 20) (.move (.tmp 1)) none,
  .mk (some 21) (.move (.tmp 5)) none,
  .mk (some 22) (.indexAddr 27 (.tmp 20) (.tmp 21)) none,
  .mk (some 23) (.load 25 (.tmp 22)) none,
  .mk (some 24) (.binOp .neq 25 (.tmp 19) (.tmp 23) 25) none]
def r16_7 : List PS := [.mk (some 4) (.assign (.const (.bool false))) none]
def r16_8 : List PS := [.mk (some 25) (.binOp .add 3 (.tmp 13) (.const (.int .i64 1)) 3) none,
  .mk (some 13) (.move (.tmp 25)) none]
def r16_9 : List PS := [.mk (some 4) (.assign (.const (.bool true))) none]
def c16 : PC := (.seq (.reg false r16_0) (.seq (.seq (.reg false r16_1) (.cond (.tmp 10) (.seq (.reg false r16_2) .ret) .skip)) (.seq (.seq (.reg false r16_3) (.block 0 (.loop (.seq (.reg false r16_4) (.seq (.cond (.tmp 14) .skip (.exit 0)) (.seq (.block 1 (.seq (.reg false r16_5) (.seq (.reg true r16_6) (.cond (.tmp 24) (.seq (.reg false r16_7) .ret) .skip)))) (.reg false r16_8))))))) (.seq (.reg false r16_9) .ret))))
theorem e16 {args : List PV} {h : Heap} {K : PV → Heap → Prop} (hl : args.length = 2) (s : pwp Try.prog [] c16 (fin Try.prog [.tmp 4] h K) (slots0 (olds args)) h) : CanP Try.prog 16 args h K :=
  can_of2 (n := 26) mixed Try.func16 rfl (by kernel_rfl) (by rw [hl]; kernel_rfl) rfl (by kernel_rfl) s
/-! ### naskh.naskhlaw45.awake: function 6 -/
def r6_0 : List PS := [.mk (some 0) (.assign (.const (.bool false))) none]
def r6_1 : List PS := [.mk (some 6) (.buildSlice 22 3 #[(0, (.const (.int .i64 0))), (1, (.const (.int .i64 2))), (2, (.const (.int .i64 1)))]) none,
  .mk (some 7) (.build 25 #[(0, (.const (.int .i64 1))), (1, (.const (.int .i64 3)))]) none,
  .mk (some 8) (.call ⟨(.value (.func 8)), #[(.tmp 6), (.tmp 7)], #[22, 25]⟩) none,
  .mk (some 5) (.move (.tmp 8)) none,
  .mk (some 9) (.extract (.tmp 5) 0) none,
  .mk (some 10) (.extract (.tmp 5) 1) none,
  .mk (some 1) (.assign (.tmp 9)) none,
  .mk (some 2) (.assign (.tmp 10)) none]
def r6_2 : List PS := [.mk (some 12) (.buildSlice 22 3 #[(0, (.const (.int .i64 0))), (1, (.const (.int .i64 2))), (2, (.const (.int .i64 1)))]) none,
  .mk (some 13) (.build 25 #[(1, (.const (.int .i64 2)))]) none,
  .mk (some 14) (.call ⟨(.value (.func 9)), #[(.tmp 12), (.tmp 13)], #[22, 25]⟩) none,
  .mk (some 11) (.move (.tmp 14)) none,
  .mk (some 15) (.extract (.tmp 11) 0) none,
  .mk (some 16) (.extract (.tmp 11) 1) none,
  .mk (some 3) (.assign (.tmp 15)) none,
  .mk (some 4) (.assign (.tmp 16)) none]
def r6_3 : List PS := [.mk (some 17) (.move (.tmp 2)) none,
  .mk (some 18) (.binOp .eql 28 (.tmp 17) (.const (.int .i64 0)) 28) none,
  .mk (some 19) (.move (.tmp 18)) none,
  .mk (some 20) (.move (.tmp 4)) (some (19, true)),
  .mk (some 21) (.binOp .eql 28 (.tmp 20) (.const (.int .i64 0)) 28) (some (19, true)),
  .mk (some 22) (.pick (.tmp 19) (.tmp 21) (.const (.bool false))) none,
  .mk (some 23) (.move (.tmp 22)) none,
  .mk (some 24) (.move (.tmp 1)) (some (23, true)),
  .mk (some 25) (.build 25 #[(0, (.const (.int .i64 1))), (1, (.const (.int .i64 3)))]) (some (23, true)),
  .mk (some 26) (.buildSlice 27 1 #[(0, (.tmp 25))]) (some (23, true)),
  .mk (some 27) (.call ⟨(.value (.func 16)), #[(.tmp 24), (.tmp 26)], #[27, 27]⟩) (some (23, true)),
  .mk (some 28) (.pick (.tmp 23) (.tmp 27) (.const (.bool false))) none,
  .mk (some 29) (.move (.tmp 28)) none,
  .mk (some 30) (.move (.tmp 3)) (some (29, true)),
  .mk (some 31) (.call ⟨(.builtin .len), #[(.tmp 30)], #[27]⟩) (some (29, true)),
  .mk (some 32) (.binOp .eql 3 (.tmp 31) (.const (.int .i64 2)) 3) (some (29, true)),
  .mk (some 33) (.pick (.tmp 29) (.tmp 32) (.const (.bool false))) none,
  .mk (some 0) (.assign (.tmp 33)) none]
def c6 : PC := (.seq (.reg false r6_0) (.seq (.reg false r6_1) (.seq (.reg false r6_2) (.seq (.reg false r6_3) .ret))))
theorem e6 {args : List PV} {h : Heap} {K : PV → Heap → Prop} (hl : args.length = 0) (s : pwp Try.prog [] c6 (fin Try.prog [.tmp 0] h K) (slots0 (olds args)) h) : CanP Try.prog 6 args h K :=
  can_of2 (n := 34) mixed Try.func6 rfl (by kernel_rfl) (by rw [hl]; kernel_rfl) rfl (by kernel_rfl) s
/-! ### naskh.naskhref29.Held: function 18 -/
def r18_0 : List PS := [.mk (some 2) (.assign (.const (.slice none 0 0))) none]
def r18_1 : List PS := [.mk (some 3) (.assign (.const (.slice none 0 0))) none]
def r18_2 : List PS := [.mk (some 4) (.assign (.const (.int .i64 0))) none]
def r18_3 : List PS := [.mk (some 5) (.move (.tmp 4)) none,
  .mk (some 6) (.move (.tmp 0)) none,
  .mk (some 7) (.call ⟨(.builtin .len), #[(.tmp 6)], #[22]⟩) none,
  .mk (some 8) (.binOp .lss 3 (.tmp 5) (.tmp 7) 3) none]
def r18_4 : List PS := [.mk (some 11) (.move (.tmp 3)) none,
  .mk (some 12) (.move (.tmp 0)) none,
  .mk (some 13) (.move (.tmp 4)) none,
  .mk (some 14) (.indexAddr 22 (.tmp 12) (.tmp 13)) none,
  .mk (some 15) (.load 3 (.tmp 14)) none,
  .mk (some 16) (.call ⟨(.builtin .max), #[(.tmp 15), (.const (.int .i64 0))], #[3, 3]⟩) none,
  .mk (some 17) (.call ⟨(.builtin .min), #[(.tmp 16), (.const (.int .i64 126))], #[3, 3]⟩) none,
  .mk (some 18) (.buildSlice 22 1 #[(0, (.tmp 17))]) none,
  .mk (some 19) (.call ⟨(.builtin .append), #[(.tmp 11), (.tmp 18)], #[22, 22]⟩) none,
  .mk (some 3) (.assign (.tmp 19)) none]
def r18_5 : List PS := [.mk (some 9) (.move (.tmp 4)) none,
  .mk (some 10) (.binOp .add 3 (.tmp 9) (.const (.int .i64 1)) 3) none,
  .mk (some 4) (.assign (.tmp 10)) none]
def r18_6 : List PS := [.mk (some 20) (.move (.tmp 3)) none,
  .mk (some 2) (.assign (.tmp 20)) none]
def c18 : PC := (.seq (.reg false r18_0) (.seq (.reg false r18_1) (.seq (.seq (.reg false r18_2) (.block 0 (.loop (.seq (.seq (.reg false r18_3) (.cond (.tmp 8) .skip (.exit 0))) (.seq (.block 1 (.reg false r18_4)) (.reg false r18_5)))))) (.seq (.reg false r18_6) .ret))))
theorem e18 {args : List PV} {h : Heap} {K : PV → Heap → Prop} (hl : args.length = 1) (s : pwp Try.prog [] c18 (fin Try.prog [.tmp 2] h K) (slots0 (olds args)) h) : CanP Try.prog 18 args h K :=
  can_of2 (n := 21) mixed Try.func18 rfl (by kernel_rfl) (by rw [hl]; kernel_rfl) rfl (by kernel_rfl) s
/-! ### naskh.naskhref29.places: function 19 -/
def r19_0 : List PS := [.mk (some 2) (.assign (.const (.slice none 0 0))) none]
def r19_1 : List PS := [.mk (some 3) (.assign (.const (.slice none 0 0))) none]
def r19_2 : List PS := [.mk (some 4) (.assign (.const (.int .i64 0))) none]
def r19_3 : List PS := [.mk (some 5) (.move (.tmp 4)) none,
  .mk (some 6) (.move (.tmp 0)) none,
  .mk (some 7) (.binOp .lss 3 (.tmp 5) (.tmp 6) 3) none]
def r19_4 : List PS := [.mk (some 10) (.move (.tmp 3)) none,
  .mk (some 11) (.move (.tmp 4)) none,
  .mk (some 12) (.buildSlice 22 1 #[(0, (.tmp 11))]) none,
  .mk (some 13) (.call ⟨(.builtin .append), #[(.tmp 10), (.tmp 12)], #[22, 22]⟩) none,
  .mk (some 3) (.assign (.tmp 13)) none]
def r19_5 : List PS := [.mk (some 8) (.move (.tmp 4)) none,
  .mk (some 9) (.binOp .add 3 (.tmp 8) (.const (.int .i64 1)) 3) none,
  .mk (some 4) (.assign (.tmp 9)) none]
def r19_6 : List PS := [.mk (some 14) (.move (.tmp 3)) none,
  .mk (some 2) (.assign (.tmp 14)) none]
def c19 : PC := (.seq (.reg false r19_0) (.seq (.reg false r19_1) (.seq (.seq (.reg false r19_2) (.block 0 (.loop (.seq (.seq (.reg false r19_3) (.cond (.tmp 7) .skip (.exit 0))) (.seq (.block 1 (.reg false r19_4)) (.reg false r19_5)))))) (.seq (.reg false r19_6) .ret))))
theorem e19 {args : List PV} {h : Heap} {K : PV → Heap → Prop} (hl : args.length = 1) (s : pwp Try.prog [] c19 (fin Try.prog [.tmp 2] h K) (slots0 (olds args)) h) : CanP Try.prog 19 args h K :=
  can_of2 (n := 15) mixed Try.func19 rfl (by kernel_rfl) (by rw [hl]; kernel_rfl) rfl (by kernel_rfl) s
/-! ### naskh.naskhref29.odd: function 20 -/
def r20_0 : List PS := [.mk (some 4) (.assign (.const (.bool false))) none]
def r20_1 : List PS := [.mk (some 5) (.assign (.const (.int .i64 0))) none]
def r20_2 : List PS := [.mk (some 6) (.move (.tmp 5)) none,
  .mk (some 7) (.move (.tmp 0)) none,
  .mk (some 8) (.call ⟨(.builtin .len), #[(.tmp 7)], #[22]⟩) none,
  .mk (some 9) (.binOp .lss 3 (.tmp 6) (.tmp 8) 3) none]
def r20_3 : List PS := [.mk (some 12) (.move (.tmp 0)) none,
  .mk (some 13) (.move (.tmp 5)) none,
  .mk (some 14) (.indexAddr 22 (.tmp 12) (.tmp 13)) none,
  .mk (some 15) (.load 3 (.tmp 14)) none,
  .mk (some 16) (.binOp .rem 3 (.tmp 15) (.const (.int .i64 2)) 3) none,
  .mk (some 17) (.binOp .eql 3 (.tmp 16) (.const (.int .i64 1)) 3) none,
  .mk (some 18) (.move (.tmp 17)) none,
  .mk (some 19) (.move (.tmp 0)) (some (18, true)),
  .mk (some 20) (.move (.tmp 5)) (some (18, true)),
  .mk (some 21) (.indexAddr 22 (.tmp 19) (.tmp 20)) (some (18, true)),
  .mk (some 22) (.load 3 (.tmp 21)) (some (18, true)),
  .mk (some 23) (.move (.tmp 1)) (some (18, true)),
  .mk (some 24) (.binOp .leq 3 (.tmp 22) (.tmp 23) 3) (some (18, true)),
  .mk (some 25) (.pick (.tmp 18) (.tmp 24) (.const (.bool false))) none]
def r20_4 : List PS := [.mk (some 4) (.assign (.const (.bool true))) none]
def r20_5 : List PS := [.mk (some 10) (.move (.tmp 5)) none,
  .mk (some 11) (.binOp .add 3 (.tmp 10) (.const (.int .i64 1)) 3) none,
  .mk (some 5) (.assign (.tmp 11)) none]
def r20_6 : List PS := [.mk (some 4) (.assign (.const (.bool false))) none]
def c20 : PC := (.seq (.reg false r20_0) (.seq (.seq (.reg false r20_1) (.block 0 (.loop (.seq (.seq (.reg false r20_2) (.cond (.tmp 9) .skip (.exit 0))) (.seq (.block 1 (.seq (.reg false r20_3) (.cond (.tmp 25) (.seq (.reg false r20_4) .ret) .skip))) (.reg false r20_5)))))) (.seq (.reg false r20_6) .ret)))
theorem e20 {args : List PV} {h : Heap} {K : PV → Heap → Prop} (hl : args.length = 2) (s : pwp Try.prog [] c20 (fin Try.prog [.tmp 4] h K) (slots0 (olds args)) h) : CanP Try.prog 20 args h K :=
  can_of2 (n := 26) mixed Try.func20 rfl (by kernel_rfl) (by rw [hl]; kernel_rfl) rfl (by kernel_rfl) s
/-! ### naskh.naskhref29.turn: function 21 -/
def r21_0 : List PS := [.mk (some 6) (.move (.tmp 2)) none,
  .mk (some 7) (.move (.tmp 1)) none,
  .mk (some 8) (.binOp .sub 3 (.tmp 6) (.tmp 7) 3) none,
  .mk (some 9) (.binOp .gtr 3 (.tmp 8) (.const (.int .i64 1)) 3) none]
def r21_1 : List PS := [.mk (some 10) (.move (.tmp 2)) none,
  .mk (some 11) (.binOp .sub 3 (.tmp 10) (.const (.int .i64 1)) 3) none,
  .mk (some 2) (.assign (.tmp 11)) none]
def r21_2 : List PS := [.mk (some 12) (.move (.tmp 0)) none,
  .mk (some 13) (.move (.tmp 1)) none,
  .mk (some 14) (.move (.tmp 0)) none,
  .mk (some 15) (.move (.tmp 2)) none,
  .mk (some 16) (.move (.tmp 0)) none,
  .mk (some 17) (.move (.tmp 2)) none,
  .mk (some 18) (.indexAddr 22 (.tmp 16) (.tmp 17)) none,
  .mk (some 19) (.load 3 (.tmp 18)) none,
  .mk (some 20) (.move (.tmp 0)) none,
  .mk (some 21) (.move (.tmp 1)) none,
  .mk (some 22) (.indexAddr 22 (.tmp 20) (.tmp 21)) none,
  .mk (some 23) (.load 3 (.tmp 22)) none,
  .mk (some 24) (.indexAddr 22 (.tmp 12) (.tmp 13)) none,
  .mk none (.store 3 (.tmp 24) (.tmp 19)) none,
  .mk (some 25) (.indexAddr 22 (.tmp 14) (.tmp 15)) none,
  .mk none (.store 3 (.tmp 25) (.tmp 23)) none]
def r21_3 : List PS := [.mk (some 26) (.move (.tmp 1)) none,
  .mk (some 27) (.binOp .add 3 (.tmp 26) (.const (.int .i64 1)) 3) none,
  .mk (some 1) (.assign (.tmp 27)) none]
def c21 : PC := (.block 0 (.loop (.seq (.seq (.reg false r21_0) (.cond (.tmp 9) .skip (.exit 0))) (.block 1 (.seq (.reg false r21_1) (.seq (.reg true r21_2) (.reg false r21_3)))))))
theorem e21 {args : List PV} {h : Heap} {K : PV → Heap → Prop} (hl : args.length = 3) (s : pwp Try.prog [] c21 (fin Try.prog [] h K) (slots0 (olds args)) h) : CanP Try.prog 21 args h K :=
  can_of2 (n := 28) mixed Try.func21 rfl (by kernel_rfl) (by rw [hl]; kernel_rfl) rfl (by kernel_rfl) s
/-! ### naskh.naskhref29.Visual: function 7 -/
def r7_0 : List PS := [.mk (some 2) (.assign (.const (.slice none 0 0))) none]
def r7_1 : List PS := [.mk (some 9) (.move (.tmp 0)) none,
  .mk (some 10) (.call ⟨(.value (.func 18)), #[(.tmp 9)], #[22]⟩) none,
  .mk (some 0) (.assign (.tmp 10)) none]
def r7_2 : List PS := [.mk (some 11) (.move (.tmp 0)) none,
  .mk (some 12) (.call ⟨(.builtin .len), #[(.tmp 11)], #[22]⟩) none,
  .mk (some 13) (.call ⟨(.value (.func 19)), #[(.tmp 12)], #[3]⟩) none,
  .mk (some 3) (.assign (.tmp 13)) none]
def r7_3 : List PS := [.mk (some 4) (.assign (.const (.int .i64 0))) none]
def r7_4 : List PS := [.mk (some 5) (.assign (.const (.int .i64 0))) none]
def r7_5 : List PS := [.mk (some 14) (.move (.tmp 5)) none,
  .mk (some 15) (.move (.tmp 0)) none,
  .mk (some 16) (.call ⟨(.builtin .len), #[(.tmp 15)], #[22]⟩) none,
  .mk (some 17) (.binOp .lss 3 (.tmp 14) (.tmp 16) 3) none]
def r7_6 : List PS := [.mk (some 20) (.move (.tmp 4)) none,
  .mk (some 21) (.move (.tmp 0)) none,
  .mk (some 22) (.move (.tmp 5)) none,
  .mk (some 23) (.indexAddr 22 (.tmp 21) (.tmp 22)) none,
  .mk (some 24) (.load 3 (.tmp 23)) none,
  .mk (some 25) (.call ⟨(.builtin .max), #[(.tmp 20), (.tmp 24)], #[3, 3]⟩) none,
  .mk (some 4) (.assign (.tmp 25)) none]
def r7_7 : List PS := [.mk (some 18) (.move (.tmp 5)) none,
  .mk (some 19) (.binOp .add 3 (.tmp 18) (.const (.int .i64 1)) 3) none,
  .mk (some 5) (.assign (.tmp 19)) none]
def r7_8 : List PS := [.mk (some 26) (.move (.tmp 4)) none,
  .mk (some 6) (.assign (.tmp 26)) none]
def r7_9 : List PS := [.mk (some 27) (.move (.tmp 6)) none,
  .mk (some 28) (.binOp .geq 3 (.tmp 27) (.const (.int .i64 1)) 3) none]
def r7_10 : List PS := [.mk (some 7) (.assign (.const (.int .i64 0))) none]
def r7_11 : List PS := [.mk (some 31) (.move (.tmp 7)) none,
  .mk (some 32) (.move (.tmp 3)) none,
  .mk (some 33) (.call ⟨(.builtin .len), #[(.tmp 32)], #[22]⟩) none,
  .mk (some 34) (.binOp .lss 3 (.tmp 31) (.tmp 33) 3) none]
def r7_12 : List PS := [.mk (some 37) (.move (.tmp 7)) none,
  .mk (some 8) (.assign (.tmp 37)) none]
def r7_13 : List PS := [.mk (some 38) (.move (.tmp 8)) none,
  .mk (some 39) (.move (.tmp 3)) none,
  .mk (some 40) (.call ⟨(.builtin .len), #[(.tmp 39)], #[22]⟩) none,
  .mk (some 41) (.binOp .lss 3 (.tmp 38) (.tmp 40) 3) none,
  .mk (some 42) (.move (.tmp 41)) none,
  .mk (some 43) (.move (.tmp 0)) (some (42, true)),
  .mk (some 44) (.move (.tmp 3)) (some (42, true)),
  .mk (some 45) (.move (.tmp 8)) (some (42, true)),
  .mk (some 46) (.indexAddr 22 (.tmp 44) (.tmp 45)) (some (42, true)),
  .mk (some 47) (.load 3 (.tmp 46)) (some (42, true)),
  .mk (some 48) (.indexAddr 22 (.tmp 43) (.tmp 47)) (some (42, true)),
  .mk (some 49) (.load 3 (.tmp 48)) (some (42, true)),
  .mk (some 50) (.move (.tmp 6)) (some (42, true)),
  .mk (some 51) (.binOp .geq 3 (.tmp 49) (.tmp 50) 3) (some (42, true)),
  .mk (some 52) (.pick (.tmp 42) (.tmp 51) (.const (.bool false))) none]
def r7_14 : List PS := [.mk (some 53) (.move (.tmp 8)) none,
  .mk (some 54) (.binOp .add 3 (.tmp 53) (.const (.int .i64 1)) 3) none,
  .mk (some 8) (.assign (.tmp 54)) none]
def r7_15 : List PS := [.mk (some 55) (.move (.tmp 0)) none,
  .mk (some 56) (.move (.tmp 6)) none,
  .mk (some 57) (.call ⟨(.value (.func 20)), #[(.tmp 55), (.tmp 56)], #[22, 3]⟩) none]
def r7_16 : List PS := [.mk (some 58) (.move (.tmp 3)) none,
  .mk (some 59) (.move (.tmp 7)) none,
  .mk (some 60) (.move (.tmp 8)) none,
  .mk (some 61) (.call ⟨(.value (.func 21)), #[(.tmp 58), (.tmp 59), (.tmp 60)], #[22, 3, 3]⟩) none]
def r7_17 : List PS := [.mk (some 62) (.move (.tmp 7)) none,
  .mk (some 63) (.move (.tmp 8)) none,
  .mk (some 64) (.binOp .sub 3 (.tmp 63) (.const (.int .i64 1)) 3) none,
  .mk (some 65) (.call ⟨(.builtin .max), #[(.tmp 62), (.tmp 64)], #[3, 3]⟩) none,
  .mk (some 7) (.assign (.tmp 65)) none]
def r7_18 : List PS := [.mk (some 35) (.move (.tmp 7)) none,
  .mk (some 36) (.binOp .add 3 (.tmp 35) (.const (.int .i64 1)) 3) none,
  .mk (some 7) (.assign (.tmp 36)) none]
def r7_19 : List PS := [.mk (some 29) (.move (.tmp 6)) none,
  .mk (some 30) (.binOp .sub 3 (.tmp 29) (.const (.int .i64 1)) 3) none,
  .mk (some 6) (.assign (.tmp 30)) none]
def r7_20 : List PS := [.mk (some 66) (.move (.tmp 3)) none,
  .mk (some 2) (.assign (.tmp 66)) none]
def c7 : PC := (.seq (.reg false r7_0) (.seq (.reg false r7_1) (.seq (.reg false r7_2) (.seq (.reg false r7_3) (.seq (.seq (.reg false r7_4) (.block 0 (.loop (.seq (.seq (.reg false r7_5) (.cond (.tmp 17) .skip (.exit 0))) (.seq (.block 1 (.reg false r7_6)) (.reg false r7_7)))))) (.seq (.seq (.reg false r7_8) (.block 2 (.loop (.seq (.seq (.reg false r7_9) (.cond (.tmp 28) .skip (.exit 2))) (.seq (.block 3 (.seq (.reg false r7_10) (.block 4 (.loop (.seq (.seq (.reg false r7_11) (.cond (.tmp 34) .skip (.exit 4))) (.seq (.block 5 (.seq (.reg false r7_12) (.seq (.block 6 (.loop (.seq (.seq (.reg false r7_13) (.cond (.tmp 52) .skip (.exit 6))) (.block 7 (.reg false r7_14))))) (.seq (.seq (.reg false r7_15) (.cond (.tmp 57) (.reg false r7_16) .skip)) (.reg false r7_17))))) (.reg false r7_18))))))) (.reg false r7_19)))))) (.seq (.reg false r7_20) .ret)))))))
theorem e7 {args : List PV} {h : Heap} {K : PV → Heap → Prop} (hl : args.length = 1) (s : pwp Try.prog [] c7 (fin Try.prog [.tmp 2] h K) (slots0 (olds args)) h) : CanP Try.prog 7 args h K :=
  can_of2 (n := 67) mixed Try.func7 rfl (by kernel_rfl) (by rw [hl]; kernel_rfl) rfl (by kernel_rfl) s
/-! ### naskh.span.Size: function 10 -/
def r10_0 : List PS := [.mk (some 1) (.box 25 (.tmp 0)) none,
  .mk (some 2) (.assign (.const (.int .i64 0))) none]
def r10_1 : List PS := [.mk (some 3) (.load 25 (.tmp 1)) none,
  .mk (some 4) (.call ⟨(.value (.func 26)), #[(.tmp 3)], #[25]⟩) none]
def r10_2 : List PS := [.mk (some 5) (.fieldAddr 25 (.tmp 1) 1) none,
  .mk (some 6) (.load 3 (.tmp 5)) none,
  .mk (some 7) (.fieldAddr 25 (.tmp 1) 0) none,
  .mk (some 8) (.load 3 (.tmp 7)) none,
  .mk (some 9) (.binOp .sub 3 (.tmp 6) (.tmp 8) 3) none,
  .mk (some 2) (.assign (.tmp 9)) none]
def r10_3 : List PS := [.mk (some 2) (.assign (.const (.int .i64 0))) none]
def c10 : PC := (.seq (.reg false r10_0) (.seq (.seq (.reg false r10_1) (.cond (.tmp 4) (.seq (.reg false r10_2) .ret) .skip)) (.seq (.reg false r10_3) .ret)))
theorem e10 {args : List PV} {h : Heap} {K : PV → Heap → Prop} (hl : args.length = 1) (s : pwp Try.prog [] c10 (fin Try.prog [.tmp 2] h K) (slots0 (olds args)) h) : CanP Try.prog 10 args h K :=
  can_of2 (n := 10) mixed Try.func10 rfl (by kernel_rfl) (by rw [hl]; kernel_rfl) rfl (by kernel_rfl) s
/-! ### naskh.naskhlaw45.PickMany: function 3 -/
def r3_0 : List PS := [.mk (some 6) (.assign (.const (.bool false))) none]
def r3_1 : List PS := [.mk (some 20) (.move (.tmp 0)) none,
  .mk (some 21) (.call ⟨(.builtin .len), #[(.tmp 20)], #[22]⟩) none,
  .mk (some 22) (.binOp .gtr 3 (.tmp 21) (.const (.int .i64 100)) 3) none,
  .mk (some 23) (.move (.tmp 22)) none,
  .mk (some 24) (.move (.tmp 0)) (some (23, false)),
  .mk (some 25) (.call ⟨(.builtin .len), #[(.tmp 24)], #[22]⟩) (some (23, false)),
  .mk (some 26) (.binOp .eql 3 (.tmp 25) (.const (.int .i64 0)) 3) (some (23, false)),
  .mk (some 27) (.pick (.tmp 23) (.const (.bool true)) (.tmp 26)) none]
def r3_2 : List PS := [.mk (some 28) (.call ⟨(.value (.func 6)), #[], #[]⟩) none,
  .mk (some 6) (.assign (.tmp 28)) none]
def r3_3 : List PS := [.mk (some 29) (.move (.tmp 1)) none,
  .mk (some 30) (.convert 5 3 (.tmp 29)) none,
  .mk (some 31) (.move (.tmp 0)) none,
  .mk (some 32) (.call ⟨(.builtin .len), #[(.tmp 31)], #[22]⟩) none,
  .mk (some 33) (.binOp .rem 3 (.tmp 30) (.tmp 32) 3) none,
  .mk (some 34) (.build 25 #[(0, (.tmp 33))]) none,
  .mk (some 7) (.alloc 25) none,
  .mk none (.store 25 (.tmp 7) (.tmp 34)) none]
def r3_4 : List PS := [.mk (some 35) (.fieldAddr 25 (.tmp 7) 0) none,
  .mk (some 36) (.load 3 (.tmp 35)) none,
  .mk (some 37) (.binOp .add 3 (.tmp 36) (.const (.int .i64 1)) 3) none,
  .mk (some 38) (.move (.tmp 2)) none,
  .mk (some 39) (.binOp .rem 5 (.tmp 38) (.const (.int .u8 40)) 5) none,
  .mk (some 40) (.convert 5 3 (.tmp 39)) none,
  .mk (some 41) (.binOp .add 3 (.tmp 37) (.tmp 40) 3) none,
  .mk (some 42) (.move (.tmp 0)) none,
  .mk (some 43) (.call ⟨(.builtin .len), #[(.tmp 42)], #[22]⟩) none,
  .mk (some 44) (.call ⟨(.builtin .min), #[(.tmp 41), (.tmp 43)], #[3, 3]⟩) none,
  .mk (some 45) (.fieldAddr 25 (.tmp 7) 1) none,
  .mk none (.store 3 (.tmp 45) (.tmp 44)) none,
  .frz 7]
def r3_5 : List PS := [.mk (some 46) (.move (.tmp 0)) none,
  .mk (some 47) (.call ⟨(.value (.func 7)), #[(.tmp 46)], #[22]⟩) none,
  .mk (some 8) (.assign (.tmp 47)) none]
def r3_6 : List PS := [.mk (some 49) (.move (.tmp 8)) none,
  .mk (some 50) (.load 25 (.tmp 7)) none,
  .mk (some 51) (.call ⟨(.value (.func 8)), #[(.tmp 49), (.tmp 50)], #[22, 25]⟩) none,
  .mk (some 48) (.move (.tmp 51)) none,
  .mk (some 52) (.extract (.tmp 48) 0) none,
  .mk (some 53) (.extract (.tmp 48) 1) none,
  .mk (some 9) (.assign (.tmp 52)) none,
  .mk (some 10) (.assign (.tmp 53)) none]
def r3_7 : List PS := [.mk (some 55) (.move (.tmp 8)) none,
  .mk (some 56) (.load 25 (.tmp 7)) none,
  .mk (some 57) (.call ⟨(.value (.func 9)), #[(.tmp 55), (.tmp 56)], #[22, 25]⟩) none,
  .mk (some 54) (.move (.tmp 57)) none,
  .mk (some 58) (.extract (.tmp 54) 0) none,
  .mk (some 59) (.extract (.tmp 54) 1) none,
  .mk (some 11) (.assign (.tmp 58)) none,
  .mk (some 12) (.assign (.tmp 59)) none]
def r3_8 : List PS := [.mk (some 60) (.move (.tmp 10)) none,
  .mk (some 61) (.binOp .neq 28 (.tmp 60) (.const (.int .i64 0)) 28) none,
  .mk (some 62) (.move (.tmp 61)) none,
  .mk (some 63) (.move (.tmp 12)) (some (62, false)),
  .mk (some 64) (.binOp .neq 28 (.tmp 63) (.const (.int .i64 0)) 28) (some (62, false)),
  .mk (some 65) (.pick (.tmp 62) (.const (.bool true)) (.tmp 64)) none]
def r3_9 : List PS := [.mk (some 6) (.assign (.const (.bool false))) none]
def r3_10 : List PS := [.mk (some 13) (.assign (.const (.int .i64 0))) none,
  .mk (some 14) (.assign (.const (.int .i64 0))) none]
def r3_11 : List PS := [.mk (some 66) (.move (.tmp 9)) none,
  .mk (some 67) (.call ⟨(.builtin .len), #[(.tmp 66)], #[27]⟩) none,
  .mk (some 68) (.move (.const (.int .i64 0))) none]
def r3_12 : List PS := [.mk (some 69) (.binOp .lss 3 (.tmp 68) (.tmp 67) 3) none]
def r3_13 : List PS := [.mk (some 70) (.indexAddr 27 (.tmp 66) (.tmp 68)) none,
  .mk (some 71) (.load 25 (.tmp 70)) none,
  .mk (some 16) (.alloc 25) none,
  .mk none (.store 25 (.tmp 16) (.tmp 71)) none,
  .frz 16]
def r3_14 : List PS := [.mk (some 72) (.move (.tmp 13)) none,
  .mk (some 73) (.load 25 (.tmp 16)) none,
  .mk (some 74) (.call ⟨(.value (.func 10)), #[(.tmp 73)], #[25]⟩) none,
  .mk (some 75) (.binOp .add 3 (.tmp 72) (.tmp 74) 3) none,
  .mk (some 13) (.assign (.tmp 75)) none]
def r3_15 : List PS := [.mk (some 76) (.fieldAddr 25 (.tmp 16) 0) none,
  .mk (some 77) (.load 3 (.tmp 76)) none,
  .mk (some 17) (.assign (.tmp 77)) none]
def r3_16 : List PS := [.mk (some 78) (.move (.tmp 17)) none,
  .mk (some 79) (.fieldAddr 25 (.tmp 16) 1) none,
  .mk (some 80) (.load 3 (.tmp 79)) none,
  .mk (some 81) (.binOp .lss 3 (.tmp 78) (.tmp 80) 3) none]
def r3_17 : List PS := [.mk (some 84) (.move (.tmp 17)) none,
  .mk (some 85) (.binOp .lss 3 (.tmp 84) (.const (.int .i64 0)) 3) none,
  .mk (some 86) (.move (.tmp 85)) none,
  .mk (some 87) (.move (.tmp 17)) (some (86, false)),
  .mk (some 88) (.move (.tmp 8)) (some (86, false)),
  .mk (some 89) (.call ⟨(.builtin .len), #[(.tmp 88)], #[22]⟩) (some (86, false)),
  .mk (some 90) (.binOp .geq 3 (.tmp 87) (.tmp 89) 3) (some (86, false)),
  .mk (some 91) (.pick (.tmp 86) (.const (.bool true)) (.tmp 90)) none,
  .mk (some 92) (.move (.tmp 91)) none,
  .mk (some 93) (.load 25 (.tmp 7)) (some (92, false)),
  .mk (some 94) (.move (.tmp 8)) (some (92, false)),
  .mk (some 95) (.move (.tmp 17)) (some (92, false)),
  .mk (some 96) (.indexAddr 22 (.tmp 94) (.tmp 95)) (some (92, false)),
  .mk (some 97) (.load 3 (.tmp 96)) (some (92, false)),
  .mk (some 98) (.call ⟨(.value (.func 11)), #[(.tmp 93), (.tmp 97)], #[25, 3]⟩) (some (92, false)),
  .mk (some 99) (.unOp .not 4 (.tmp 98)) (some (92, false)),
  .mk (some 100) (.pick (.tmp 92) (.const (.bool true)) (.tmp 99)) none]
def r3_18 : List PS := [.mk (some 6) (.assign (.const (.bool false))) none]
def r3_19 : List PS := [.mk (some 82) (.move (.tmp 17)) none,
  .mk (some 83) (.binOp .add 3 (.tmp 82) (.const (.int .i64 1)) 3) none,
  .mk (some 17) (.assign (.tmp 83)) none]
def r3_20 : List PS := [.mk (some 101) (.binOp .add 3 (.tmp 68) (.const (.int .i64 1)) 3) none,
  .mk (some 68) (.move (.tmp 101)) none]
def r3_21 : List PS := [.mk (some 102) (.move (.tmp 11)) none,
  .mk (some 103) (.call ⟨(.builtin .len), #[(.tmp 102)], #[27]⟩) none,
  .mk (some 104) (.move (.const (.int .i64 0))) none]
def r3_22 : List PS := [.mk (some 105) (.binOp .lss 3 (.tmp 104) (.tmp 103) 3) none]
def r3_23 : List PS := [.mk (some 106) (.indexAddr 27 (.tmp 102) (.tmp 104)) none,
  .mk (some 107) (.load 25 (.tmp 106)) none,
  .mk (some 19) (.alloc 25) none,
  .mk none (.store 25 (.tmp 19) (.tmp 107)) none,
  .frz 19]
def r3_24 : List PS := [.mk (some 108) (.move (.tmp 14)) none,
  .mk (some 109) (.load 25 (.tmp 19)) none,
  .mk (some 110) (.call ⟨(.value (.func 10)), #[(.tmp 109)], #[25]⟩) none,
  .mk (some 111) (.binOp .add 3 (.tmp 108) (.tmp 110) 3) none,
  .mk (some 14) (.assign (.tmp 111)) none]
def r3_25 : List PS := [.mk (some 112) (.binOp .add 3 (.tmp 104) (.const (.int .i64 1)) 3) none,
  .mk (some 104) (.move (.tmp 112)) none]
def r3_26 : List PS := [.mk (some 113) (.move (.tmp 13)) none,
  .mk (some 114) (.load 25 (.tmp 7)) none,
  .mk (some 115) (.call ⟨(.value (.func 10)), #[(.tmp 114)], #[25]⟩) none,
  .mk (some 116) (.binOp .eql 3 (.tmp 113) (.tmp 115) 3) none,
  .mk (some 117) (.move (.tmp 116)) none,
  .mk (some 118) (.move (.tmp 14)) (some (117, true)),
  .mk (some 119) (.load 25 (.tmp 7)) (some (117, true)),
  .mk (some 120) (.call ⟨(.value (.func 10)), #[(.tmp 119)], #[25]⟩) (some (117, true)),
  .mk (some 121) (.binOp .eql 3 (.tmp 118) (.tmp 120) 3) (some (117, true)),
  .mk (some 122) (.pick (.tmp 117) (.tmp 121) (.const (.bool false))) none,
  .mk (some 123) (.move (.tmp 122)) none,
  .mk (some 124) (.call ⟨(.value (.func 6)), #[], #[]⟩) (some (123, true)),
  .mk (some 125) (.pick (.tmp 123) (.tmp 124) (.const (.bool false))) none,
  .mk (some 6) (.assign (.tmp 125)) none]
def c3 : PC := (.seq (.reg false r3_0) (.seq (.seq (.reg false r3_1) (.cond (.tmp 27) (.seq (.reg false r3_2) .ret) .skip)) (.seq (.reg false r3_3) (.seq (.reg false r3_4) (.seq (.reg false r3_5) (.seq (.reg false r3_6) (.seq (.reg false r3_7) (.seq (.seq (.reg false r3_8) (.cond (.tmp 65) (.seq (.reg false r3_9) .ret) .skip)) (.seq (.reg false r3_10) (.seq (.seq (.reg false r3_11) (.block 0 (.loop (.seq (.reg false r3_12) (.seq (.cond (.tmp 69) .skip (.exit 0)) (.seq (.block 1 (.seq (.reg false r3_13) (.seq (.reg false r3_14) (.seq (.reg false r3_15) (.block 2 (.loop (.seq (.seq (.reg false r3_16) (.cond (.tmp 81) .skip (.exit 2))) (.seq (.block 3 (.seq (.reg true r3_17) (.cond (.tmp 100) (.seq (.reg false r3_18) .ret) .skip))) (.reg false r3_19))))))))) (.reg false r3_20))))))) (.seq (.seq (.reg false r3_21) (.block 4 (.loop (.seq (.reg false r3_22) (.seq (.cond (.tmp 105) .skip (.exit 4)) (.seq (.block 5 (.seq (.reg false r3_23) (.reg false r3_24))) (.reg false r3_25))))))) (.seq (.reg false r3_26) .ret))))))))))))
theorem e3 {args : List PV} {h : Heap} {K : PV → Heap → Prop} (hl : args.length = 3) (s : pwp Try.prog [7, 16, 19] c3 (fin Try.prog [.tmp 6] h K) (slots0 (olds args)) h) : CanP Try.prog 3 args h K :=
  can_of2 (n := 126) mixed Try.func3 rfl (by kernel_rfl) (by rw [hl]; kernel_rfl) rfl (by kernel_rfl) s
/-! ### naskh.naskhref29.Permutes: function 32 -/
def r32_0 : List PS := [.mk (some 2) (.assign (.const (.bool false))) none]
def r32_1 : List PS := [.mk (some 6) (.move (.tmp 0)) none,
  .mk (some 7) (.call ⟨(.builtin .len), #[(.tmp 6)], #[22]⟩) none,
  .mk (some 8) (.makeSlice 34 (.tmp 7) (.tmp 7)) none,
  .mk (some 3) (.assign (.tmp 8)) none]
def r32_2 : List PS := [.mk (some 4) (.assign (.const (.int .i64 0))) none]
def r32_3 : List PS := [.mk (some 9) (.move (.tmp 4)) none,
  .mk (some 10) (.move (.tmp 0)) none,
  .mk (some 11) (.call ⟨(.builtin .len), #[(.tmp 10)], #[22]⟩) none,
  .mk (some 12) (.binOp .lss 3 (.tmp 9) (.tmp 11) 3) none]
def r32_4 : List PS := [.mk (some 15) (.move (.tmp 0)) none,
  .mk (some 16) (.move (.tmp 4)) none,
  .mk (some 17) (.indexAddr 22 (.tmp 15) (.tmp 16)) none,
  .mk (some 18) (.load 3 (.tmp 17)) none,
  .mk (some 5) (.assign (.tmp 18)) none]
def r32_5 : List PS := [.mk (some 19) (.move (.tmp 5)) none,
  .mk (some 20) (.binOp .lss 3 (.tmp 19) (.const (.int .i64 0)) 3) none,
  .mk (some 21) (.move (.tmp 20)) none,
  .mk (some 22) (.move (.tmp 5)) (some (21, false)),
  .mk (some 23) (.move (.tmp 0)) (some (21, false)),
  .mk (some 24) (.call ⟨(.builtin .len), #[(.tmp 23)], #[22]⟩) (some (21, false)),
  .mk (some 25) (.binOp .geq 3 (.tmp 22) (.tmp 24) 3) (some (21, false)),
  .mk (some 26) (.pick (.tmp 21) (.const (.bool true)) (.tmp 25)) none,
  .mk (some 27) (.move (.tmp 26)) none,
  .mk (some 28) (.move (.tmp 3)) (some (27, false)),
  .mk (some 29) (.move (.tmp 5)) (some (27, false)),
  .mk (some 30) (.indexAddr 34 (.tmp 28) (.tmp 29)) (some (27, false)),
  .mk (some 31) (.load 4 (.tmp 30)) (some (27, false)),
  .mk (some 32) (.pick (.tmp 27) (.const (.bool true)) (.tmp 31)) none]
def r32_6 : List PS := [.mk (some 2) (.assign (.const (.bool false))) none]
def r32_7 : List PS := [.mk (some 33) (.move (.tmp 3)) none,
  .mk (some 34) (.move (.tmp 5)) none,
  .mk (some 35) (.indexAddr 34 (.tmp 33) (.tmp 34)) none,
  .mk none (.store 4 (.tmp 35) (.const (.bool true))) none]
def r32_8 : List PS := [.mk (some 13) (.move (.tmp 4)) none,
  .mk (some 14) (.binOp .add 3 (.tmp 13) (.const (.int .i64 1)) 3) none,
  .mk (some 4) (.assign (.tmp 14)) none]
def r32_9 : List PS := [.mk (some 2) (.assign (.const (.bool true))) none]
def c32 : PC := (.seq (.reg false r32_0) (.seq (.reg false r32_1) (.seq (.seq (.reg false r32_2) (.block 0 (.loop (.seq (.seq (.reg false r32_3) (.cond (.tmp 12) .skip (.exit 0))) (.seq (.block 1 (.seq (.reg false r32_4) (.seq (.seq (.reg false r32_5) (.cond (.tmp 32) (.seq (.reg false r32_6) .ret) .skip)) (.reg false r32_7)))) (.reg false r32_8)))))) (.seq (.reg false r32_9) .ret))))
theorem e32 {args : List PV} {h : Heap} {K : PV → Heap → Prop} (hl : args.length = 1) (s : pwp Try.prog [] c32 (fin Try.prog [.tmp 2] h K) (slots0 (olds args)) h) : CanP Try.prog 32 args h K :=
  can_of2 (n := 36) mixed Try.func32 rfl (by kernel_rfl) (by rw [hl]; kernel_rfl) rfl (by kernel_rfl) s
/-! ### naskh.naskhref03.Right: function 38 -/
def r38_0 : List PS := [.mk (some 1) (.box 25 (.tmp 0)) none,
  .mk (some 2) (.assign (.const (.bool false))) none]
def r38_1 : List PS := [.mk (some 3) (.fieldAddr 25 (.tmp 1) 0) none,
  .mk (some 4) (.load 3 (.tmp 3)) none,
  .mk (some 5) (.binOp .geq 3 (.tmp 4) (.const (.int .i64 0)) 3) none,
  .mk (some 6) (.move (.tmp 5)) none,
  .mk (some 7) (.fieldAddr 25 (.tmp 1) 0) (some (6, true)),
  .mk (some 8) (.load 3 (.tmp 7)) (some (6, true)),
  .mk (some 9) (.fieldAddr 25 (.tmp 1) 1) (some (6, true)),
  .mk (some 10) (.load 3 (.tmp 9)) (some (6, true)),
  .mk (some 11) (.binOp .lss 3 (.tmp 8) (.tmp 10) 3) (some (6, true)),
  .mk (some 12) (.pick (.tmp 6) (.tmp 11) (.const (.bool false))) none,
  .mk (some 2) (.assign (.tmp 12)) none]
def c38 : PC := (.seq (.reg false r38_0) (.seq (.reg false r38_1) .ret))
theorem e38 {args : List PV} {h : Heap} {K : PV → Heap → Prop} (hl : args.length = 1) (s : pwp Try.prog [] c38 (fin Try.prog [.tmp 2] h K) (slots0 (olds args)) h) : CanP Try.prog 38 args h K :=
  can_of2 (n := 13) mixed Try.func38 rfl (by kernel_rfl) (by rw [hl]; kernel_rfl) rfl (by kernel_rfl) s
/-! ### naskh.naskhref45.may: function 27 -/
def r27_0 : List PS := [.mk (some 3) (.box 25 (.tmp 1)) none,
  .mk (some 4) (.assign (.const (.int .i64 0))) none]
def r27_1 : List PS := [.mk (some 6) (.move (.tmp 0)) none,
  .mk (some 7) (.call ⟨(.value (.func 32)), #[(.tmp 6)], #[22]⟩) none,
  .mk (some 8) (.unOp .not 4 (.tmp 7)) none,
  .mk (some 5) (.assign (.tmp 8)) none]
def r27_2 : List PS := [.mk (some 4) (.assign (.const (.int .i64 13))) none]
def r27_3 : List PS := [.mk (some 10) (.load 25 (.tmp 3)) none,
  .mk (some 11) (.call ⟨(.value (.func 38)), #[(.tmp 10)], #[25]⟩) none,
  .mk (some 12) (.unOp .not 4 (.tmp 11)) none,
  .mk (some 13) (.move (.tmp 12)) none,
  .mk (some 14) (.fieldAddr 25 (.tmp 3) 1) (some (13, false)),
  .mk (some 15) (.load 3 (.tmp 14)) (some (13, false)),
  .mk (some 16) (.move (.tmp 0)) (some (13, false)),
  .mk (some 17) (.call ⟨(.builtin .len), #[(.tmp 16)], #[22]⟩) (some (13, false)),
  .mk (some 18) (.binOp .gtr 3 (.tmp 15) (.tmp 17) 3) (some (13, false)),
  .mk (some 19) (.pick (.tmp 13) (.const (.bool true)) (.tmp 18)) none,
  .mk (some 9) (.assign (.tmp 19)) none]
def r27_4 : List PS := [.mk (some 4) (.assign (.const (.int .i64 1))) none]
def r27_5 : List PS := [.mk (some 4) (.assign (.const (.int .i64 0))) none]
def c27 : PC := (.seq (.reg false r27_0) (.seq (.block 0 (.seq (.reg false r27_1) (.cond (.tmp 5) (.seq (.reg false r27_2) .ret) (.seq (.reg false r27_3) (.cond (.tmp 9) (.seq (.reg false r27_4) .ret) .skip))))) (.seq (.reg false r27_5) .ret)))
theorem e27 {args : List PV} {h : Heap} {K : PV → Heap → Prop} (hl : args.length = 2) (s : pwp Try.prog [] c27 (fin Try.prog [.tmp 4] h K) (slots0 (olds args)) h) : CanP Try.prog 27 args h K :=
  can_of2 (n := 20) mixed Try.func27 rfl (by kernel_rfl) (by rw [hl]; kernel_rfl) rfl (by kernel_rfl) s
/-! ### naskh.naskhref03.Has: function 28 -/
def r28_0 : List PS := [.mk (some 2) (.box 25 (.tmp 0)) none,
  .mk (some 4) (.assign (.const (.bool false))) none]
def r28_1 : List PS := [.mk (some 5) (.move (.tmp 1)) none,
  .mk (some 6) (.fieldAddr 25 (.tmp 2) 0) none,
  .mk (some 7) (.load 3 (.tmp 6)) none,
  .mk (some 8) (.binOp .geq 3 (.tmp 5) (.tmp 7) 3) none,
  .mk (some 9) (.move (.tmp 8)) none,
  .mk (some 10) (.move (.tmp 1)) (some (9, true)),
  .mk (some 11) (.fieldAddr 25 (.tmp 2) 1) (some (9, true)),
  .mk (some 12) (.load 3 (.tmp 11)) (some (9, true)),
  .mk (some 13) (.binOp .lss 3 (.tmp 10) (.tmp 12) 3) (some (9, true)),
  .mk (some 14) (.pick (.tmp 9) (.tmp 13) (.const (.bool false))) none,
  .mk (some 4) (.assign (.tmp 14)) none]
def c28 : PC := (.seq (.reg false r28_0) (.seq (.reg false r28_1) .ret))
theorem e28 {args : List PV} {h : Heap} {K : PV → Heap → Prop} (hl : args.length = 2) (s : pwp Try.prog [] c28 (fin Try.prog [.tmp 4] h K) (slots0 (olds args)) h) : CanP Try.prog 28 args h K :=
  can_of2 (n := 15) mixed Try.func28 rfl (by kernel_rfl) (by rw [hl]; kernel_rfl) rfl (by kernel_rfl) s
/-! ### naskh.naskhref45.spans: function 29 -/
def r29_0 : List PS := [.mk (some 2) (.assign (.const (.slice none 0 0))) none]
def r29_1 : List PS := [.mk (some 3) (.assign (.const (.slice none 0 0))) none]
def r29_2 : List PS := [.mk (some 4) (.assign (.const (.int .i64 0))) none]
def r29_3 : List PS := [.mk (some 6) (.move (.tmp 4)) none,
  .mk (some 7) (.move (.tmp 0)) none,
  .mk (some 8) (.call ⟨(.builtin .len), #[(.tmp 7)], #[34]⟩) none,
  .mk (some 9) (.binOp .lss 3 (.tmp 6) (.tmp 8) 3) none]
def r29_4 : List PS := [.mk (some 12) (.move (.tmp 3)) none,
  .mk (some 13) (.call ⟨(.builtin .len), #[(.tmp 12)], #[27]⟩) none,
  .mk (some 5) (.assign (.tmp 13)) none]
def r29_5 : List PS := [.mk (some 14) (.move (.tmp 0)) none,
  .mk (some 15) (.move (.tmp 4)) none,
  .mk (some 16) (.indexAddr 34 (.tmp 14) (.tmp 15)) none,
  .mk (some 17) (.load 4 (.tmp 16)) none,
  .mk (some 18) (.move (.tmp 17)) none,
  .mk (some 19) (.move (.tmp 4)) (some (18, true)),
  .mk (some 20) (.binOp .gtr 3 (.tmp 19) (.const (.int .i64 0)) 3) (some (18, true)),
  .mk (some 21) (.pick (.tmp 18) (.tmp 20) (.const (.bool false))) none,
  .mk (some 22) (.move (.tmp 21)) none,
  .mk (some 23) (.move (.tmp 0)) (some (22, true)),
  .mk (some 24) (.move (.tmp 4)) (some (22, true)),
  .mk (some 25) (.binOp .sub 3 (.tmp 24) (.const (.int .i64 1)) 3) (some (22, true)),
  .mk (some 26) (.indexAddr 34 (.tmp 23) (.tmp 25)) (some (22, true)),
  .mk (some 27) (.load 4 (.tmp 26)) (some (22, true)),
  .mk (some 28) (.pick (.tmp 22) (.tmp 27) (.const (.bool false))) none]
def r29_6 : List PS := [.mk (some 29) (.move (.tmp 3)) none,
  .mk (some 30) (.move (.tmp 5)) none,
  .mk (some 31) (.binOp .sub 3 (.tmp 30) (.const (.int .i64 1)) 3) none,
  .mk (some 32) (.move (.tmp 4)) none,
  .mk (some 33) (.binOp .add 3 (.tmp 32) (.const (.int .i64 1)) 3) none,
  .mk (some 34) (.indexAddr 27 (.tmp 29) (.tmp 31)) none,
  .mk (some 35) (.fieldAddr 25 (.tmp 34) 1) none,
  .mk none (.store 3 (.tmp 35) (.tmp 33)) none]
def r29_7 : List PS := [.mk (some 36) (.move (.tmp 0)) none,
  .mk (some 37) (.move (.tmp 4)) none,
  .mk (some 38) (.indexAddr 34 (.tmp 36) (.tmp 37)) none,
  .mk (some 39) (.load 4 (.tmp 38)) none]
def r29_8 : List PS := [.mk (some 40) (.move (.tmp 3)) none,
  .mk (some 41) (.move (.tmp 4)) none,
  .mk (some 42) (.move (.tmp 4)) none,
  .mk (some 43) (.binOp .add 3 (.tmp 42) (.const (.int .i64 1)) 3) none,
  .mk (some 44) (.build 25 #[(0, (.tmp 41)), (1, (.tmp 43))]) none,
  .mk (some 45) (.buildSlice 27 1 #[(0, (.tmp 44))]) none,
  .mk (some 46) (.call ⟨(.builtin .append), #[(.tmp 40), (.tmp 45)], #[27, 27]⟩) none,
  .mk (some 3) (.assign (.tmp 46)) none]
def r29_9 : List PS := [.mk (some 10) (.move (.tmp 4)) none,
  .mk (some 11) (.binOp .add 3 (.tmp 10) (.const (.int .i64 1)) 3) none,
  .mk (some 4) (.assign (.tmp 11)) none]
def r29_10 : List PS := [.mk (some 47) (.move (.tmp 3)) none,
  .mk (some 2) (.assign (.tmp 47)) none]
def c29 : PC := (.seq (.reg false r29_0) (.seq (.reg false r29_1) (.seq (.seq (.reg false r29_2) (.block 0 (.loop (.seq (.seq (.reg false r29_3) (.cond (.tmp 9) .skip (.exit 0))) (.seq (.block 1 (.seq (.reg false r29_4) (.seq (.reg false r29_5) (.cond (.tmp 28) (.reg false r29_6) (.seq (.reg false r29_7) (.cond (.tmp 39) (.reg false r29_8) .skip)))))) (.reg false r29_9)))))) (.seq (.reg false r29_10) .ret))))
theorem e29 {args : List PV} {h : Heap} {K : PV → Heap → Prop} (hl : args.length = 1) (s : pwp Try.prog [] c29 (fin Try.prog [.tmp 2] h K) (slots0 (olds args)) h) : CanP Try.prog 29 args h K :=
  can_of2 (n := 48) mixed Try.func29 rfl (by kernel_rfl) (by rw [hl]; kernel_rfl) rfl (by kernel_rfl) s
/-! ### naskh.naskhref45.Seen: function 12 -/
def r12_0 : List PS := [.mk (some 3) (.box 25 (.tmp 1)) none,
  .mk (some 4) (.assign (.const (.slice none 0 0))) none,
  .mk (some 5) (.assign (.const (.int .i64 0))) none]
def r12_1 : List PS := [.mk (some 9) (.move (.tmp 0)) none,
  .mk (some 10) (.load 25 (.tmp 3)) none,
  .mk (some 11) (.call ⟨(.value (.func 27)), #[(.tmp 9), (.tmp 10)], #[22, 25]⟩) none,
  .mk (some 6) (.assign (.tmp 11)) none]
def r12_2 : List PS := [.mk (some 12) (.move (.tmp 6)) none,
  .mk (some 13) (.binOp .neq 28 (.tmp 12) (.const (.int .i64 0)) 28) none]
def r12_3 : List PS := [.mk (some 14) (.move (.tmp 6)) none,
  .mk (some 4) (.assign (.const (.slice none 0 0))) none,
  .mk (some 5) (.assign (.tmp 14)) none]
def r12_4 : List PS := [.mk (some 15) (.move (.tmp 0)) none,
  .mk (some 16) (.call ⟨(.builtin .len), #[(.tmp 15)], #[22]⟩) none,
  .mk (some 17) (.makeSlice 34 (.tmp 16) (.tmp 16)) none,
  .mk (some 7) (.assign (.tmp 17)) none]
def r12_5 : List PS := [.mk (some 8) (.assign (.const (.int .i64 0))) none]
def r12_6 : List PS := [.mk (some 18) (.move (.tmp 8)) none,
  .mk (some 19) (.move (.tmp 0)) none,
  .mk (some 20) (.call ⟨(.builtin .len), #[(.tmp 19)], #[22]⟩) none,
  .mk (some 21) (.binOp .lss 3 (.tmp 18) (.tmp 20) 3) none]
def r12_7 : List PS := [.mk (some 24) (.move (.tmp 7)) none,
  .mk (some 25) (.move (.tmp 8)) none,
  .mk (some 26) (.load 25 (.tmp 3)) none,
  .mk (some 27) (.move (.tmp 0)) none,
  .mk (some 28) (.move (.tmp 8)) none,
  .mk (some 29) (.indexAddr 22 (.tmp 27) (.tmp 28)) none,
  .mk (some 30) (.load 3 (.tmp 29)) none,
  .mk (some 31) (.call ⟨(.value (.func 28)), #[(.tmp 26), (.tmp 30)], #[25, 3]⟩) none,
  .mk (some 32) (.indexAddr 34 (.tmp 24) (.tmp 25)) none,
  .mk none (.store 4 (.tmp 32) (.tmp 31)) none]
def r12_8 : List PS := [.mk (some 22) (.move (.tmp 8)) none,
  .mk (some 23) (.binOp .add 3 (.tmp 22) (.const (.int .i64 1)) 3) none,
  .mk (some 8) (.assign (.tmp 23)) none]
def r12_9 : List PS := [.frz 7,
  .mk (some 33) (.move (.tmp 7)) none,
  .mk (some 34) (.call ⟨(.value (.func 29)), #[(.tmp 33)], #[34]⟩) none,
  .mk (some 4) (.assign (.tmp 34)) none,
  .mk (some 5) (.assign (.const (.int .i64 0))) none]
def c12 : PC := (.seq (.reg false r12_0) (.seq (.seq (.reg false r12_1) (.seq (.reg false r12_2) (.cond (.tmp 13) (.seq (.reg false r12_3) .ret) .skip))) (.seq (.reg false r12_4) (.seq (.seq (.reg false r12_5) (.block 0 (.loop (.seq (.seq (.reg false r12_6) (.cond (.tmp 21) .skip (.exit 0))) (.seq (.block 1 (.reg true r12_7)) (.reg false r12_8)))))) (.seq (.reg false r12_9) .ret)))))
theorem e12 {args : List PV} {h : Heap} {K : PV → Heap → Prop} (hl : args.length = 2) (s : pwp Try.prog [] c12 (fin Try.prog [.tmp 4, .tmp 5] h K) (slots0 (olds args)) h) : CanP Try.prog 12 args h K :=
  can_of2 (n := 35) mixed Try.func12 rfl (by kernel_rfl) (by rw [hl]; kernel_rfl) rfl (by kernel_rfl) s
/-! ### naskh.naskhref45.Picked: function 13 -/
def r13_0 : List PS := [.mk (some 3) (.box 25 (.tmp 1)) none,
  .mk (some 4) (.assign (.const (.slice none 0 0))) none,
  .mk (some 5) (.assign (.const (.int .i64 0))) none]
def r13_1 : List PS := [.mk (some 9) (.move (.tmp 0)) none,
  .mk (some 10) (.load 25 (.tmp 3)) none,
  .mk (some 11) (.call ⟨(.value (.func 27)), #[(.tmp 9), (.tmp 10)], #[22, 25]⟩) none,
  .mk (some 6) (.assign (.tmp 11)) none]
def r13_2 : List PS := [.mk (some 12) (.move (.tmp 6)) none,
  .mk (some 13) (.binOp .neq 28 (.tmp 12) (.const (.int .i64 0)) 28) none]
def r13_3 : List PS := [.mk (some 14) (.move (.tmp 6)) none,
  .mk (some 4) (.assign (.const (.slice none 0 0))) none,
  .mk (some 5) (.assign (.tmp 14)) none]
def r13_4 : List PS := [.mk (some 15) (.move (.tmp 0)) none,
  .mk (some 16) (.call ⟨(.builtin .len), #[(.tmp 15)], #[22]⟩) none,
  .mk (some 17) (.makeSlice 34 (.tmp 16) (.tmp 16)) none,
  .mk (some 7) (.assign (.tmp 17)) none]
def r13_5 : List PS := [.mk (some 18) (.fieldAddr 25 (.tmp 3) 0) none,
  .mk (some 19) (.load 3 (.tmp 18)) none,
  .mk (some 8) (.assign (.tmp 19)) none]
def r13_6 : List PS := [.mk (some 20) (.move (.tmp 8)) none,
  .mk (some 21) (.fieldAddr 25 (.tmp 3) 1) none,
  .mk (some 22) (.load 3 (.tmp 21)) none,
  .mk (some 23) (.binOp .lss 3 (.tmp 20) (.tmp 22) 3) none]
def r13_7 : List PS := [.mk (some 26) (.move (.tmp 7)) none,
  .mk (some 27) (.move (.tmp 0)) none,
  .mk (some 28) (.move (.tmp 8)) none,
  .mk (some 29) (.indexAddr 22 (.tmp 27) (.tmp 28)) none,
  .mk (some 30) (.load 3 (.tmp 29)) none,
  .mk (some 31) (.indexAddr 34 (.tmp 26) (.tmp 30)) none,
  .mk none (.store 4 (.tmp 31) (.const (.bool true))) none]
def r13_8 : List PS := [.mk (some 24) (.move (.tmp 8)) none,
  .mk (some 25) (.binOp .add 3 (.tmp 24) (.const (.int .i64 1)) 3) none,
  .mk (some 8) (.assign (.tmp 25)) none]
def r13_9 : List PS := [.frz 7,
  .mk (some 32) (.move (.tmp 7)) none,
  .mk (some 33) (.call ⟨(.value (.func 29)), #[(.tmp 32)], #[34]⟩) none,
  .mk (some 4) (.assign (.tmp 33)) none,
  .mk (some 5) (.assign (.const (.int .i64 0))) none]
def c13 : PC := (.seq (.reg false r13_0) (.seq (.seq (.reg false r13_1) (.seq (.reg false r13_2) (.cond (.tmp 13) (.seq (.reg false r13_3) .ret) .skip))) (.seq (.reg false r13_4) (.seq (.seq (.reg false r13_5) (.block 0 (.loop (.seq (.seq (.reg false r13_6) (.cond (.tmp 23) .skip (.exit 0))) (.seq (.block 1 (.reg false r13_7)) (.reg false r13_8)))))) (.seq (.reg false r13_9) .ret)))))
theorem e13 {args : List PV} {h : Heap} {K : PV → Heap → Prop} (hl : args.length = 2) (s : pwp Try.prog [] c13 (fin Try.prog [.tmp 4, .tmp 5] h K) (slots0 (olds args)) h) : CanP Try.prog 13 args h K :=
  can_of2 (n := 34) mixed Try.func13 rfl (by kernel_rfl) (by rw [hl]; kernel_rfl) rfl (by kernel_rfl) s
/-! ### slices.IndexFunc[[]naskh.api.Span,naskh.api.Span]: function 39 -/
def r39_0 : List PS := [.mk (some 4) (.assign (.const (.int .i64 0))) none]
def r39_1 : List PS := [.mk (some 6) (.move (.tmp 0)) none,
  .mk (some 7) (.call ⟨(.builtin .len), #[(.tmp 6)], #[27]⟩) none,
  .mk (some 8) (.move (.const (.int .i64 0))) none]
def r39_2 : List PS := [.mk (some 9) (.binOp .lss 3 (.tmp 8) (.tmp 7) 3) none]
def r39_3 : List PS := [.mk (some 10) (.move (.tmp 8)) none,
  .mk (some 5) (.assign (.tmp 10)) none]
def r39_4 : List PS := [.mk (some 11) (.move (.tmp 1)) none,
  .mk (some 12) (.move (.tmp 0)) none,
  .mk (some 13) (.move (.tmp 5)) none,
  .mk (some 14) (.indexAddr 27 (.tmp 12) (.tmp 13)) none,
  .mk (some 15) (.load 25 (.tmp 14)) none,
  .mk (some 16) (.call ⟨(.value (.tmp 11)), #[(.tmp 15)], #[25]⟩) none]
def r39_5 : List PS := [.mk (some 17) (.move (.tmp 5)) none,
  .mk (some 4) (.assign (.tmp 17)) none]
def r39_6 : List PS := [.mk (some 18) (.binOp .add 3 (.tmp 8) (.const (.int .i64 1)) 3) none,
  .mk (some 8) (.move (.tmp 18)) none]
def r39_7 : List PS := [.mk (some 4) (.assign (.const (.int .i64 (-1)))) none]
def c39 : PC := (.seq (.reg false r39_0) (.seq (.seq (.reg false r39_1) (.block 0 (.loop (.seq (.reg false r39_2) (.seq (.cond (.tmp 9) .skip (.exit 0)) (.seq (.block 1 (.seq (.reg false r39_3) (.seq (.reg false r39_4) (.cond (.tmp 16) (.seq (.reg false r39_5) .ret) .skip)))) (.reg false r39_6))))))) (.seq (.reg false r39_7) .ret)))
theorem e39 {args : List PV} {h : Heap} {K : PV → Heap → Prop} (hl : args.length = 2) (s : pwp Try.prog [] c39 (fin Try.prog [.tmp 4] h K) (slots0 (olds args)) h) : CanP Try.prog 39 args h K :=
  can_of2 (n := 19) mixed Try.func39 rfl (by kernel_rfl) (by rw [hl]; kernel_rfl) rfl (by kernel_rfl) s
/-! ### slices.ContainsFunc[[]naskh.api.Span,naskh.api.Span]: function 30 -/
def r30_0 : List PS := [.mk (some 4) (.assign (.const (.bool false))) none]
def r30_1 : List PS := [.mk (some 5) (.move (.tmp 0)) none,
  .mk (some 6) (.move (.tmp 1)) none,
  .mk (some 7) (.call ⟨(.value (.func 39)), #[(.tmp 5), (.tmp 6)], #[27, 50]⟩) none,
  .mk (some 8) (.binOp .geq 3 (.tmp 7) (.const (.int .i64 0)) 3) none,
  .mk (some 4) (.assign (.tmp 8)) none]
def c30 : PC := (.seq (.reg false r30_0) (.seq (.reg false r30_1) .ret))
theorem e30 {args : List PV} {h : Heap} {K : PV → Heap → Prop} (hl : args.length = 2) (s : pwp Try.prog [] c30 (fin Try.prog [.tmp 4] h K) (slots0 (olds args)) h) : CanP Try.prog 30 args h K :=
  can_of2 (n := 9) mixed Try.func30 rfl (by kernel_rfl) (by rw [hl]; kernel_rfl) rfl (by kernel_rfl) s
/-! ### naskh.pick.Cells$1: function 31 -/
def r31_0 : List PS := [.mk (some 2) (.box 25 (.tmp 0)) none,
  .mk (some 3) (.assign (.const (.bool false))) none]
def r31_1 : List PS := [.mk (some 4) (.load 25 (.tmp 2)) none,
  .mk (some 5) (.load 3 (.tmp 1)) none,
  .mk (some 6) (.call ⟨(.value (.func 11)), #[(.tmp 4), (.tmp 5)], #[25, 3]⟩) none,
  .mk (some 3) (.assign (.tmp 6)) none]
def c31 : PC := (.seq (.reg false r31_0) (.seq (.reg false r31_1) .ret))
theorem e31 {args : List PV} {h : Heap} {K : PV → Heap → Prop} (hl : args.length = 2) (s : pwp Try.prog [] c31 (fin Try.prog [.tmp 3] h K) (slots0 (olds args)) h) : CanP Try.prog 31 args h K :=
  can_of2 (n := 7) mixed Try.func31 rfl (by kernel_rfl) (by rw [hl]; kernel_rfl) rfl (by kernel_rfl) s
/-! ### naskh.pick.Cells: function 14 -/
def r14_0 : List PS := [.mk (some 4) (.assign (.const (.slice none 0 0))) none,
  .mk (some 5) (.assign (.const (.int .i64 0))) none]
def r14_1 : List PS := [.mk (some 10) (.move (.tmp 0)) none,
  .mk (some 11) (.move (.tmp 1)) none,
  .mk (some 12) (.call ⟨(.value (.func 22)), #[(.tmp 10), (.tmp 11)], #[22, 27]⟩) none,
  .mk (some 6) (.assign (.tmp 12)) none]
def r14_2 : List PS := [.mk (some 13) (.move (.tmp 6)) none,
  .mk (some 14) (.binOp .neq 28 (.tmp 13) (.const (.int .i64 0)) 28) none]
def r14_3 : List PS := [.mk (some 15) (.move (.tmp 6)) none,
  .mk (some 4) (.assign (.const (.slice none 0 0))) none,
  .mk (some 5) (.assign (.tmp 15)) none]
def r14_4 : List PS := [.mk (some 16) (.move (.tmp 0)) none,
  .mk (some 17) (.call ⟨(.builtin .len), #[(.tmp 16)], #[22]⟩) none,
  .mk (some 18) (.makeSlice 34 (.tmp 17) (.tmp 17)) none,
  .mk (some 7) (.assign (.tmp 18)) none]
def r14_5 : List PS := [.mk (some 19) (.move (.tmp 0)) none,
  .mk (some 20) (.call ⟨(.builtin .len), #[(.tmp 19)], #[22]⟩) none,
  .mk (some 21) (.move (.const (.int .i64 0))) none]
def r14_6 : List PS := [.mk (some 22) (.binOp .lss 3 (.tmp 21) (.tmp 20) 3) none]
def r14_7 : List PS := [.mk (some 23) (.move (.tmp 21)) none,
  .mk (some 24) (.indexAddr 22 (.tmp 19) (.tmp 21)) none,
  .mk (some 25) (.load 3 (.tmp 24)) none,
  .mk (some 9) (.alloc 3) none,
  .mk (some 8) (.assign (.tmp 23)) none,
  .mk none (.store 3 (.tmp 9) (.tmp 25)) none,
  .frz 9]
def r14_8 : List PS := [.mk (some 26) (.move (.tmp 7)) none,
  .mk (some 27) (.move (.tmp 8)) none,
  .mk (some 28) (.move (.tmp 1)) none,
  .mk (some 29) (.makeFunc (.func 31) #[] #[(.tmp 9)]) none,
  .mk (some 30) (.call ⟨(.value (.func 30)), #[(.tmp 28), (.tmp 29)], #[27, 50]⟩) none,
  .mk (some 31) (.indexAddr 34 (.tmp 26) (.tmp 27)) none,
  .mk none (.store 4 (.tmp 31) (.tmp 30)) none]
def r14_9 : List PS := [.mk (some 32) (.binOp .add 3 (.tmp 21) (.const (.int .i64 1)) 3) none,
  .mk (some 21) (.move (.tmp 32)) none]
def r14_10 : List PS := [.mk (some 33) (.move (.tmp 7)) none,
  .mk (some 4) (.assign (.tmp 33)) none,
  .mk (some 5) (.assign (.const (.int .i64 0))) none]
def c14 : PC := (.seq (.reg false r14_0) (.seq (.seq (.reg false r14_1) (.seq (.reg false r14_2) (.cond (.tmp 14) (.seq (.reg false r14_3) .ret) .skip))) (.seq (.reg false r14_4) (.seq (.seq (.reg false r14_5) (.block 0 (.loop (.seq (.reg false r14_6) (.seq (.cond (.tmp 22) .skip (.exit 0)) (.seq (.block 1 (.seq (.reg false r14_7) (.reg false r14_8))) (.reg false r14_9))))))) (.seq (.reg false r14_10) .ret)))))
theorem e14 {args : List PV} {h : Heap} {K : PV → Heap → Prop} (hl : args.length = 2) (s : pwp Try.prog [9] c14 (fin Try.prog [.tmp 4, .tmp 5] h K) (slots0 (olds args)) h) : CanP Try.prog 14 args h K :=
  can_of2 (n := 34) mixed Try.func14 rfl (by kernel_rfl) (by rw [hl]; kernel_rfl) rfl (by kernel_rfl) s
/-! ### naskh.naskhref03.Find: function 33 -/
def r33_0 : List PS := [.mk (some 4) (.assign (.const (.int .i64 0))) none]
def r33_1 : List PS := [.mk (some 5) (.assign (.const (.int .i64 0))) none]
def r33_2 : List PS := [.mk (some 6) (.move (.tmp 5)) none,
  .mk (some 7) (.move (.tmp 0)) none,
  .mk (some 8) (.call ⟨(.builtin .len), #[(.tmp 7)], #[27]⟩) none,
  .mk (some 9) (.binOp .lss 3 (.tmp 6) (.tmp 8) 3) none]
def r33_3 : List PS := [.mk (some 12) (.move (.tmp 0)) none,
  .mk (some 13) (.move (.tmp 5)) none,
  .mk (some 14) (.indexAddr 27 (.tmp 12) (.tmp 13)) none,
  .mk (some 15) (.load 25 (.tmp 14)) none,
  .mk (some 16) (.move (.tmp 1)) none,
  .mk (some 17) (.call ⟨(.value (.func 28)), #[(.tmp 15), (.tmp 16)], #[25, 3]⟩) none]
def r33_4 : List PS := [.mk (some 18) (.move (.tmp 5)) none,
  .mk (some 4) (.assign (.tmp 18)) none]
def r33_5 : List PS := [.mk (some 10) (.move (.tmp 5)) none,
  .mk (some 11) (.binOp .add 3 (.tmp 10) (.const (.int .i64 1)) 3) none,
  .mk (some 5) (.assign (.tmp 11)) none]
def r33_6 : List PS := [.mk (some 4) (.assign (.const (.int .i64 (-1)))) none]
def c33 : PC := (.seq (.reg false r33_0) (.seq (.seq (.reg false r33_1) (.block 0 (.loop (.seq (.seq (.reg false r33_2) (.cond (.tmp 9) .skip (.exit 0))) (.seq (.block 1 (.seq (.reg false r33_3) (.cond (.tmp 17) (.seq (.reg false r33_4) .ret) .skip))) (.reg false r33_5)))))) (.seq (.reg false r33_6) .ret)))
theorem e33 {args : List PV} {h : Heap} {K : PV → Heap → Prop} (hl : args.length = 2) (s : pwp Try.prog [] c33 (fin Try.prog [.tmp 4] h K) (slots0 (olds args)) h) : CanP Try.prog 33 args h K :=
  can_of2 (n := 19) mixed Try.func33 rfl (by kernel_rfl) (by rw [hl]; kernel_rfl) rfl (by kernel_rfl) s
/-! ### naskh.naskhref45.Cells: function 15 -/
def r15_0 : List PS := [.mk (some 4) (.assign (.const (.slice none 0 0))) none,
  .mk (some 5) (.assign (.const (.int .i64 0))) none]
def r15_1 : List PS := [.mk (some 10) (.move (.tmp 0)) none,
  .mk (some 11) (.call ⟨(.value (.func 32)), #[(.tmp 10)], #[22]⟩) none,
  .mk (some 12) (.unOp .not 4 (.tmp 11)) none]
def r15_2 : List PS := [.mk (some 4) (.assign (.const (.slice none 0 0))) none,
  .mk (some 5) (.assign (.const (.int .i64 13))) none]
def r15_3 : List PS := [.mk (some 6) (.assign (.const (.int .i64 0))) none]
def r15_4 : List PS := [.mk (some 13) (.move (.tmp 6)) none,
  .mk (some 14) (.move (.tmp 1)) none,
  .mk (some 15) (.call ⟨(.builtin .len), #[(.tmp 14)], #[27]⟩) none,
  .mk (some 16) (.binOp .lss 3 (.tmp 13) (.tmp 15) 3) none]
def r15_5 : List PS := [.mk (some 19) (.move (.tmp 0)) none,
  .mk (some 20) (.move (.tmp 1)) none,
  .mk (some 21) (.move (.tmp 6)) none,
  .mk (some 22) (.indexAddr 27 (.tmp 20) (.tmp 21)) none,
  .mk (some 23) (.load 25 (.tmp 22)) none,
  .mk (some 24) (.call ⟨(.value (.func 27)), #[(.tmp 19), (.tmp 23)], #[22, 25]⟩) none,
  .mk (some 7) (.assign (.tmp 24)) none]
def r15_6 : List PS := [.mk (some 25) (.move (.tmp 7)) none,
  .mk (some 26) (.binOp .neq 28 (.tmp 25) (.const (.int .i64 0)) 28) none]
def r15_7 : List PS := [.mk (some 27) (.move (.tmp 7)) none,
  .mk (some 4) (.assign (.const (.slice none 0 0))) none,
  .mk (some 5) (.assign (.tmp 27)) none]
def r15_8 : List PS := [.mk (some 17) (.move (.tmp 6)) none,
  .mk (some 18) (.binOp .add 3 (.tmp 17) (.const (.int .i64 1)) 3) none,
  .mk (some 6) (.assign (.tmp 18)) none]
def r15_9 : List PS := [.mk (some 28) (.move (.tmp 0)) none,
  .mk (some 29) (.call ⟨(.builtin .len), #[(.tmp 28)], #[22]⟩) none,
  .mk (some 30) (.makeSlice 34 (.tmp 29) (.tmp 29)) none,
  .mk (some 8) (.assign (.tmp 30)) none]
def r15_10 : List PS := [.mk (some 9) (.assign (.const (.int .i64 0))) none]
def r15_11 : List PS := [.mk (some 31) (.move (.tmp 9)) none,
  .mk (some 32) (.move (.tmp 0)) none,
  .mk (some 33) (.call ⟨(.builtin .len), #[(.tmp 32)], #[22]⟩) none,
  .mk (some 34) (.binOp .lss 3 (.tmp 31) (.tmp 33) 3) none]
def r15_12 : List PS := [.mk (some 37) (.move (.tmp 8)) none,
  .mk (some 38) (.move (.tmp 9)) none,
  .mk (some 39) (.move (.tmp 1)) none,
  .mk (some 40) (.move (.tmp 0)) none,
  .mk (some 41) (.move (.tmp 9)) none,
  .mk (some 42) (.indexAddr 22 (.tmp 40) (.tmp 41)) none,
  .mk (some 43) (.load 3 (.tmp 42)) none,
  .mk (some 44) (.call ⟨(.value (.func 33)), #[(.tmp 39), (.tmp 43)], #[27, 3]⟩) none,
  .mk (some 45) (.binOp .geq 3 (.tmp 44) (.const (.int .i64 0)) 3) none,
  .mk (some 46) (.indexAddr 34 (.tmp 37) (.tmp 38)) none,
  .mk none (.store 4 (.tmp 46) (.tmp 45)) none]
def r15_13 : List PS := [.mk (some 35) (.move (.tmp 9)) none,
  .mk (some 36) (.binOp .add 3 (.tmp 35) (.const (.int .i64 1)) 3) none,
  .mk (some 9) (.assign (.tmp 36)) none]
def r15_14 : List PS := [.mk (some 47) (.move (.tmp 8)) none,
  .mk (some 4) (.assign (.tmp 47)) none,
  .mk (some 5) (.assign (.const (.int .i64 0))) none]
def c15 : PC := (.seq (.reg false r15_0) (.seq (.seq (.reg false r15_1) (.cond (.tmp 12) (.seq (.reg false r15_2) .ret) .skip)) (.seq (.seq (.reg false r15_3) (.block 0 (.loop (.seq (.seq (.reg false r15_4) (.cond (.tmp 16) .skip (.exit 0))) (.seq (.block 1 (.seq (.reg false r15_5) (.seq (.reg false r15_6) (.cond (.tmp 26) (.seq (.reg false r15_7) .ret) .skip)))) (.reg false r15_8)))))) (.seq (.reg false r15_9) (.seq (.seq (.reg false r15_10) (.block 2 (.loop (.seq (.seq (.reg false r15_11) (.cond (.tmp 34) .skip (.exit 2))) (.seq (.block 3 (.reg false r15_12)) (.reg false r15_13)))))) (.seq (.reg false r15_14) .ret))))))
theorem e15 {args : List PV} {h : Heap} {K : PV → Heap → Prop} (hl : args.length = 2) (s : pwp Try.prog [] c15 (fin Try.prog [.tmp 4, .tmp 5] h K) (slots0 (olds args)) h) : CanP Try.prog 15 args h K :=
  can_of2 (n := 48) mixed Try.func15 rfl (by kernel_rfl) (by rw [hl]; kernel_rfl) rfl (by kernel_rfl) s
/-! ### slices.Equal[[]bool,bool]: function 17 -/
def r17_0 : List PS := [.mk (some 4) (.assign (.const (.bool false))) none]
def r17_1 : List PS := [.mk (some 6) (.move (.tmp 0)) none,
  .mk (some 7) (.call ⟨(.builtin .len), #[(.tmp 6)], #[34]⟩) none,
  .mk (some 8) (.move (.tmp 1)) none,
  .mk (some 9) (.call ⟨(.builtin .len), #[(.tmp 8)], #[34]⟩) none,
  .mk (some 10) (.binOp .neq 3 (.tmp 7) (.tmp 9) 3) none]
def r17_2 : List PS := [.mk (some 4) (.assign (.const (.bool false))) none]
def r17_3 : List PS := [.mk (some 11) (.move (.tmp 0)) none,
  .mk (some 12) (.call ⟨(.builtin .len), #[(.tmp 11)], #[34]⟩) none,
  .mk (some 13) (.move (.const (.int .i64 0))) none]
def r17_4 : List PS := [.mk (some 14) (.binOp .lss 3 (.tmp 13) (.tmp 12) 3) none]
def r17_5 : List PS := [.mk (some 15) (.move (.tmp 13)) none,
  .mk (some 5) (.assign (.tmp 15)) none]
def r17_6 : List PS := [.mk (some 16) (.move (.tmp 0)) none,
  .mk (some 17) (.move (.tmp 5)) none,
  .mk (some 18) (.indexAddr 34 (.tmp 16) (.tmp 17)) none,
  .mk (some 19) (.load 4 (.tmp 18)) none,
  .mk (some 20) (.move (.tmp 1)) none,
  .mk (some 21) (.move (.tmp 5)) none,
  .mk (some 22) (.indexAddr 34 (.tmp 20) (.tmp 21)) none,
  .mk (some 23) (.load 4 (.tmp 22)) none,
  .mk (some 24) (.binOp .neq 4 (.tmp 19) (.tmp 23) 4) none]
def r17_7 : List PS := [.mk (some 4) (.assign (.const (.bool false))) none]
def r17_8 : List PS := [.mk (some 25) (.binOp .add 3 (.tmp 13) (.const (.int .i64 1)) 3) none,
  .mk (some 13) (.move (.tmp 25)) none]
def r17_9 : List PS := [.mk (some 4) (.assign (.const (.bool true))) none]
def c17 : PC := (.seq (.reg false r17_0) (.seq (.seq (.reg false r17_1) (.cond (.tmp 10) (.seq (.reg false r17_2) .ret) .skip)) (.seq (.seq (.reg false r17_3) (.block 0 (.loop (.seq (.reg false r17_4) (.seq (.cond (.tmp 14) .skip (.exit 0)) (.seq (.block 1 (.seq (.reg false r17_5) (.seq (.reg true r17_6) (.cond (.tmp 24) (.seq (.reg false r17_7) .ret) .skip)))) (.reg false r17_8))))))) (.seq (.reg false r17_9) .ret))))
theorem e17 {args : List PV} {h : Heap} {K : PV → Heap → Prop} (hl : args.length = 2) (s : pwp Try.prog [] c17 (fin Try.prog [.tmp 4] h K) (slots0 (olds args)) h) : CanP Try.prog 17 args h K :=
  can_of2 (n := 26) mixed Try.func17 rfl (by kernel_rfl) (by rw [hl]; kernel_rfl) rfl (by kernel_rfl) s
/-! ### naskh.naskhlaw45.PickTells: function 4 -/
def r4_0 : List PS := [.mk (some 4) (.box 25 (.tmp 1)) none,
  .mk (some 6) (.assign (.const (.bool false))) none]
def r4_1 : List PS := [.mk (some 19) (.move (.tmp 0)) none,
  .mk (some 20) (.call ⟨(.builtin .len), #[(.tmp 19)], #[22]⟩) none,
  .mk (some 21) (.binOp .gtr 3 (.tmp 20) (.const (.int .i64 100)) 3) none,
  .mk (some 22) (.move (.tmp 21)) none,
  .mk (some 23) (.move (.tmp 2)) (some (22, false)),
  .mk (some 24) (.call ⟨(.builtin .len), #[(.tmp 23)], #[27]⟩) (some (22, false)),
  .mk (some 25) (.binOp .gtr 3 (.tmp 24) (.const (.int .i64 50)) 3) (some (22, false)),
  .mk (some 26) (.pick (.tmp 22) (.const (.bool true)) (.tmp 25)) none]
def r4_2 : List PS := [.mk (some 27) (.call ⟨(.value (.func 6)), #[], #[]⟩) none,
  .mk (some 6) (.assign (.tmp 27)) none]
def r4_3 : List PS := [.mk (some 29) (.move (.tmp 0)) none,
  .mk (some 30) (.load 25 (.tmp 4)) none,
  .mk (some 31) (.call ⟨(.value (.func 8)), #[(.tmp 29), (.tmp 30)], #[22, 25]⟩) none,
  .mk (some 28) (.move (.tmp 31)) none,
  .mk (some 32) (.extract (.tmp 28) 0) none,
  .mk (some 33) (.extract (.tmp 28) 1) none,
  .mk (some 7) (.assign (.tmp 32)) none,
  .mk (some 8) (.assign (.tmp 33)) none]
def r4_4 : List PS := [.mk (some 35) (.move (.tmp 0)) none,
  .mk (some 36) (.load 25 (.tmp 4)) none,
  .mk (some 37) (.call ⟨(.value (.func 12)), #[(.tmp 35), (.tmp 36)], #[22, 25]⟩) none,
  .mk (some 34) (.move (.tmp 37)) none,
  .mk (some 38) (.extract (.tmp 34) 0) none,
  .mk (some 39) (.extract (.tmp 34) 1) none,
  .mk (some 9) (.assign (.tmp 38)) none,
  .mk (some 10) (.assign (.tmp 39)) none]
def r4_5 : List PS := [.mk (some 41) (.move (.tmp 0)) none,
  .mk (some 42) (.load 25 (.tmp 4)) none,
  .mk (some 43) (.call ⟨(.value (.func 9)), #[(.tmp 41), (.tmp 42)], #[22, 25]⟩) none,
  .mk (some 40) (.move (.tmp 43)) none,
  .mk (some 44) (.extract (.tmp 40) 0) none,
  .mk (some 45) (.extract (.tmp 40) 1) none,
  .mk (some 11) (.assign (.tmp 44)) none,
  .mk (some 12) (.assign (.tmp 45)) none]
def r4_6 : List PS := [.mk (some 47) (.move (.tmp 0)) none,
  .mk (some 48) (.load 25 (.tmp 4)) none,
  .mk (some 49) (.call ⟨(.value (.func 13)), #[(.tmp 47), (.tmp 48)], #[22, 25]⟩) none,
  .mk (some 46) (.move (.tmp 49)) none,
  .mk (some 50) (.extract (.tmp 46) 0) none,
  .mk (some 51) (.extract (.tmp 46) 1) none,
  .mk (some 13) (.assign (.tmp 50)) none,
  .mk (some 14) (.assign (.tmp 51)) none]
def r4_7 : List PS := [.mk (some 53) (.move (.tmp 0)) none,
  .mk (some 54) (.move (.tmp 2)) none,
  .mk (some 55) (.call ⟨(.value (.func 14)), #[(.tmp 53), (.tmp 54)], #[22, 27]⟩) none,
  .mk (some 52) (.move (.tmp 55)) none,
  .mk (some 56) (.extract (.tmp 52) 0) none,
  .mk (some 57) (.extract (.tmp 52) 1) none,
  .mk (some 15) (.assign (.tmp 56)) none,
  .mk (some 16) (.assign (.tmp 57)) none]
def r4_8 : List PS := [.mk (some 59) (.move (.tmp 0)) none,
  .mk (some 60) (.move (.tmp 2)) none,
  .mk (some 61) (.call ⟨(.value (.func 15)), #[(.tmp 59), (.tmp 60)], #[22, 27]⟩) none,
  .mk (some 58) (.move (.tmp 61)) none,
  .mk (some 62) (.extract (.tmp 58) 0) none,
  .mk (some 63) (.extract (.tmp 58) 1) none,
  .mk (some 17) (.assign (.tmp 62)) none,
  .mk (some 18) (.assign (.tmp 63)) none]
def r4_9 : List PS := [.mk (some 64) (.move (.tmp 8)) none,
  .mk (some 65) (.move (.tmp 10)) none,
  .mk (some 66) (.binOp .eql 28 (.tmp 64) (.tmp 65) 28) none,
  .mk (some 67) (.move (.tmp 66)) none,
  .mk (some 68) (.move (.tmp 7)) (some (67, true)),
  .mk (some 69) (.move (.tmp 9)) (some (67, true)),
  .mk (some 70) (.call ⟨(.value (.func 16)), #[(.tmp 68), (.tmp 69)], #[27, 27]⟩) (some (67, true)),
  .mk (some 71) (.pick (.tmp 67) (.tmp 70) (.const (.bool false))) none,
  .mk (some 72) (.move (.tmp 71)) none,
  .mk (some 73) (.move (.tmp 12)) (some (72, true)),
  .mk (some 74) (.move (.tmp 14)) (some (72, true)),
  .mk (some 75) (.binOp .eql 28 (.tmp 73) (.tmp 74) 28) (some (72, true)),
  .mk (some 76) (.pick (.tmp 72) (.tmp 75) (.const (.bool false))) none,
  .mk (some 77) (.move (.tmp 76)) none,
  .mk (some 78) (.move (.tmp 11)) (some (77, true)),
  .mk (some 79) (.move (.tmp 13)) (some (77, true)),
  .mk (some 80) (.call ⟨(.value (.func 16)), #[(.tmp 78), (.tmp 79)], #[27, 27]⟩) (some (77, true)),
  .mk (some 81) (.pick (.tmp 77) (.tmp 80) (.const (.bool false))) none,
  .mk (some 82) (.move (.tmp 81)) none,
  .mk (some 83) (.move (.tmp 16)) (some (82, true)),
  .mk (some 84) (.move (.tmp 18)) (some (82, true)),
  .mk (some 85) (.binOp .eql 28 (.tmp 83) (.tmp 84) 28) (some (82, true)),
  .mk (some 86) (.pick (.tmp 82) (.tmp 85) (.const (.bool false))) none,
  .mk (some 87) (.move (.tmp 86)) none,
  .mk (some 88) (.move (.tmp 15)) (some (87, true)),
  .mk (some 89) (.move (.tmp 17)) (some (87, true)),
  .mk (some 90) (.call ⟨(.value (.func 17)), #[(.tmp 88), (.tmp 89)], #[34, 34]⟩) (some (87, true)),
  .mk (some 91) (.pick (.tmp 87) (.tmp 90) (.const (.bool false))) none,
  .mk (some 92) (.move (.tmp 91)) none,
  .mk (some 93) (.call ⟨(.value (.func 6)), #[], #[]⟩) (some (92, true)),
  .mk (some 94) (.pick (.tmp 92) (.tmp 93) (.const (.bool false))) none,
  .mk (some 6) (.assign (.tmp 94)) none]
def c4 : PC := (.seq (.reg false r4_0) (.seq (.seq (.reg false r4_1) (.cond (.tmp 26) (.seq (.reg false r4_2) .ret) .skip)) (.seq (.reg false r4_3) (.seq (.reg false r4_4) (.seq (.reg false r4_5) (.seq (.reg false r4_6) (.seq (.reg false r4_7) (.seq (.reg false r4_8) (.seq (.reg false r4_9) .ret)))))))))
theorem e4 {args : List PV} {h : Heap} {K : PV → Heap → Prop} (hl : args.length = 3) (s : pwp Try.prog [] c4 (fin Try.prog [.tmp 6] h K) (slots0 (olds args)) h) : CanP Try.prog 4 args h K :=
  can_of2 (n := 95) mixed Try.func4 rfl (by kernel_rfl) (by rw [hl]; kernel_rfl) rfl (by kernel_rfl) s
/-! ### naskh.naskhlaw45.PickBoth: function 5 -/
def r5_0 : List PS := [.mk (some 4) (.box 25 (.tmp 1)) none,
  .mk (some 5) (.box 25 (.tmp 2)) none,
  .mk (some 6) (.assign (.const (.bool false))) none]
def r5_1 : List PS := [.mk (some 15) (.move (.tmp 0)) none,
  .mk (some 16) (.call ⟨(.builtin .len), #[(.tmp 15)], #[22]⟩) none,
  .mk (some 17) (.binOp .gtr 3 (.tmp 16) (.const (.int .i64 100)) 3) none]
def r5_2 : List PS := [.mk (some 18) (.call ⟨(.value (.func 6)), #[], #[]⟩) none,
  .mk (some 6) (.assign (.tmp 18)) none]
def r5_3 : List PS := [.mk (some 19) (.move (.tmp 0)) none,
  .mk (some 20) (.call ⟨(.value (.func 7)), #[(.tmp 19)], #[22]⟩) none,
  .mk (some 7) (.assign (.tmp 20)) none]
def r5_4 : List PS := [.mk (some 22) (.move (.tmp 7)) none,
  .mk (some 23) (.load 25 (.tmp 4)) none,
  .mk (some 24) (.buildSlice 27 1 #[(0, (.tmp 23))]) none,
  .mk (some 25) (.call ⟨(.value (.func 14)), #[(.tmp 22), (.tmp 24)], #[22, 27]⟩) none,
  .mk (some 21) (.move (.tmp 25)) none,
  .mk (some 26) (.extract (.tmp 21) 0) none,
  .mk (some 27) (.extract (.tmp 21) 1) none,
  .mk (some 8) (.assign (.tmp 26)) none,
  .mk (some 9) (.assign (.tmp 27)) none]
def r5_5 : List PS := [.mk (some 29) (.move (.tmp 7)) none,
  .mk (some 30) (.load 25 (.tmp 5)) none,
  .mk (some 31) (.buildSlice 27 1 #[(0, (.tmp 30))]) none,
  .mk (some 32) (.call ⟨(.value (.func 14)), #[(.tmp 29), (.tmp 31)], #[22, 27]⟩) none,
  .mk (some 28) (.move (.tmp 32)) none,
  .mk (some 33) (.extract (.tmp 28) 0) none,
  .mk (some 34) (.extract (.tmp 28) 1) none,
  .mk (some 10) (.assign (.tmp 33)) none,
  .mk (some 11) (.assign (.tmp 34)) none]
def r5_6 : List PS := [.mk (some 36) (.move (.tmp 7)) none,
  .mk (some 37) (.load 25 (.tmp 4)) none,
  .mk (some 38) (.load 25 (.tmp 5)) none,
  .mk (some 39) (.buildSlice 27 2 #[(0, (.tmp 37)), (1, (.tmp 38))]) none,
  .mk (some 40) (.call ⟨(.value (.func 14)), #[(.tmp 36), (.tmp 39)], #[22, 27]⟩) none,
  .mk (some 35) (.move (.tmp 40)) none,
  .mk (some 41) (.extract (.tmp 35) 0) none,
  .mk (some 42) (.extract (.tmp 35) 1) none,
  .mk (some 12) (.assign (.tmp 41)) none,
  .mk (some 13) (.assign (.tmp 42)) none]
def r5_7 : List PS := [.mk (some 43) (.move (.tmp 9)) none,
  .mk (some 44) (.binOp .neq 28 (.tmp 43) (.const (.int .i64 0)) 28) none,
  .mk (some 45) (.move (.tmp 44)) none,
  .mk (some 46) (.move (.tmp 11)) (some (45, false)),
  .mk (some 47) (.binOp .neq 28 (.tmp 46) (.const (.int .i64 0)) 28) (some (45, false)),
  .mk (some 48) (.pick (.tmp 45) (.const (.bool true)) (.tmp 47)) none]
def r5_8 : List PS := [.mk (some 49) (.move (.tmp 13)) none,
  .mk (some 50) (.binOp .neq 28 (.tmp 49) (.const (.int .i64 0)) 28) none,
  .mk (some 51) (.move (.tmp 50)) none,
  .mk (some 52) (.move (.tmp 12)) (some (51, true)),
  .mk (some 53) (.call ⟨(.builtin .len), #[(.tmp 52)], #[34]⟩) (some (51, true)),
  .mk (some 54) (.binOp .eql 3 (.tmp 53) (.const (.int .i64 0)) 3) (some (51, true)),
  .mk (some 55) (.pick (.tmp 51) (.tmp 54) (.const (.bool false))) none,
  .mk (some 56) (.move (.tmp 55)) none,
  .mk (some 57) (.call ⟨(.value (.func 6)), #[], #[]⟩) (some (56, true)),
  .mk (some 58) (.pick (.tmp 56) (.tmp 57) (.const (.bool false))) none,
  .mk (some 6) (.assign (.tmp 58)) none]
def r5_9 : List PS := [.mk (some 59) (.move (.tmp 13)) none,
  .mk (some 60) (.binOp .neq 28 (.tmp 59) (.const (.int .i64 0)) 28) none,
  .mk (some 61) (.move (.tmp 60)) none,
  .mk (some 62) (.move (.tmp 12)) (some (61, false)),
  .mk (some 63) (.call ⟨(.builtin .len), #[(.tmp 62)], #[34]⟩) (some (61, false)),
  .mk (some 64) (.move (.tmp 8)) (some (61, false)),
  .mk (some 65) (.call ⟨(.builtin .len), #[(.tmp 64)], #[34]⟩) (some (61, false)),
  .mk (some 66) (.binOp .neq 3 (.tmp 63) (.tmp 65) 3) (some (61, false)),
  .mk (some 67) (.pick (.tmp 61) (.const (.bool true)) (.tmp 66)) none,
  .mk (some 68) (.move (.tmp 67)) none,
  .mk (some 69) (.move (.tmp 12)) (some (68, false)),
  .mk (some 70) (.call ⟨(.builtin .len), #[(.tmp 69)], #[34]⟩) (some (68, false)),
  .mk (some 71) (.move (.tmp 10)) (some (68, false)),
  .mk (some 72) (.call ⟨(.builtin .len), #[(.tmp 71)], #[34]⟩) (some (68, false)),
  .mk (some 73) (.binOp .neq 3 (.tmp 70) (.tmp 72) 3) (some (68, false)),
  .mk (some 74) (.pick (.tmp 68) (.const (.bool true)) (.tmp 73)) none]
def r5_10 : List PS := [.mk (some 6) (.assign (.const (.bool false))) none]
def r5_11 : List PS := [.mk (some 75) (.move (.tmp 12)) none,
  .mk (some 76) (.call ⟨(.builtin .len), #[(.tmp 75)], #[34]⟩) none,
  .mk (some 77) (.move (.const (.int .i64 0))) none]
def r5_12 : List PS := [.mk (some 78) (.binOp .lss 3 (.tmp 77) (.tmp 76) 3) none]
def r5_13 : List PS := [.mk (some 79) (.move (.tmp 77)) none,
  .mk (some 14) (.assign (.tmp 79)) none]
def r5_14 : List PS := [.mk (some 80) (.move (.tmp 12)) none,
  .mk (some 81) (.move (.tmp 14)) none,
  .mk (some 82) (.indexAddr 34 (.tmp 80) (.tmp 81)) none,
  .mk (some 83) (.load 4 (.tmp 82)) none,
  .mk (some 84) (.move (.tmp 8)) none,
  .mk (some 85) (.move (.tmp 14)) none,
  .mk (some 86) (.indexAddr 34 (.tmp 84) (.tmp 85)) none,
  .mk (some 87) (.load 4 (.tmp 86)) none,
  .mk (some 88) (.move (.tmp 87)) none,
  .mk (some 89) (.move (.tmp 10)) (some (88, false)),
  .mk (some 90) (.move (.tmp 14)) (some (88, false)),
  .mk (some 91) (.indexAddr 34 (.tmp 89) (.tmp 90)) (some (88, false)),
  .mk (some 92) (.load 4 (.tmp 91)) (some (88, false)),
  .mk (some 93) (.pick (.tmp 88) (.const (.bool true)) (.tmp 92)) none,
  .mk (some 94) (.binOp .neq 4 (.tmp 83) (.tmp 93) 4) none]
def r5_15 : List PS := [.mk (some 6) (.assign (.const (.bool false))) none]
def r5_16 : List PS := [.mk (some 95) (.binOp .add 3 (.tmp 77) (.const (.int .i64 1)) 3) none,
  .mk (some 77) (.move (.tmp 95)) none]
def r5_17 : List PS := [.mk (some 96) (.call ⟨(.value (.func 6)), #[], #[]⟩) none,
  .mk (some 6) (.assign (.tmp 96)) none]
def c5 : PC := (.seq (.reg false r5_0) (.seq (.seq (.reg false r5_1) (.cond (.tmp 17) (.seq (.reg false r5_2) .ret) .skip)) (.seq (.reg false r5_3) (.seq (.reg false r5_4) (.seq (.reg false r5_5) (.seq (.reg false r5_6) (.seq (.seq (.reg false r5_7) (.cond (.tmp 48) (.seq (.reg false r5_8) .ret) .skip)) (.seq (.seq (.reg false r5_9) (.cond (.tmp 74) (.seq (.reg false r5_10) .ret) .skip)) (.seq (.seq (.reg false r5_11) (.block 0 (.loop (.seq (.reg false r5_12) (.seq (.cond (.tmp 78) .skip (.exit 0)) (.seq (.block 1 (.seq (.reg false r5_13) (.seq (.reg true r5_14) (.cond (.tmp 94) (.seq (.reg false r5_15) .ret) .skip)))) (.reg false r5_16))))))) (.seq (.reg false r5_17) .ret))))))))))
theorem e5 {args : List PV} {h : Heap} {K : PV → Heap → Prop} (hl : args.length = 3) (s : pwp Try.prog [] c5 (fin Try.prog [.tmp 6] h K) (slots0 (olds args)) h) : CanP Try.prog 5 args h K :=
  can_of2 (n := 97) mixed Try.func5 rfl (by kernel_rfl) (by rw [hl]; kernel_rfl) rfl (by kernel_rfl) s
end Go.Proofs.Ythoggjdkabhpkaa
