/-
  The functions that the statements of this seat reach, told in short, and facts on their types. Printed by this project's own program.
  Conditions: none.
-/
import Derived.Test.YtcgaphmndnmfdaaGreatPmO
import Derived.Test.YtcgaphmndnmfdaaGreatProg
import Derived.KernelRfl
namespace Go.Proofs.YtcgaphmndnmfdaaGreat
open Go.Pm
set_option maxRecDepth 100000
set_option linter.unusedVariables false
theorem mixed : Tryz.prog.follows .mixedOrders = true := by kernel_rfl
theorem ft : (tag Tryz.prog 3 = some false) ∧
    (tsz Tryz.prog 3 = some 1) ∧
    (und Tryz.prog 3 = true) ∧
    (ik Tryz.prog 3 = some .i64) ∧
    (kd Tryz.prog 3 = none) ∧
    (esz Tryz.prog 3 = none) ∧
    (zc Tryz.prog 3 = some [.int .i64 0]) ∧
    (ars Tryz.prog 3 = none) ∧
    (tag Tryz.prog 4 = some false) ∧
    (tsz Tryz.prog 4 = some 1) ∧
    (und Tryz.prog 4 = true) ∧
    (ik Tryz.prog 4 = none) ∧
    (kd Tryz.prog 4 = some 3) ∧
    (esz Tryz.prog 4 = none) ∧
    (zc Tryz.prog 4 = some [.bool false]) ∧
    (ars Tryz.prog 4 = none) ∧
    (tag Tryz.prog 9 = some false) ∧
    (tsz Tryz.prog 9 = some 1) ∧
    (und Tryz.prog 9 = true) ∧
    (ik Tryz.prog 9 = none) ∧
    (kd Tryz.prog 9 = some 0) ∧
    (esz Tryz.prog 9 = none) ∧
    (zc Tryz.prog 9 = some [.str ⟨#[]⟩]) ∧
    (ars Tryz.prog 9 = none) ∧
    (tag Tryz.prog 22 = some false) ∧
    (tsz Tryz.prog 22 = some 1) ∧
    (und Tryz.prog 22 = true) ∧
    (ik Tryz.prog 22 = none) ∧
    (kd Tryz.prog 22 = some 1) ∧
    (esz Tryz.prog 22 = some 1) ∧
    (elt Tryz.prog 22 = some 3) ∧
    (zc Tryz.prog 22 = some [.nils]) ∧
    (ars Tryz.prog 22 = none) ∧
    (eli Tryz.prog 22 = some (1, 8, [.int .i64 0])) ∧
    (tag Tryz.prog 24 = some false) ∧
    (tsz Tryz.prog 24 = some 1) ∧
    (und Tryz.prog 24 = true) ∧
    (ik Tryz.prog 24 = none) ∧
    (kd Tryz.prog 24 = some 1) ∧
    (esz Tryz.prog 24 = some 2) ∧
    (elt Tryz.prog 24 = some 33) ∧
    (zc Tryz.prog 24 = some [.nils]) ∧
    (ars Tryz.prog 24 = none) ∧
    (eli Tryz.prog 24 = some (2, 16, [.int .i64 0, .int .i64 0])) ∧
    (tag Tryz.prog 26 = some false) ∧
    (tsz Tryz.prog 26 = some 1) ∧
    (und Tryz.prog 26 = true) ∧
    (ik Tryz.prog 26 = none) ∧
    (kd Tryz.prog 26 = some 2) ∧
    (esz Tryz.prog 26 = none) ∧
    (zc Tryz.prog 26 = some [.nilp]) ∧
    (ars Tryz.prog 26 = none) ∧
    (tag Tryz.prog 28 = some false) ∧
    (tsz Tryz.prog 28 = some 1) ∧
    (und Tryz.prog 28 = true) ∧
    (ik Tryz.prog 28 = none) ∧
    (kd Tryz.prog 28 = some 2) ∧
    (esz Tryz.prog 28 = none) ∧
    (zc Tryz.prog 28 = some [.nilp]) ∧
    (ars Tryz.prog 28 = none) ∧
    (tag Tryz.prog 30 = some false) ∧
    (tsz Tryz.prog 30 = some 1) ∧
    (und Tryz.prog 30 = true) ∧
    (ik Tryz.prog 30 = none) ∧
    (kd Tryz.prog 30 = some 1) ∧
    (esz Tryz.prog 30 = some 2) ∧
    (elt Tryz.prog 30 = some 34) ∧
    (zc Tryz.prog 30 = some [.nils]) ∧
    (ars Tryz.prog 30 = none) ∧
    (eli Tryz.prog 30 = some (2, 16, [.int .i64 0, .int .i64 0])) ∧
    (tag Tryz.prog 33 = some true) ∧
    (tsz Tryz.prog 33 = some 2) ∧
    (und Tryz.prog 33 = true) ∧
    (ik Tryz.prog 33 = none) ∧
    (kd Tryz.prog 33 = some 14) ∧
    (esz Tryz.prog 33 = none) ∧
    (zc Tryz.prog 33 = some [.int .i64 0, .int .i64 0]) ∧
    (ars Tryz.prog 33 = none) ∧
    (fld Tryz.prog 33 0 = some (0, false, 1)) ∧
    (fld Tryz.prog 33 1 = some (1, false, 1)) ∧
    (plc Tryz.prog 33 = some fun i => [(0, 1), (1, 1)][i]?) ∧
    (tag Tryz.prog 34 = some true) ∧
    (tsz Tryz.prog 34 = some 2) ∧
    (und Tryz.prog 34 = true) ∧
    (ik Tryz.prog 34 = none) ∧
    (kd Tryz.prog 34 = some 14) ∧
    (esz Tryz.prog 34 = none) ∧
    (zc Tryz.prog 34 = some [.int .i64 0, .int .i64 0]) ∧
    (ars Tryz.prog 34 = none) ∧
    (fld Tryz.prog 34 0 = some (0, false, 1)) ∧
    (fld Tryz.prog 34 1 = some (1, false, 1)) ∧
    (plc Tryz.prog 34 = some fun i => [(0, 1), (1, 1)][i]?) ∧
    (tag Tryz.prog 39 = some false) ∧
    (tsz Tryz.prog 39 = some 1) ∧
    (und Tryz.prog 39 = true) ∧
    (ik Tryz.prog 39 = none) ∧
    (kd Tryz.prog 39 = none) ∧
    (esz Tryz.prog 39 = none) ∧
    (zc Tryz.prog 39 = some [.nilf]) ∧
    (ars Tryz.prog 39 = none) ∧
    (tag Tryz.prog 43 = some false) ∧
    (tsz Tryz.prog 43 = some 1) ∧
    (und Tryz.prog 43 = true) ∧
    (ik Tryz.prog 43 = none) ∧
    (kd Tryz.prog 43 = some 2) ∧
    (esz Tryz.prog 43 = none) ∧
    (zc Tryz.prog 43 = some [.nilp]) ∧
    (ars Tryz.prog 43 = none) ∧
    (tag Tryz.prog 45 = some true) ∧
    (tsz Tryz.prog 45 = some 3) ∧
    (und Tryz.prog 45 = true) ∧
    (ik Tryz.prog 45 = none) ∧
    (kd Tryz.prog 45 = none) ∧
    (esz Tryz.prog 45 = none) ∧
    (zc Tryz.prog 45 = some [.nilp, .nilp, .nils]) ∧
    (ars Tryz.prog 45 = none) ∧
    (fld Tryz.prog 45 0 = some (0, false, 1)) ∧
    (fld Tryz.prog 45 1 = some (1, false, 1)) ∧
    (fld Tryz.prog 45 2 = some (2, false, 1)) ∧
    (plc Tryz.prog 45 = some fun i => [(0, 1), (1, 1), (2, 1)][i]?) ∧
    (tag Tryz.prog 46 = some false) ∧
    (tsz Tryz.prog 46 = some 1) ∧
    (und Tryz.prog 46 = true) ∧
    (ik Tryz.prog 46 = none) ∧
    (kd Tryz.prog 46 = some 1) ∧
    (esz Tryz.prog 46 = some 2) ∧
    (elt Tryz.prog 46 = some 49) ∧
    (zc Tryz.prog 46 = some [.nils]) ∧
    (ars Tryz.prog 46 = none) ∧
    (eli Tryz.prog 46 = some (2, 16, [.int .i64 0, .int .i64 0])) ∧
    (tag Tryz.prog 49 = some true) ∧
    (tsz Tryz.prog 49 = some 2) ∧
    (und Tryz.prog 49 = true) ∧
    (ik Tryz.prog 49 = none) ∧
    (kd Tryz.prog 49 = some 14) ∧
    (esz Tryz.prog 49 = none) ∧
    (zc Tryz.prog 49 = some [.int .i64 0, .int .i64 0]) ∧
    (ars Tryz.prog 49 = none) ∧
    (fld Tryz.prog 49 0 = some (0, false, 1)) ∧
    (fld Tryz.prog 49 1 = some (1, false, 1)) ∧
    (plc Tryz.prog 49 = some fun i => [(0, 1), (1, 1)][i]?) ∧
    (tag Tryz.prog 50 = some false) ∧
    (tsz Tryz.prog 50 = some 1) ∧
    (und Tryz.prog 50 = true) ∧
    (ik Tryz.prog 50 = none) ∧
    (kd Tryz.prog 50 = some 2) ∧
    (esz Tryz.prog 50 = none) ∧
    (zc Tryz.prog 50 = some [.nilp]) ∧
    (ars Tryz.prog 50 = none) ∧
    (tag Tryz.prog 53 = some false) ∧
    (tsz Tryz.prog 53 = some 1) ∧
    (und Tryz.prog 53 = true) ∧
    (ik Tryz.prog 53 = none) ∧
    (kd Tryz.prog 53 = some 2) ∧
    (esz Tryz.prog 53 = none) ∧
    (zc Tryz.prog 53 = some [.nilp]) ∧
    (ars Tryz.prog 53 = none) ∧
    (tag Tryz.prog 54 = some false) ∧
    (tsz Tryz.prog 54 = some 1) ∧
    (und Tryz.prog 54 = true) ∧
    (ik Tryz.prog 54 = some .i64) ∧
    (kd Tryz.prog 54 = none) ∧
    (esz Tryz.prog 54 = none) ∧
    (zc Tryz.prog 54 = some [.int .i64 0]) ∧
    (ars Tryz.prog 54 = none) ∧
    (tag Tryz.prog 57 = some false) ∧
    (tsz Tryz.prog 57 = some 1) ∧
    (und Tryz.prog 57 = true) ∧
    (ik Tryz.prog 57 = none) ∧
    (kd Tryz.prog 57 = some 1) ∧
    (esz Tryz.prog 57 = some 3) ∧
    (elt Tryz.prog 57 = some 99) ∧
    (zc Tryz.prog 57 = some [.nils]) ∧
    (ars Tryz.prog 57 = none) ∧
    (eli Tryz.prog 57 = some (3, 24, [.int .i64 0, .int .i64 0, .int .i64 0])) ∧
    (tag Tryz.prog 60 = some true) ∧
    (tsz Tryz.prog 60 = some 2) ∧
    (und Tryz.prog 60 = true) ∧
    (ik Tryz.prog 60 = none) ∧
    (kd Tryz.prog 60 = none) ∧
    (esz Tryz.prog 60 = none) ∧
    (zc Tryz.prog 60 = some [.nilp, .nilp]) ∧
    (ars Tryz.prog 60 = none) ∧
    (fld Tryz.prog 60 0 = some (0, false, 1)) ∧
    (fld Tryz.prog 60 1 = some (1, false, 1)) ∧
    (plc Tryz.prog 60 = some fun i => [(0, 1), (1, 1)][i]?) ∧
    (tag Tryz.prog 62 = some true) ∧
    (tsz Tryz.prog 62 = some 2) ∧
    (und Tryz.prog 62 = true) ∧
    (ik Tryz.prog 62 = none) ∧
    (kd Tryz.prog 62 = none) ∧
    (esz Tryz.prog 62 = none) ∧
    (zc Tryz.prog 62 = some [.nilp, .nilp]) ∧
    (ars Tryz.prog 62 = none) ∧
    (fld Tryz.prog 62 0 = some (0, true, 2)) ∧
    (plc Tryz.prog 62 = some fun i => [(0, 2)][i]?) ∧
    (tag Tryz.prog 64 = some true) ∧
    (tsz Tryz.prog 64 = some 1) ∧
    (und Tryz.prog 64 = true) ∧
    (ik Tryz.prog 64 = none) ∧
    (kd Tryz.prog 64 = none) ∧
    (esz Tryz.prog 64 = none) ∧
    (zc Tryz.prog 64 = some [.nilp]) ∧
    (ars Tryz.prog 64 = none) ∧
    (fld Tryz.prog 64 0 = some (0, false, 1)) ∧
    (plc Tryz.prog 64 = some fun i => [(0, 1)][i]?) ∧
    (tag Tryz.prog 66 = some true) ∧
    (tsz Tryz.prog 66 = some 1) ∧
    (und Tryz.prog 66 = true) ∧
    (ik Tryz.prog 66 = none) ∧
    (kd Tryz.prog 66 = none) ∧
    (esz Tryz.prog 66 = none) ∧
    (zc Tryz.prog 66 = some [.nilp]) ∧
    (ars Tryz.prog 66 = none) ∧
    (fld Tryz.prog 66 0 = some (0, true, 1)) ∧
    (plc Tryz.prog 66 = some fun i => [(0, 1)][i]?) ∧
    (tag Tryz.prog 84 = some false) ∧
    (tsz Tryz.prog 84 = some 1) ∧
    (und Tryz.prog 84 = true) ∧
    (ik Tryz.prog 84 = none) ∧
    (kd Tryz.prog 84 = none) ∧
    (esz Tryz.prog 84 = none) ∧
    (zc Tryz.prog 84 = some [.nilf]) ∧
    (ars Tryz.prog 84 = none) ∧
    (tag Tryz.prog 86 = some true) ∧
    (tsz Tryz.prog 86 = some 5) ∧
    (und Tryz.prog 86 = true) ∧
    (ik Tryz.prog 86 = none) ∧
    (kd Tryz.prog 86 = none) ∧
    (esz Tryz.prog 86 = none) ∧
    (zc Tryz.prog 86 = some [.nilp, .int .i64 0, .int .i64 0, .nils, .nils]) ∧
    (ars Tryz.prog 86 = none) ∧
    (fld Tryz.prog 86 0 = some (0, false, 1)) ∧
    (fld Tryz.prog 86 1 = some (1, true, 2)) ∧
    (fld Tryz.prog 86 2 = some (3, false, 1)) ∧
    (fld Tryz.prog 86 3 = some (4, false, 1)) ∧
    (plc Tryz.prog 86 = some fun i => [(0, 1), (1, 2), (3, 1), (4, 1)][i]?) ∧
    (tag Tryz.prog 88 = some false) ∧
    (tsz Tryz.prog 88 = some 1) ∧
    (und Tryz.prog 88 = true) ∧
    (ik Tryz.prog 88 = none) ∧
    (kd Tryz.prog 88 = some 1) ∧
    (esz Tryz.prog 88 = some 128) ∧
    (elt Tryz.prog 88 = some 94) ∧
    (zc Tryz.prog 88 = some [.nils]) ∧
    (ars Tryz.prog 88 = none) ∧
    (eli Tryz.prog 88 = some (128, 1024, List.replicate 128 (.int .i64 0))) ∧
    (tag Tryz.prog 90 = some true) ∧
    (tsz Tryz.prog 90 = some 2) ∧
    (und Tryz.prog 90 = true) ∧
    (ik Tryz.prog 90 = none) ∧
    (kd Tryz.prog 90 = none) ∧
    (esz Tryz.prog 90 = none) ∧
    (zc Tryz.prog 90 = some [.nils, .nils]) ∧
    (ars Tryz.prog 90 = none) ∧
    (fld Tryz.prog 90 0 = some (0, false, 1)) ∧
    (fld Tryz.prog 90 1 = some (1, false, 1)) ∧
    (plc Tryz.prog 90 = some fun i => [(0, 1), (1, 1)][i]?) ∧
    (tag Tryz.prog 92 = some true) ∧
    (tsz Tryz.prog 92 = some 4) ∧
    (und Tryz.prog 92 = true) ∧
    (ik Tryz.prog 92 = none) ∧
    (kd Tryz.prog 92 = none) ∧
    (esz Tryz.prog 92 = none) ∧
    (zc Tryz.prog 92 = some [.nils, .nils, .int .i64 0, .bool false]) ∧
    (ars Tryz.prog 92 = none) ∧
    (fld Tryz.prog 92 0 = some (0, true, 2)) ∧
    (fld Tryz.prog 92 1 = some (2, false, 1)) ∧
    (fld Tryz.prog 92 2 = some (3, false, 1)) ∧
    (plc Tryz.prog 92 = some fun i => [(0, 2), (2, 1), (3, 1)][i]?) ∧
    (tag Tryz.prog 94 = some true) ∧
    (tsz Tryz.prog 94 = some 128) ∧
    (und Tryz.prog 94 = true) ∧
    (ik Tryz.prog 94 = none) ∧
    (kd Tryz.prog 94 = some 266) ∧
    (esz Tryz.prog 94 = none) ∧
    (zc Tryz.prog 94 = some (List.replicate 128 (.int .i64 0))) ∧
    (ars Tryz.prog 94 = some (128, 1, false)) ∧
    (plc Tryz.prog 94 = some fun i => some (i * 1, 1)) ∧
    (tag Tryz.prog 99 = some true) ∧
    (tsz Tryz.prog 99 = some 3) ∧
    (und Tryz.prog 99 = true) ∧
    (ik Tryz.prog 99 = none) ∧
    (kd Tryz.prog 99 = some 16) ∧
    (esz Tryz.prog 99 = none) ∧
    (zc Tryz.prog 99 = some [.int .i64 0, .int .i64 0, .int .i64 0]) ∧
    (ars Tryz.prog 99 = none) ∧
    (fld Tryz.prog 99 0 = some (0, false, 1)) ∧
    (fld Tryz.prog 99 1 = some (1, false, 1)) ∧
    (fld Tryz.prog 99 2 = some (2, false, 1)) ∧
    (plc Tryz.prog 99 = some fun i => [(0, 1), (1, 1), (2, 1)][i]?) ∧
    (tag Tryz.prog 109 = some false) ∧
    (tsz Tryz.prog 109 = some 1) ∧
    (und Tryz.prog 109 = true) ∧
    (ik Tryz.prog 109 = none) ∧
    (kd Tryz.prog 109 = some 1) ∧
    (esz Tryz.prog 109 = some 1) ∧
    (elt Tryz.prog 109 = some 22) ∧
    (zc Tryz.prog 109 = some [.nils]) ∧
    (ars Tryz.prog 109 = none) ∧
    (eli Tryz.prog 109 = some (1, 24, [.nils])) ∧
    (tag Tryz.prog 119 = some false) ∧
    (tsz Tryz.prog 119 = some 1) ∧
    (und Tryz.prog 119 = true) ∧
    (ik Tryz.prog 119 = none) ∧
    (kd Tryz.prog 119 = some 1) ∧
    (esz Tryz.prog 119 = some 5) ∧
    (elt Tryz.prog 119 = some 123) ∧
    (zc Tryz.prog 119 = some [.nils]) ∧
    (ars Tryz.prog 119 = none) ∧
    (eli Tryz.prog 119 = some (5, 40, [.int .i64 0, .int .i64 0, .int .i64 0, .int .i64 0, .int .i64 0])) ∧
    (tag Tryz.prog 121 = some true) ∧
    (tsz Tryz.prog 121 = some 4) ∧
    (und Tryz.prog 121 = true) ∧
    (ik Tryz.prog 121 = none) ∧
    (kd Tryz.prog 121 = some 18) ∧
    (esz Tryz.prog 121 = none) ∧
    (zc Tryz.prog 121 = some [.int .i64 0, .int .i64 0, .int .i64 0, .int .i64 0]) ∧
    (ars Tryz.prog 121 = some (4, 1, false)) ∧
    (plc Tryz.prog 121 = some fun i => some (i * 1, 1)) ∧
    (tag Tryz.prog 123 = some true) ∧
    (tsz Tryz.prog 123 = some 5) ∧
    (und Tryz.prog 123 = true) ∧
    (ik Tryz.prog 123 = none) ∧
    (kd Tryz.prog 123 = none) ∧
    (esz Tryz.prog 123 = none) ∧
    (zc Tryz.prog 123 = some [.int .i64 0, .int .i64 0, .int .i64 0, .int .i64 0, .int .i64 0]) ∧
    (ars Tryz.prog 123 = none) ∧
    (fld Tryz.prog 123 0 = some (0, false, 1)) ∧
    (fld Tryz.prog 123 1 = some (1, true, 4)) ∧
    (plc Tryz.prog 123 = some fun i => [(0, 1), (1, 4)][i]?) ∧
    (tag Tryz.prog 124 = some false) ∧
    (tsz Tryz.prog 124 = some 1) ∧
    (und Tryz.prog 124 = true) ∧
    (ik Tryz.prog 124 = none) ∧
    (kd Tryz.prog 124 = some 1) ∧
    (esz Tryz.prog 124 = some 3) ∧
    (elt Tryz.prog 124 = some 127) ∧
    (zc Tryz.prog 124 = some [.nils]) ∧
    (ars Tryz.prog 124 = none) ∧
    (eli Tryz.prog 124 = some (3, 24, [.int .i64 0, .int .i64 0, .int .i64 0])) ∧
    (tag Tryz.prog 127 = some true) ∧
    (tsz Tryz.prog 127 = some 3) ∧
    (und Tryz.prog 127 = true) ∧
    (ik Tryz.prog 127 = none) ∧
    (kd Tryz.prog 127 = some 16) ∧
    (esz Tryz.prog 127 = none) ∧
    (zc Tryz.prog 127 = some [.int .i64 0, .int .i64 0, .int .i64 0]) ∧
    (ars Tryz.prog 127 = none) ∧
    (fld Tryz.prog 127 0 = some (0, false, 1)) ∧
    (fld Tryz.prog 127 1 = some (1, false, 1)) ∧
    (fld Tryz.prog 127 2 = some (2, false, 1)) ∧
    (plc Tryz.prog 127 = some fun i => [(0, 1), (1, 1), (2, 1)][i]?) ∧
    (tag Tryz.prog 128 = some false) ∧
    (tsz Tryz.prog 128 = some 1) ∧
    (und Tryz.prog 128 = true) ∧
    (ik Tryz.prog 128 = none) ∧
    (kd Tryz.prog 128 = some 1) ∧
    (esz Tryz.prog 128 = some 3) ∧
    (elt Tryz.prog 128 = some 131) ∧
    (zc Tryz.prog 128 = some [.nils]) ∧
    (ars Tryz.prog 128 = none) ∧
    (eli Tryz.prog 128 = some (3, 24, [.int .i64 0, .int .i64 0, .int .i64 0])) ∧
    (tag Tryz.prog 131 = some true) ∧
    (tsz Tryz.prog 131 = some 3) ∧
    (und Tryz.prog 131 = true) ∧
    (ik Tryz.prog 131 = none) ∧
    (kd Tryz.prog 131 = some 16) ∧
    (esz Tryz.prog 131 = none) ∧
    (zc Tryz.prog 131 = some [.int .i64 0, .int .i64 0, .int .i64 0]) ∧
    (ars Tryz.prog 131 = none) ∧
    (fld Tryz.prog 131 0 = some (0, false, 1)) ∧
    (fld Tryz.prog 131 1 = some (1, false, 1)) ∧
    (fld Tryz.prog 131 2 = some (2, false, 1)) ∧
    (plc Tryz.prog 131 = some fun i => [(0, 1), (1, 1), (2, 1)][i]?) ∧
    (tag Tryz.prog 132 = some false) ∧
    (tsz Tryz.prog 132 = some 1) ∧
    (und Tryz.prog 132 = true) ∧
    (ik Tryz.prog 132 = none) ∧
    (kd Tryz.prog 132 = some 1) ∧
    (esz Tryz.prog 132 = some 2) ∧
    (elt Tryz.prog 132 = some 135) ∧
    (zc Tryz.prog 132 = some [.nils]) ∧
    (ars Tryz.prog 132 = none) ∧
    (eli Tryz.prog 132 = some (2, 16, [.int .i64 0, .int .i64 0])) ∧
    (tag Tryz.prog 135 = some true) ∧
    (tsz Tryz.prog 135 = some 2) ∧
    (und Tryz.prog 135 = true) ∧
    (ik Tryz.prog 135 = none) ∧
    (kd Tryz.prog 135 = some 14) ∧
    (esz Tryz.prog 135 = none) ∧
    (zc Tryz.prog 135 = some [.int .i64 0, .int .i64 0]) ∧
    (ars Tryz.prog 135 = none) ∧
    (fld Tryz.prog 135 0 = some (0, false, 1)) ∧
    (fld Tryz.prog 135 1 = some (1, false, 1)) ∧
    (plc Tryz.prog 135 = some fun i => [(0, 1), (1, 1)][i]?) ∧
    (tag Tryz.prog 138 = some false) ∧
    (tsz Tryz.prog 138 = some 1) ∧
    (und Tryz.prog 138 = true) ∧
    (ik Tryz.prog 138 = none) ∧
    (kd Tryz.prog 138 = some 2) ∧
    (esz Tryz.prog 138 = none) ∧
    (zc Tryz.prog 138 = some [.nilp]) ∧
    (ars Tryz.prog 138 = none) ∧
    (tag Tryz.prog 141 = some true) ∧
    (tsz Tryz.prog 141 = some 4) ∧
    (und Tryz.prog 141 = true) ∧
    (ik Tryz.prog 141 = none) ∧
    (kd Tryz.prog 141 = none) ∧
    (esz Tryz.prog 141 = none) ∧
    (zc Tryz.prog 141 = some [.nils, .nils, .nils, .nils]) ∧
    (ars Tryz.prog 141 = none) ∧
    (fld Tryz.prog 141 0 = some (0, false, 1)) ∧
    (fld Tryz.prog 141 1 = some (1, false, 1)) ∧
    (fld Tryz.prog 141 2 = some (2, false, 1)) ∧
    (fld Tryz.prog 141 3 = some (3, false, 1)) ∧
    (plc Tryz.prog 141 = some fun i => [(0, 1), (1, 1), (2, 1), (3, 1)][i]?) ∧
    (tag Tryz.prog 144 = some true) ∧
    (tsz Tryz.prog 144 = some 4) ∧
    (und Tryz.prog 144 = true) ∧
    (ik Tryz.prog 144 = none) ∧
    (kd Tryz.prog 144 = some 19) ∧
    (esz Tryz.prog 144 = none) ∧
    (zc Tryz.prog 144 = some [.bool false, .bool false, .bool false, .bool false]) ∧
    (ars Tryz.prog 144 = some (4, 1, false)) ∧
    (plc Tryz.prog 144 = some fun i => some (i * 1, 1)) ∧
    (tag Tryz.prog 149 = some false) ∧
    (tsz Tryz.prog 149 = some 1) ∧
    (und Tryz.prog 149 = true) ∧
    (ik Tryz.prog 149 = none) ∧
    (kd Tryz.prog 149 = some 2) ∧
    (esz Tryz.prog 149 = none) ∧
    (zc Tryz.prog 149 = some [.nilp]) ∧
    (ars Tryz.prog 149 = none) ∧
    (tag Tryz.prog 162 = some false) ∧
    (tsz Tryz.prog 162 = some 1) ∧
    (und Tryz.prog 162 = true) ∧
    (ik Tryz.prog 162 = some .u64) ∧
    (kd Tryz.prog 162 = none) ∧
    (esz Tryz.prog 162 = none) ∧
    (zc Tryz.prog 162 = some [.int .u64 0]) ∧
    (ars Tryz.prog 162 = none) ∧
    (tag Tryz.prog 165 = some true) ∧
    (tsz Tryz.prog 165 = some 2) ∧
    (und Tryz.prog 165 = true) ∧
    (ik Tryz.prog 165 = none) ∧
    (kd Tryz.prog 165 = some 14) ∧
    (esz Tryz.prog 165 = none) ∧
    (zc Tryz.prog 165 = some [.int .i64 0, .int .i64 0]) ∧
    (ars Tryz.prog 165 = none) ∧
    (fld Tryz.prog 165 0 = some (0, false, 1)) ∧
    (fld Tryz.prog 165 1 = some (1, false, 1)) ∧
    (plc Tryz.prog 165 = some fun i => [(0, 1), (1, 1)][i]?) ∧
    (tag Tryz.prog 166 = some true) ∧
    (tsz Tryz.prog 166 = some 6) ∧
    (und Tryz.prog 166 = true) ∧
    (ik Tryz.prog 166 = none) ∧
    (kd Tryz.prog 166 = none) ∧
    (esz Tryz.prog 166 = none) ∧
    (zc Tryz.prog 166 = some [.int .i64 0, .int .i64 0, .int .i64 0, .int .i64 0, .int .i64 0, .int .i64 0]) ∧
    (ars Tryz.prog 166 = some (3, 2, true)) ∧
    (plc Tryz.prog 166 = some fun i => some (i * 2, 2)) ∧
    (tag Tryz.prog 169 = some true) ∧
    (tsz Tryz.prog 169 = some 2) ∧
    (und Tryz.prog 169 = true) ∧
    (ik Tryz.prog 169 = none) ∧
    (kd Tryz.prog 169 = some 14) ∧
    (esz Tryz.prog 169 = none) ∧
    (zc Tryz.prog 169 = some [.int .i64 0, .int .i64 0]) ∧
    (ars Tryz.prog 169 = none) ∧
    (fld Tryz.prog 169 0 = some (0, false, 1)) ∧
    (fld Tryz.prog 169 1 = some (1, false, 1)) ∧
    (plc Tryz.prog 169 = some fun i => [(0, 1), (1, 1)][i]?) := by
  refine ⟨?_, ?_, ?_, ?_, ?_, ?_, ?_, ?_, ?_, ?_, ?_, ?_, ?_, ?_, ?_, ?_, ?_, ?_, ?_, ?_, ?_, ?_, ?_, ?_, ?_, ?_, ?_, ?_, ?_, ?_, ?_, ?_, ?_, ?_, ?_, ?_, ?_, ?_, ?_, ?_, ?_, ?_, ?_, ?_, ?_, ?_, ?_, ?_, ?_, ?_, ?_, ?_, ?_, ?_, ?_, ?_, ?_, ?_, ?_, ?_, ?_, ?_, ?_, ?_, ?_, ?_, ?_, ?_, ?_, ?_, ?_, ?_, ?_, ?_, ?_, ?_, ?_, ?_, ?_, ?_, ?_, ?_, ?_, ?_, ?_, ?_, ?_, ?_, ?_, ?_, ?_, ?_, ?_, ?_, ?_, ?_, ?_, ?_, ?_, ?_, ?_, ?_, ?_, ?_, ?_, ?_, ?_, ?_, ?_, ?_, ?_, ?_, ?_, ?_, ?_, ?_, ?_, ?_, ?_, ?_, ?_, ?_, ?_, ?_, ?_, ?_, ?_, ?_, ?_, ?_, ?_, ?_, ?_, ?_, ?_, ?_, ?_, ?_, ?_, ?_, ?_, ?_, ?_, ?_, ?_, ?_, ?_, ?_, ?_, ?_, ?_, ?_, ?_, ?_, ?_, ?_, ?_, ?_, ?_, ?_, ?_, ?_, ?_, ?_, ?_, ?_, ?_, ?_, ?_, ?_, ?_, ?_, ?_, ?_, ?_, ?_, ?_, ?_, ?_, ?_, ?_, ?_, ?_, ?_, ?_, ?_, ?_, ?_, ?_, ?_, ?_, ?_, ?_, ?_, ?_, ?_, ?_, ?_, ?_, ?_, ?_, ?_, ?_, ?_, ?_, ?_, ?_, ?_, ?_, ?_, ?_, ?_, ?_, ?_, ?_, ?_, ?_, ?_, ?_, ?_, ?_, ?_, ?_, ?_, ?_, ?_, ?_, ?_, ?_, ?_, ?_, ?_, ?_, ?_, ?_, ?_, ?_, ?_, ?_, ?_, ?_, ?_, ?_, ?_, ?_, ?_, ?_, ?_, ?_, ?_, ?_, ?_, ?_, ?_, ?_, ?_, ?_, ?_, ?_, ?_, ?_, ?_, ?_, ?_, ?_, ?_, ?_, ?_, ?_, ?_, ?_, ?_, ?_, ?_, ?_, ?_, ?_, ?_, ?_, ?_, ?_, ?_, ?_, ?_, ?_, ?_, ?_, ?_, ?_, ?_, ?_, ?_, ?_, ?_, ?_, ?_, ?_, ?_, ?_, ?_, ?_, ?_, ?_, ?_, ?_, ?_, ?_, ?_, ?_, ?_, ?_, ?_, ?_, ?_, ?_, ?_, ?_, ?_, ?_, ?_, ?_, ?_, ?_, ?_, ?_, ?_, ?_, ?_, ?_, ?_, ?_, ?_, ?_, ?_, ?_, ?_, ?_, ?_, ?_, ?_, ?_, ?_, ?_, ?_, ?_, ?_, ?_, ?_, ?_, ?_, ?_, ?_, ?_, ?_, ?_, ?_, ?_, ?_, ?_, ?_, ?_, ?_, ?_, ?_, ?_, ?_, ?_, ?_, ?_, ?_, ?_, ?_, ?_, ?_, ?_, ?_, ?_, ?_, ?_, ?_, ?_, ?_, ?_, ?_, ?_, ?_, ?_, ?_, ?_, ?_, ?_, ?_, ?_, ?_, ?_, ?_, ?_, ?_, ?_, ?_, ?_, ?_, ?_, ?_, ?_, ?_, ?_, ?_, ?_, ?_, ?_, ?_, ?_, ?_, ?_, ?_, ?_, ?_, ?_, ?_, ?_, ?_, ?_, ?_, ?_, ?_, ?_, ?_, ?_, ?_, ?_, ?_, ?_, ?_, ?_, ?_, ?_, ?_, ?_, ?_, ?_, ?_, ?_, ?_, ?_, ?_, ?_, ?_, ?_, ?_, ?_, ?_, ?_, ?_, ?_, ?_, ?_, ?_, ?_, ?_, ?_, ?_, ?_, ?_, ?_, ?_, ?_, ?_, ?_, ?_, ?_, ?_, ?_⟩ <;> kernel_rfl
variable {args : List PV} {h : Heap} {K : PV → Heap → Prop}
/-! ### (*naskh.props.Props).made: function 85 -/
def r85_0 : List PS := [.mk (some 2) (.assign (.const (.bool false))) none]
def r85_1 : List PS := [.mk (some 3) (.move (.tmp 0)) none,
  .mk (some 4) (.binOp .neq 26 (.tmp 3) (.const (.pointer none)) 26) none,
  .mk (some 5) (.move (.tmp 4)) none,
  .mk (some 6) (.move (.tmp 0)) (some (5, true)),
  .mk (some 7) (.nilCheck (.tmp 6)) (some (5, true)),
  .mk (some 8) (.fieldAddr 62 (.tmp 7) 0) (some (5, true)),
  .mk (some 9) (.fieldAddr 60 (.tmp 8) 0) (some (5, true)),
  .mk (some 10) (.load 53 (.tmp 9)) (some (5, true)),
  .mk (some 11) (.binOp .neq 53 (.tmp 10) (.const (.pointer none)) 53) (some (5, true)),
  .mk (some 12) (.pick (.tmp 5) (.tmp 11) (.const (.bool false))) none,
  .mk (some 2) (.assign (.tmp 12)) none]
def c85 : PC := (.seq (.reg false r85_0) (.seq (.reg false r85_1) .ret))
theorem e85 (hl : args.length = 1) (s : pwp Tryz.prog [] c85 (fin Tryz.prog [.tmp 2] h K) (slots0 (olds args)) h) : CanP Tryz.prog 85 args h K :=
  can_of2 (n := 13) mixed Tryz.func85 rfl (by kernel_rfl) (by rw [hl]; kernel_rfl) rfl (by kernel_rfl) s
/-! ### naskh.props.code: function 86 -/
def r86_0 : List PS := [.mk (some 2) (.assign (.const (.bool false))) none]
def r86_1 : List PS := [.mk (some 3) (.move (.tmp 0)) none,
  .mk (some 4) (.binOp .geq 3 (.tmp 3) (.const (.int .i64 0)) 3) none,
  .mk (some 5) (.move (.tmp 4)) none,
  .mk (some 6) (.move (.tmp 0)) (some (5, true)),
  .mk (some 7) (.binOp .leq 3 (.tmp 6) (.const (.int .i64 1114111)) 3) (some (5, true)),
  .mk (some 8) (.pick (.tmp 5) (.tmp 7) (.const (.bool false))) none,
  .mk (some 2) (.assign (.tmp 8)) none]
def c86 : PC := (.seq (.reg false r86_0) (.seq (.reg false r86_1) .ret))
theorem e86 (hl : args.length = 1) (s : pwp Tryz.prog [] c86 (fin Tryz.prog [.tmp 2] h K) (slots0 (olds args)) h) : CanP Tryz.prog 86 args h K :=
  can_of2 (n := 9) mixed Tryz.func86 rfl (by kernel_rfl) (by rw [hl]; kernel_rfl) rfl (by kernel_rfl) s
/-! ### (*naskh.trie.Table).has: function 118 -/
def r118_0 : List PS := [.mk (some 4) (.assign (.const (.bool false))) none]
def r118_1 : List PS := [.mk (some 5) (.move (.tmp 0)) none,
  .mk (some 6) (.binOp .neq 53 (.tmp 5) (.const (.pointer none)) 53) none,
  .mk (some 7) (.move (.tmp 6)) none,
  .mk (some 8) (.move (.tmp 0)) (some (7, true)),
  .mk (some 9) (.nilCheck (.tmp 8)) (some (7, true)),
  .mk (some 10) (.fieldAddr 92 (.tmp 9) 2) (some (7, true)),
  .mk (some 11) (.load 4 (.tmp 10)) (some (7, true)),
  .mk (some 12) (.pick (.tmp 7) (.tmp 11) (.const (.bool false))) none,
  .mk (some 13) (.move (.tmp 12)) none,
  .mk (some 14) (.move (.tmp 1)) (some (13, true)),
  .mk (some 15) (.binOp .geq 3 (.tmp 14) (.const (.int .i64 0)) 3) (some (13, true)),
  .mk (some 16) (.pick (.tmp 13) (.tmp 15) (.const (.bool false))) none,
  .mk (some 17) (.move (.tmp 16)) none,
  .mk (some 18) (.move (.tmp 1)) (some (17, true)),
  .mk (some 19) (.binOp .leq 3 (.tmp 18) (.const (.int .i64 1114111)) 3) (some (17, true)),
  .mk (some 20) (.pick (.tmp 17) (.tmp 19) (.const (.bool false))) none,
  .mk (some 4) (.assign (.tmp 20)) none]
def c118 : PC := (.seq (.reg false r118_0) (.seq (.reg false r118_1) .ret))
theorem e118 (hl : args.length = 2) (s : pwp Tryz.prog [] c118 (fin Tryz.prog [.tmp 4] h K) (slots0 (olds args)) h) : CanP Tryz.prog 118 args h K :=
  can_of2 (n := 21) mixed Tryz.func118 rfl (by kernel_rfl) (by rw [hl]; kernel_rfl) rfl (by kernel_rfl) s
/-! ### (*naskh.trie.stages).at: function 119 -/
def r119_0 : List PS := [.mk (some 4) (.assign (.const (.int .i64 0))) none]
def r119_1 : List PS := [.mk (some 5) (.move (.tmp 0)) none,
  .mk (some 6) (.nilCheck (.tmp 5)) none,
  .mk (some 7) (.fieldAddr 90 (.tmp 6) 1) none,
  .mk (some 8) (.load 88 (.tmp 7)) none,
  .mk (some 9) (.move (.tmp 0)) none,
  .mk (some 10) (.nilCheck (.tmp 9)) none,
  .mk (some 11) (.fieldAddr 90 (.tmp 10) 0) none,
  .mk (some 12) (.load 22 (.tmp 11)) none,
  .mk (some 13) (.move (.tmp 1)) none,
  .mk (some 14) (.binOp .shr 3 (.tmp 13) (.const (.int .u64 7)) 162) none,
  .mk (some 15) (.indexAddr 22 (.tmp 12) (.tmp 14)) none,
  .mk (some 16) (.load 3 (.tmp 15)) none,
  .mk (some 17) (.move (.tmp 1)) none,
  .mk (some 18) (.binOp .and 3 (.tmp 17) (.const (.int .i64 127)) 3) none,
  .mk (some 19) (.indexAddr 88 (.tmp 8) (.tmp 16)) none,
  .mk (some 20) (.indexAddr 94 (.tmp 19) (.tmp 18)) none,
  .mk (some 21) (.load 3 (.tmp 20)) none,
  .mk (some 4) (.assign (.tmp 21)) none]
def c119 : PC := (.seq (.reg false r119_0) (.seq (.reg true r119_1) .ret))
theorem e119 (hl : args.length = 2) (s : pwp Tryz.prog [] c119 (fin Tryz.prog [.tmp 4] h K) (slots0 (olds args)) h) : CanP Tryz.prog 119 args h K :=
  can_of2 (n := 22) mixed Tryz.func119 rfl (by kernel_rfl) (by rw [hl]; kernel_rfl) rfl (by kernel_rfl) s
/-! ### (*naskh.trie.Table).Get: function 87 -/
def r87_0 : List PS := [.mk (some 4) (.assign (.const (.int .i64 0))) none]
def r87_1 : List PS := [.mk (some 6) (.move (.tmp 0)) none,
  .mk (some 7) (.move (.tmp 1)) none,
  .mk (some 8) (.call ⟨(.value (.func 118)), #[(.tmp 6), (.tmp 7)], #[53, 3]⟩) none,
  .mk (some 5) (.assign (.tmp 8)) none]
def r87_2 : List PS := [.mk (some 9) (.move (.tmp 0)) none,
  .mk (some 10) (.nilCheck (.tmp 9)) none,
  .mk (some 11) (.fieldAddr 92 (.tmp 10) 0) none,
  .mk (some 12) (.move (.tmp 1)) none,
  .mk (some 13) (.call ⟨(.value (.func 119)), #[(.tmp 11), (.tmp 12)], #[90, 3]⟩) none,
  .mk (some 4) (.assign (.tmp 13)) none]
def r87_3 : List PS := [.mk (some 15) (.move (.tmp 0)) none,
  .mk (some 16) (.binOp .eql 53 (.tmp 15) (.const (.pointer none)) 53) none,
  .mk (some 14) (.assign (.tmp 16)) none]
def r87_4 : List PS := [.mk (some 4) (.assign (.const (.int .i64 0))) none]
def r87_5 : List PS := [.mk (some 17) (.move (.tmp 0)) none,
  .mk (some 18) (.nilCheck (.tmp 17)) none,
  .mk (some 19) (.fieldAddr 92 (.tmp 18) 1) none,
  .mk (some 20) (.load 3 (.tmp 19)) none,
  .mk (some 4) (.assign (.tmp 20)) none]
def c87 : PC := (.seq (.reg false r87_0) (.seq (.block 0 (.seq (.reg false r87_1) (.cond (.tmp 5) (.seq (.reg false r87_2) .ret) (.seq (.reg false r87_3) (.cond (.tmp 14) (.seq (.reg false r87_4) .ret) .skip))))) (.seq (.reg false r87_5) .ret)))
theorem e87 (hl : args.length = 2) (s : pwp Tryz.prog [] c87 (fin Tryz.prog [.tmp 4] h K) (slots0 (olds args)) h) : CanP Tryz.prog 87 args h K :=
  can_of2 (n := 21) mixed Tryz.func87 rfl (by kernel_rfl) (by rw [hl]; kernel_rfl) rfl (by kernel_rfl) s
/-! ### (*naskh.props.Props).Class: function 45 -/
def r45_0 : List PS := [.mk (some 4) (.assign (.const (.int .i64 0))) none]
def r45_1 : List PS := [.mk (some 5) (.move (.tmp 0)) none,
  .mk (some 6) (.call ⟨(.value (.func 85)), #[(.tmp 5)], #[26]⟩) none,
  .mk (some 7) (.unOp .not 4 (.tmp 6)) none,
  .mk (some 8) (.move (.tmp 7)) none,
  .mk (some 9) (.move (.tmp 1)) (some (8, false)),
  .mk (some 10) (.call ⟨(.value (.func 86)), #[(.tmp 9)], #[3]⟩) (some (8, false)),
  .mk (some 11) (.unOp .not 4 (.tmp 10)) (some (8, false)),
  .mk (some 12) (.pick (.tmp 8) (.const (.bool true)) (.tmp 11)) none]
def r45_2 : List PS := [.mk (some 4) (.assign (.const (.int .i64 13))) none]
def r45_3 : List PS := [.mk (some 13) (.move (.tmp 0)) none,
  .mk (some 14) (.nilCheck (.tmp 13)) none,
  .mk (some 15) (.fieldAddr 62 (.tmp 14) 0) none,
  .mk (some 16) (.fieldAddr 60 (.tmp 15) 0) none,
  .mk (some 17) (.load 53 (.tmp 16)) none,
  .mk (some 18) (.move (.tmp 1)) none,
  .mk (some 19) (.call ⟨(.value (.func 87)), #[(.tmp 17), (.tmp 18)], #[53, 3]⟩) none,
  .mk (some 4) (.assign (.tmp 19)) none]
def c45 : PC := (.seq (.reg false r45_0) (.seq (.seq (.reg false r45_1) (.cond (.tmp 12) (.seq (.reg false r45_2) .ret) .skip)) (.seq (.reg false r45_3) .ret)))
theorem e45 (hl : args.length = 2) (s : pwp Tryz.prog [] c45 (fin Tryz.prog [.tmp 4] h K) (slots0 (olds args)) h) : CanP Tryz.prog 45 args h K :=
  can_of2 (n := 20) mixed Tryz.func45 rfl (by kernel_rfl) (by rw [hl]; kernel_rfl) rfl (by kernel_rfl) s
/-! ### naskh.para.Split: function 18 -/
def r18_0 : List PS := [.mk (some 4) (.assign (.const (.slice none 0 0))) none]
def r18_1 : List PS := [.mk (some 5) (.assign (.const (.slice none 0 0))) none]
def r18_2 : List PS := [.mk (some 10) (.build 49 #[]) none,
  .mk (some 6) (.alloc 49) none,
  .mk none (.store 49 (.tmp 6) (.tmp 10)) none]
def r18_3 : List PS := [.mk (some 11) (.move (.tmp 1)) none,
  .mk (some 12) (.call ⟨(.builtin .len), #[(.tmp 11)], #[22]⟩) none,
  .mk (some 13) (.move (.const (.int .i64 0))) none]
def r18_4 : List PS := [.mk (some 14) (.binOp .lss 3 (.tmp 13) (.tmp 12) 3) none]
def r18_5 : List PS := [.mk (some 15) (.move (.tmp 13)) none,
  .mk (some 16) (.indexAddr 22 (.tmp 11) (.tmp 13)) none,
  .mk (some 17) (.load 3 (.tmp 16)) none,
  .mk (some 7) (.assign (.tmp 15)) none,
  .mk (some 8) (.assign (.tmp 17)) none]
def r18_6 : List PS := [.mk (some 18) (.move (.tmp 7)) none,
  .mk (some 19) (.binOp .add 3 (.tmp 18) (.const (.int .i64 1)) 3) none,
  .mk (some 20) (.fieldAddr 49 (.tmp 6) 1) none,
  .mk none (.store 3 (.tmp 20) (.tmp 19)) none]
def r18_7 : List PS := [.mk (some 21) (.move (.tmp 8)) none,
  .mk (some 22) (.binOp .eql 3 (.tmp 21) (.const (.int .i64 13)) 3) none,
  .mk (some 23) (.move (.tmp 22)) none,
  .mk (some 24) (.move (.tmp 7)) (some (23, true)),
  .mk (some 25) (.binOp .add 3 (.tmp 24) (.const (.int .i64 1)) 3) (some (23, true)),
  .mk (some 26) (.move (.tmp 1)) (some (23, true)),
  .mk (some 27) (.call ⟨(.builtin .len), #[(.tmp 26)], #[22]⟩) (some (23, true)),
  .mk (some 28) (.binOp .lss 3 (.tmp 25) (.tmp 27) 3) (some (23, true)),
  .mk (some 29) (.pick (.tmp 23) (.tmp 28) (.const (.bool false))) none,
  .mk (some 30) (.move (.tmp 29)) none,
  .mk (some 31) (.move (.tmp 1)) (some (30, true)),
  .mk (some 32) (.move (.tmp 7)) (some (30, true)),
  .mk (some 33) (.binOp .add 3 (.tmp 32) (.const (.int .i64 1)) 3) (some (30, true)),
  .mk (some 34) (.indexAddr 22 (.tmp 31) (.tmp 33)) (some (30, true)),
  .mk (some 35) (.load 3 (.tmp 34)) (some (30, true)),
  .mk (some 36) (.binOp .eql 3 (.tmp 35) (.const (.int .i64 10)) 3) (some (30, true)),
  .mk (some 37) (.pick (.tmp 30) (.tmp 36) (.const (.bool false))) none,
  .mk (some 9) (.assign (.tmp 37)) none]
def r18_8 : List PS := [.mk (some 38) (.move (.tmp 0)) none,
  .mk (some 39) (.move (.tmp 8)) none,
  .mk (some 40) (.call ⟨(.value (.func 45)), #[(.tmp 38), (.tmp 39)], #[26, 3]⟩) none,
  .mk (some 41) (.binOp .neq 3 (.tmp 40) (.const (.int .i64 10)) 3) none,
  .mk (some 42) (.move (.tmp 41)) none,
  .mk (some 43) (.move (.tmp 9)) (some (42, false)),
  .mk (some 44) (.pick (.tmp 42) (.const (.bool true)) (.tmp 43)) none]
def r18_9 : List PS := [.mk (some 45) (.move (.tmp 5)) none,
  .mk (some 46) (.load 49 (.tmp 6)) none,
  .mk (some 47) (.buildSlice 46 1 #[(0, (.tmp 46))]) none,
  .mk (some 48) (.call ⟨(.builtin .append), #[(.tmp 45), (.tmp 47)], #[46, 46]⟩) none,
  .mk (some 5) (.assign (.tmp 48)) none]
def r18_10 : List PS := [.mk (some 49) (.move (.tmp 7)) none,
  .mk (some 50) (.binOp .add 3 (.tmp 49) (.const (.int .i64 1)) 3) none,
  .mk (some 51) (.build 49 #[(0, (.tmp 50))]) none,
  .mk none (.store 49 (.tmp 6) (.tmp 51)) none]
def r18_11 : List PS := [.mk (some 52) (.binOp .add 3 (.tmp 13) (.const (.int .i64 1)) 3) none,
  .mk (some 13) (.move (.tmp 52)) none]
def r18_12 : List PS := [.mk (some 53) (.fieldAddr 49 (.tmp 6) 1) none,
  .mk (some 54) (.load 3 (.tmp 53)) none,
  .mk (some 55) (.fieldAddr 49 (.tmp 6) 0) none,
  .mk (some 56) (.load 3 (.tmp 55)) none,
  .mk (some 57) (.binOp .gtr 3 (.tmp 54) (.tmp 56) 3) none]
def r18_13 : List PS := [.mk (some 58) (.move (.tmp 5)) none,
  .mk (some 59) (.load 49 (.tmp 6)) none,
  .mk (some 60) (.buildSlice 46 1 #[(0, (.tmp 59))]) none,
  .mk (some 61) (.call ⟨(.builtin .append), #[(.tmp 58), (.tmp 60)], #[46, 46]⟩) none,
  .mk (some 5) (.assign (.tmp 61)) none]
def r18_14 : List PS := [.mk (some 62) (.move (.tmp 5)) none,
  .mk (some 4) (.assign (.tmp 62)) none]
def c18 : PC := (.seq (.reg false r18_0) (.seq (.reg false r18_1) (.seq (.reg false r18_2) (.seq (.seq (.reg false r18_3) (.block 0 (.loop (.seq (.reg false r18_4) (.seq (.cond (.tmp 14) .skip (.exit 0)) (.seq (.block 1 (.seq (.reg false r18_5) (.seq (.reg false r18_6) (.seq (.reg false r18_7) (.seq (.seq (.reg false r18_8) (.cond (.tmp 44) (.exit 1) .skip)) (.seq (.reg false r18_9) (.reg false r18_10))))))) (.reg false r18_11))))))) (.seq (.seq (.reg false r18_12) (.cond (.tmp 57) (.reg false r18_13) .skip)) (.seq (.reg false r18_14) .ret))))))
theorem e18 (hl : args.length = 2) (s : pwp Tryz.prog [6] c18 (fin Tryz.prog [.tmp 4] h K) (slots0 (olds args)) h) : CanP Tryz.prog 18 args h K :=
  can_of2 (n := 63) mixed Tryz.func18 rfl (by kernel_rfl) (by rw [hl]; kernel_rfl) rfl (by kernel_rfl) s
/-! ### naskh.props.each: function 88 -/
def r88_0 : List PS := [.mk (some 4) (.assign (.const (.slice none 0 0))) none]
def r88_1 : List PS := [.mk (some 8) (.move (.tmp 0)) none,
  .mk (some 9) (.call ⟨(.builtin .len), #[(.tmp 8)], #[22]⟩) none,
  .mk (some 10) (.makeSlice 22 (.tmp 9) (.tmp 9)) none,
  .mk (some 5) (.assign (.tmp 10)) none]
def r88_2 : List PS := [.mk (some 11) (.move (.tmp 0)) none,
  .mk (some 12) (.call ⟨(.builtin .len), #[(.tmp 11)], #[22]⟩) none,
  .mk (some 13) (.move (.const (.int .i64 0))) none]
def r88_3 : List PS := [.mk (some 14) (.binOp .lss 3 (.tmp 13) (.tmp 12) 3) none]
def r88_4 : List PS := [.mk (some 15) (.move (.tmp 13)) none,
  .mk (some 16) (.indexAddr 22 (.tmp 11) (.tmp 13)) none,
  .mk (some 17) (.load 3 (.tmp 16)) none,
  .mk (some 6) (.assign (.tmp 15)) none,
  .mk (some 7) (.assign (.tmp 17)) none]
def r88_5 : List PS := [.mk (some 18) (.move (.tmp 5)) none,
  .mk (some 19) (.move (.tmp 6)) none,
  .mk (some 20) (.move (.tmp 1)) none,
  .mk (some 21) (.move (.tmp 7)) none,
  .mk (some 22) (.call ⟨(.value (.tmp 20)), #[(.tmp 21)], #[3]⟩) none,
  .mk (some 23) (.indexAddr 22 (.tmp 18) (.tmp 19)) none,
  .mk none (.store 3 (.tmp 23) (.tmp 22)) none]
def r88_6 : List PS := [.mk (some 24) (.binOp .add 3 (.tmp 13) (.const (.int .i64 1)) 3) none,
  .mk (some 13) (.move (.tmp 24)) none]
def r88_7 : List PS := [.mk (some 25) (.move (.tmp 5)) none,
  .mk (some 4) (.assign (.tmp 25)) none]
def c88 : PC := (.seq (.reg false r88_0) (.seq (.reg false r88_1) (.seq (.seq (.reg false r88_2) (.block 0 (.loop (.seq (.reg false r88_3) (.seq (.cond (.tmp 14) .skip (.exit 0)) (.seq (.block 1 (.seq (.reg false r88_4) (.reg false r88_5))) (.reg false r88_6))))))) (.seq (.reg false r88_7) .ret))))
theorem e88 (hl : args.length = 2) (s : pwp Tryz.prog [] c88 (fin Tryz.prog [.tmp 4] h K) (slots0 (olds args)) h) : CanP Tryz.prog 88 args h K :=
  can_of2 (n := 26) mixed Tryz.func88 rfl (by kernel_rfl) (by rw [hl]; kernel_rfl) rfl (by kernel_rfl) s
/-! ### (*naskh.props.Props).Classes: function 46 -/
def r46_0 : List PS := [.mk (some 4) (.assign (.const (.slice none 0 0))) none]
def r46_1 : List PS := [.mk (some 5) (.move (.tmp 1)) none,
  .mk (some 6) (.move (.tmp 0)) none,
  .mk (some 7) (.makeFunc (.func 45) #[(.tmp 6)] #[]) none,
  .mk (some 8) (.call ⟨(.value (.func 88)), #[(.tmp 5), (.tmp 7)], #[22, 84]⟩) none,
  .mk (some 4) (.assign (.tmp 8)) none]
def c46 : PC := (.seq (.reg false r46_0) (.seq (.reg false r46_1) .ret))
theorem e46 (hl : args.length = 2) (s : pwp Tryz.prog [] c46 (fin Tryz.prog [.tmp 4] h K) (slots0 (olds args)) h) : CanP Tryz.prog 46 args h K :=
  can_of2 (n := 9) mixed Tryz.func46 rfl (by kernel_rfl) (by rw [hl]; kernel_rfl) rfl (by kernel_rfl) s
/-! ### slices.Grow[[]int,int]: function 116 -/
def r116_0 : List PS := [.mk (some 4) (.assign (.const (.slice none 0 0))) none]
def r116_1 : List PS := [.mk (some 5) (.move (.tmp 1)) none,
  .mk (some 6) (.binOp .lss 3 (.tmp 5) (.const (.int .i64 0)) 3) none]
def r116_2 : List PS := [.mk (some 7) (.makeInterface 9 (.const (.string ⟨#[99, 97, 110, 110, 111, 116, 32, 98, 101, 32, 110, 101, 103, 97, 116, 105, 118, 101]⟩))) none,
  .mk none (.panic (.tmp 7)) none]
def r116_3 : List PS := [.mk (some 8) (.move (.tmp 1)) none,
  .mk (some 9) (.move (.tmp 0)) none,
  .mk (some 10) (.call ⟨(.builtin .cap), #[(.tmp 9)], #[22]⟩) none,
  .mk (some 11) (.move (.tmp 0)) none,
  .mk (some 12) (.call ⟨(.builtin .len), #[(.tmp 11)], #[22]⟩) none,
  .mk (some 13) (.binOp .sub 3 (.tmp 10) (.tmp 12) 3) none,
  .mk (some 14) (.binOp .sub 3 (.tmp 8) (.tmp 13) 3) none,
  .mk (some 1) (.assign (.tmp 14)) none]
def r116_4 : List PS := [.mk (some 15) (.move (.tmp 1)) none,
  .mk (some 16) (.binOp .gtr 3 (.tmp 15) (.const (.int .i64 0)) 3) none]
def r116_5 : List PS := [.mk (some 17) (.move (.tmp 0)) none,
  .mk (some 18) (.move (.tmp 0)) none,
  .mk (some 19) (.call ⟨(.builtin .cap), #[(.tmp 18)], #[22]⟩) none,
  .mk (some 20) (.slice 22 (.tmp 17) none (some (.tmp 19)) none) none,
  .mk (some 21) (.move (.tmp 1)) none,
  .mk (some 22) (.call ⟨(.builtin .append), #[(.tmp 20), (.tmp 21)], #[22, 3]⟩) none,
  .mk (some 23) (.move (.tmp 0)) none,
  .mk (some 24) (.call ⟨(.builtin .len), #[(.tmp 23)], #[22]⟩) none,
  .mk (some 25) (.slice 22 (.tmp 22) none (some (.tmp 24)) none) none,
  .mk (some 0) (.assign (.tmp 25)) none]
def r116_6 : List PS := [.mk (some 26) (.move (.tmp 0)) none,
  .mk (some 4) (.assign (.tmp 26)) none]
def c116 : PC := (.seq (.reg false r116_0) (.seq (.seq (.reg false r116_1) (.cond (.tmp 6) (.reg false r116_2) .skip)) (.seq (.seq (.reg false r116_3) (.seq (.reg false r116_4) (.cond (.tmp 16) (.reg false r116_5) .skip))) (.seq (.reg false r116_6) .ret))))
theorem e116 (hl : args.length = 2) (s : pwp Tryz.prog [] c116 (fin Tryz.prog [.tmp 4] h K) (slots0 (olds args)) h) : CanP Tryz.prog 116 args h K :=
  can_of2 (n := 27) mixed Tryz.func116 rfl (by kernel_rfl) (by rw [hl]; kernel_rfl) rfl (by kernel_rfl) s
/-! ### slices.Concat[[]int,int]: function 70 -/
def r70_0 : List PS := [.mk (some 2) (.assign (.const (.slice none 0 0))) none]
def r70_1 : List PS := [.mk (some 3) (.assign (.const (.int .i64 0))) none]
def r70_2 : List PS := [.mk (some 9) (.move (.tmp 0)) none,
  .mk (some 10) (.call ⟨(.builtin .len), #[(.tmp 9)], #[109]⟩) none,
  .mk (some 11) (.move (.const (.int .i64 0))) none]
def r70_3 : List PS := [.mk (some 12) (.binOp .lss 3 (.tmp 11) (.tmp 10) 3) none]
def r70_4 : List PS := [.mk (some 13) (.indexAddr 109 (.tmp 9) (.tmp 11)) none,
  .mk (some 14) (.load 22 (.tmp 13)) none,
  .mk (some 5) (.assign (.tmp 14)) none]
def r70_5 : List PS := [.mk (some 15) (.move (.tmp 3)) none,
  .mk (some 16) (.move (.tmp 5)) none,
  .mk (some 17) (.call ⟨(.builtin .len), #[(.tmp 16)], #[22]⟩) none,
  .mk (some 18) (.binOp .add 3 (.tmp 15) (.tmp 17) 3) none,
  .mk (some 3) (.assign (.tmp 18)) none]
def r70_6 : List PS := [.mk (some 19) (.move (.tmp 3)) none,
  .mk (some 20) (.binOp .lss 3 (.tmp 19) (.const (.int .i64 0)) 3) none]
def r70_7 : List PS := [.mk (some 21) (.makeInterface 9 (.const (.string ⟨#[108, 101, 110, 32, 111, 117, 116, 32, 111, 102, 32, 114, 97, 110, 103, 101]⟩))) none,
  .mk none (.panic (.tmp 21)) none]
def r70_8 : List PS := [.mk (some 22) (.binOp .add 3 (.tmp 11) (.const (.int .i64 1)) 3) none,
  .mk (some 11) (.move (.tmp 22)) none]
def r70_9 : List PS := [.mk (some 23) (.move (.tmp 3)) none,
  .mk (some 24) (.call ⟨(.value (.func 116)), #[(.const (.slice none 0 0)), (.tmp 23)], #[22, 3]⟩) none,
  .mk (some 6) (.assign (.tmp 24)) none]
def r70_10 : List PS := [.mk (some 25) (.move (.tmp 0)) none,
  .mk (some 26) (.call ⟨(.builtin .len), #[(.tmp 25)], #[109]⟩) none,
  .mk (some 27) (.move (.const (.int .i64 0))) none]
def r70_11 : List PS := [.mk (some 28) (.binOp .lss 3 (.tmp 27) (.tmp 26) 3) none]
def r70_12 : List PS := [.mk (some 29) (.indexAddr 109 (.tmp 25) (.tmp 27)) none,
  .mk (some 30) (.load 22 (.tmp 29)) none,
  .mk (some 8) (.assign (.tmp 30)) none]
def r70_13 : List PS := [.mk (some 31) (.move (.tmp 6)) none,
  .mk (some 32) (.move (.tmp 8)) none,
  .mk (some 33) (.call ⟨(.builtin .append), #[(.tmp 31), (.tmp 32)], #[22, 22]⟩) none,
  .mk (some 6) (.assign (.tmp 33)) none]
def r70_14 : List PS := [.mk (some 34) (.binOp .add 3 (.tmp 27) (.const (.int .i64 1)) 3) none,
  .mk (some 27) (.move (.tmp 34)) none]
def r70_15 : List PS := [.mk (some 35) (.move (.tmp 6)) none,
  .mk (some 2) (.assign (.tmp 35)) none]
def c70 : PC := (.seq (.reg false r70_0) (.seq (.reg false r70_1) (.seq (.seq (.reg false r70_2) (.block 0 (.loop (.seq (.reg false r70_3) (.seq (.cond (.tmp 12) .skip (.exit 0)) (.seq (.block 1 (.seq (.reg false r70_4) (.seq (.reg false r70_5) (.seq (.reg false r70_6) (.cond (.tmp 20) (.reg false r70_7) .skip))))) (.reg false r70_8))))))) (.seq (.reg false r70_9) (.seq (.seq (.reg false r70_10) (.block 2 (.loop (.seq (.reg false r70_11) (.seq (.cond (.tmp 28) .skip (.exit 2)) (.seq (.block 3 (.seq (.reg false r70_12) (.reg false r70_13))) (.reg false r70_14))))))) (.seq (.reg false r70_15) .ret))))))
theorem e70 (hl : args.length = 1) (s : pwp Tryz.prog [] c70 (fin Tryz.prog [.tmp 2] h K) (slots0 (olds args)) h) : CanP Tryz.prog 70 args h K :=
  can_of2 (n := 36) mixed Tryz.func70 rfl (by kernel_rfl) (by rw [hl]; kernel_rfl) rfl (by kernel_rfl) s
/-! ### slices.Index[[]int,int]: function 84 -/
def r84_0 : List PS := [.mk (some 4) (.assign (.const (.int .i64 0))) none]
def r84_1 : List PS := [.mk (some 6) (.move (.tmp 0)) none,
  .mk (some 7) (.call ⟨(.builtin .len), #[(.tmp 6)], #[22]⟩) none,
  .mk (some 8) (.move (.const (.int .i64 0))) none]
def r84_2 : List PS := [.mk (some 9) (.binOp .lss 3 (.tmp 8) (.tmp 7) 3) none]
def r84_3 : List PS := [.mk (some 10) (.move (.tmp 8)) none,
  .mk (some 5) (.assign (.tmp 10)) none]
def r84_4 : List PS := [.mk (some 11) (.move (.tmp 1)) none,
  .mk (some 12) (.move (.tmp 0)) none,
  .mk (some 13) (.move (.tmp 5)) none,
  .mk (some 14) (.indexAddr 22 (.tmp 12) (.tmp 13)) none,
  .mk (some 15) (.load 3 (.tmp 14)) none,
  .mk (some 16) (.binOp .eql 3 (.tmp 11) (.tmp 15) 3) none]
def r84_5 : List PS := [.mk (some 17) (.move (.tmp 5)) none,
  .mk (some 4) (.assign (.tmp 17)) none]
def r84_6 : List PS := [.mk (some 18) (.binOp .add 3 (.tmp 8) (.const (.int .i64 1)) 3) none,
  .mk (some 8) (.move (.tmp 18)) none]
def r84_7 : List PS := [.mk (some 4) (.assign (.const (.int .i64 (-1)))) none]
def c84 : PC := (.seq (.reg false r84_0) (.seq (.seq (.reg false r84_1) (.block 0 (.loop (.seq (.reg false r84_2) (.seq (.cond (.tmp 9) .skip (.exit 0)) (.seq (.block 1 (.seq (.reg false r84_3) (.seq (.reg false r84_4) (.cond (.tmp 16) (.seq (.reg false r84_5) .ret) .skip)))) (.reg false r84_6))))))) (.seq (.reg false r84_7) .ret)))
theorem e84 (hl : args.length = 2) (s : pwp Tryz.prog [] c84 (fin Tryz.prog [.tmp 4] h K) (slots0 (olds args)) h) : CanP Tryz.prog 84 args h K :=
  can_of2 (n := 19) mixed Tryz.func84 rfl (by kernel_rfl) (by rw [hl]; kernel_rfl) rfl (by kernel_rfl) s
/-! ### slices.Contains[[]int,int]: function 44 -/
def r44_0 : List PS := [.mk (some 4) (.assign (.const (.bool false))) none]
def r44_1 : List PS := [.mk (some 5) (.move (.tmp 0)) none,
  .mk (some 6) (.move (.tmp 1)) none,
  .mk (some 7) (.call ⟨(.value (.func 84)), #[(.tmp 5), (.tmp 6)], #[22, 3]⟩) none,
  .mk (some 8) (.binOp .geq 3 (.tmp 7) (.const (.int .i64 0)) 3) none,
  .mk (some 4) (.assign (.tmp 8)) none]
def c44 : PC := (.seq (.reg false r44_0) (.seq (.reg false r44_1) .ret))
theorem e44 (hl : args.length = 2) (s : pwp Tryz.prog [] c44 (fin Tryz.prog [.tmp 4] h K) (slots0 (olds args)) h) : CanP Tryz.prog 44 args h K :=
  can_of2 (n := 9) mixed Tryz.func44 rfl (by kernel_rfl) (by rw [hl]; kernel_rfl) rfl (by kernel_rfl) s
/-! ### naskh.balance.embeds: function 120 -/
def r120_0 : List PS := [.mk (some 2) (.assign (.const (.bool false))) none]
def r120_1 : List PS := [.mk (some 3) (.buildSlice 22 4 #[(0, (.const (.int .i64 14))), (1, (.const (.int .i64 15))), (2, (.const (.int .i64 16))), (3, (.const (.int .i64 17)))]) none,
  .mk (some 4) (.move (.tmp 0)) none,
  .mk (some 5) (.call ⟨(.value (.func 44)), #[(.tmp 3), (.tmp 4)], #[22, 3]⟩) none,
  .mk (some 2) (.assign (.tmp 5)) none]
def c120 : PC := (.seq (.reg false r120_0) (.seq (.reg false r120_1) .ret))
theorem e120 (hl : args.length = 1) (s : pwp Tryz.prog [] c120 (fin Tryz.prog [.tmp 2] h K) (slots0 (olds args)) h) : CanP Tryz.prog 120 args h K :=
  can_of2 (n := 6) mixed Tryz.func120 rfl (by kernel_rfl) (by rw [hl]; kernel_rfl) rfl (by kernel_rfl) s
/-! ### naskh.balance.isolates: function 121 -/
def r121_0 : List PS := [.mk (some 2) (.assign (.const (.bool false))) none]
def r121_1 : List PS := [.mk (some 3) (.buildSlice 22 3 #[(0, (.const (.int .i64 19))), (1, (.const (.int .i64 20))), (2, (.const (.int .i64 21)))]) none,
  .mk (some 4) (.move (.tmp 0)) none,
  .mk (some 5) (.call ⟨(.value (.func 44)), #[(.tmp 3), (.tmp 4)], #[22, 3]⟩) none,
  .mk (some 2) (.assign (.tmp 5)) none]
def c121 : PC := (.seq (.reg false r121_0) (.seq (.reg false r121_1) .ret))
theorem e121 (hl : args.length = 1) (s : pwp Tryz.prog [] c121 (fin Tryz.prog [.tmp 2] h K) (slots0 (olds args)) h) : CanP Tryz.prog 121 args h K :=
  can_of2 (n := 6) mixed Tryz.func121 rfl (by kernel_rfl) (by rw [hl]; kernel_rfl) rfl (by kernel_rfl) s
/-! ### (*naskh.balance.walk).last: function 134 -/
def r134_0 : List PS := [.mk (some 2) (.assign (.const (.int .i64 0))) none,
  .mk (some 3) (.assign (.const (.bool false))) none]
def r134_1 : List PS := [.mk (some 4) (.move (.tmp 0)) none,
  .mk (some 5) (.nilCheck (.tmp 4)) none,
  .mk (some 6) (.fieldAddr 141 (.tmp 5) 1) none,
  .mk (some 7) (.load 22 (.tmp 6)) none,
  .mk (some 8) (.call ⟨(.builtin .len), #[(.tmp 7)], #[22]⟩) none,
  .mk (some 9) (.binOp .eql 3 (.tmp 8) (.const (.int .i64 0)) 3) none]
def r134_2 : List PS := [.mk (some 2) (.assign (.const (.int .i64 0))) none,
  .mk (some 3) (.assign (.const (.bool false))) none]
def r134_3 : List PS := [.mk (some 10) (.move (.tmp 0)) none,
  .mk (some 11) (.nilCheck (.tmp 10)) none,
  .mk (some 12) (.fieldAddr 141 (.tmp 11) 1) none,
  .mk (some 13) (.load 22 (.tmp 12)) none,
  .mk (some 14) (.move (.tmp 0)) none,
  .mk (some 15) (.nilCheck (.tmp 14)) none,
  .mk (some 16) (.fieldAddr 141 (.tmp 15) 1) none,
  .mk (some 17) (.load 22 (.tmp 16)) none,
  .mk (some 18) (.call ⟨(.builtin .len), #[(.tmp 17)], #[22]⟩) none,
  .mk (some 19) (.binOp .sub 3 (.tmp 18) (.const (.int .i64 1)) 3) none,
  .mk (some 20) (.indexAddr 22 (.tmp 13) (.tmp 19)) none,
  .mk (some 21) (.load 3 (.tmp 20)) none,
  .mk (some 2) (.assign (.tmp 21)) none,
  .mk (some 3) (.assign (.const (.bool true))) none]
def c134 : PC := (.seq (.reg false r134_0) (.seq (.seq (.reg false r134_1) (.cond (.tmp 9) (.seq (.reg false r134_2) .ret) .skip)) (.seq (.reg true r134_3) .ret)))
theorem e134 (hl : args.length = 1) (s : pwp Tryz.prog [] c134 (fin Tryz.prog [.tmp 2, .tmp 3] h K) (slots0 (olds args)) h) : CanP Tryz.prog 134 args h K :=
  can_of2 (n := 22) mixed Tryz.func134 rfl (by kernel_rfl) (by rw [hl]; kernel_rfl) rfl (by kernel_rfl) s
/-! ### (*naskh.balance.walk).pop: function 135 -/
def r135_0 : List PS := [.mk (some 2) (.move (.tmp 0)) none,
  .mk (some 3) (.move (.tmp 0)) none,
  .mk (some 4) (.nilCheck (.tmp 3)) none,
  .mk (some 5) (.fieldAddr 141 (.tmp 4) 1) none,
  .mk (some 6) (.load 22 (.tmp 5)) none,
  .mk (some 7) (.move (.tmp 0)) none,
  .mk (some 8) (.nilCheck (.tmp 7)) none,
  .mk (some 9) (.fieldAddr 141 (.tmp 8) 1) none,
  .mk (some 10) (.load 22 (.tmp 9)) none,
  .mk (some 11) (.call ⟨(.builtin .len), #[(.tmp 10)], #[22]⟩) none,
  .mk (some 12) (.binOp .sub 3 (.tmp 11) (.const (.int .i64 1)) 3) none,
  .mk (some 13) (.slice 22 (.tmp 6) none (some (.tmp 12)) none) none,
  .mk (some 14) (.nilCheck (.tmp 2)) none,
  .mk (some 15) (.fieldAddr 141 (.tmp 14) 1) none,
  .mk none (.store 22 (.tmp 15) (.tmp 13)) none]
def c135 : PC := (.reg true r135_0)
theorem e135 (hl : args.length = 1) (s : pwp Tryz.prog [] c135 (fin Tryz.prog [] h K) (slots0 (olds args)) h) : CanP Tryz.prog 135 args h K :=
  can_of2 (n := 16) mixed Tryz.func135 rfl (by kernel_rfl) (by rw [hl]; kernel_rfl) rfl (by kernel_rfl) s
/-! ### (*naskh.balance.walk).endEmbed: function 122 -/
def r122_0 : List PS := [.mk (some 7) (.move (.tmp 0)) none,
  .mk (some 8) (.call ⟨(.value (.func 134)), #[(.tmp 7)], #[138]⟩) none,
  .mk (some 6) (.move (.tmp 8)) none,
  .mk (some 9) (.extract (.tmp 6) 0) none,
  .mk (some 10) (.extract (.tmp 6) 1) none,
  .mk (some 4) (.assign (.tmp 9)) none,
  .mk (some 5) (.assign (.tmp 10)) none]
def r122_1 : List PS := [.mk (some 11) (.move (.tmp 5)) none,
  .mk (some 12) (.move (.tmp 11)) none,
  .mk (some 13) (.move (.tmp 0)) (some (12, true)),
  .mk (some 14) (.nilCheck (.tmp 13)) (some (12, true)),
  .mk (some 15) (.fieldAddr 141 (.tmp 14) 0) (some (12, true)),
  .mk (some 16) (.load 22 (.tmp 15)) (some (12, true)),
  .mk (some 17) (.move (.tmp 4)) (some (12, true)),
  .mk (some 18) (.indexAddr 22 (.tmp 16) (.tmp 17)) (some (12, true)),
  .mk (some 19) (.load 3 (.tmp 18)) (some (12, true)),
  .mk (some 20) (.call ⟨(.value (.func 120)), #[(.tmp 19)], #[3]⟩) (some (12, true)),
  .mk (some 21) (.pick (.tmp 12) (.tmp 20) (.const (.bool false))) none]
def r122_2 : List PS := [.mk (some 22) (.move (.tmp 0)) none,
  .mk (some 23) (.call ⟨(.value (.func 135)), #[(.tmp 22)], #[138]⟩) none]
def r122_3 : List PS := [.mk (some 24) (.move (.tmp 0)) none,
  .mk (some 25) (.move (.tmp 0)) none,
  .mk (some 26) (.nilCheck (.tmp 25)) none,
  .mk (some 27) (.fieldAddr 141 (.tmp 26) 3) none,
  .mk (some 28) (.load 22 (.tmp 27)) none,
  .mk (some 29) (.move (.tmp 1)) none,
  .mk (some 30) (.buildSlice 22 1 #[(0, (.tmp 29))]) none,
  .mk (some 31) (.call ⟨(.builtin .append), #[(.tmp 28), (.tmp 30)], #[22, 22]⟩) none,
  .mk (some 32) (.nilCheck (.tmp 24)) none,
  .mk (some 33) (.fieldAddr 141 (.tmp 32) 3) none,
  .mk none (.store 22 (.tmp 33) (.tmp 31)) none]
def c122 : PC := (.seq (.seq (.reg false r122_0) (.seq (.reg false r122_1) (.cond (.tmp 21) (.seq (.reg false r122_2) .ret) .skip))) (.reg false r122_3))
theorem e122 (hl : args.length = 2) (s : pwp Tryz.prog [] c122 (fin Tryz.prog [] h K) (slots0 (olds args)) h) : CanP Tryz.prog 122 args h K :=
  can_of2 (n := 34) mixed Tryz.func122 rfl (by kernel_rfl) (by rw [hl]; kernel_rfl) rfl (by kernel_rfl) s
/-! ### slices.IndexFunc[[]int,int]: function 117 -/
def r117_0 : List PS := [.mk (some 4) (.assign (.const (.int .i64 0))) none]
def r117_1 : List PS := [.mk (some 6) (.move (.tmp 0)) none,
  .mk (some 7) (.call ⟨(.builtin .len), #[(.tmp 6)], #[22]⟩) none,
  .mk (some 8) (.move (.const (.int .i64 0))) none]
def r117_2 : List PS := [.mk (some 9) (.binOp .lss 3 (.tmp 8) (.tmp 7) 3) none]
def r117_3 : List PS := [.mk (some 10) (.move (.tmp 8)) none,
  .mk (some 5) (.assign (.tmp 10)) none]
def r117_4 : List PS := [.mk (some 11) (.move (.tmp 1)) none,
  .mk (some 12) (.move (.tmp 0)) none,
  .mk (some 13) (.move (.tmp 5)) none,
  .mk (some 14) (.indexAddr 22 (.tmp 12) (.tmp 13)) none,
  .mk (some 15) (.load 3 (.tmp 14)) none,
  .mk (some 16) (.call ⟨(.value (.tmp 11)), #[(.tmp 15)], #[3]⟩) none]
def r117_5 : List PS := [.mk (some 17) (.move (.tmp 5)) none,
  .mk (some 4) (.assign (.tmp 17)) none]
def r117_6 : List PS := [.mk (some 18) (.binOp .add 3 (.tmp 8) (.const (.int .i64 1)) 3) none,
  .mk (some 8) (.move (.tmp 18)) none]
def r117_7 : List PS := [.mk (some 4) (.assign (.const (.int .i64 (-1)))) none]
def c117 : PC := (.seq (.reg false r117_0) (.seq (.seq (.reg false r117_1) (.block 0 (.loop (.seq (.reg false r117_2) (.seq (.cond (.tmp 9) .skip (.exit 0)) (.seq (.block 1 (.seq (.reg false r117_3) (.seq (.reg false r117_4) (.cond (.tmp 16) (.seq (.reg false r117_5) .ret) .skip)))) (.reg false r117_6))))))) (.seq (.reg false r117_7) .ret)))
theorem e117 (hl : args.length = 2) (s : pwp Tryz.prog [] c117 (fin Tryz.prog [.tmp 4] h K) (slots0 (olds args)) h) : CanP Tryz.prog 117 args h K :=
  can_of2 (n := 19) mixed Tryz.func117 rfl (by kernel_rfl) (by rw [hl]; kernel_rfl) rfl (by kernel_rfl) s
/-! ### slices.ContainsFunc[[]int,int]: function 72 -/
def r72_0 : List PS := [.mk (some 4) (.assign (.const (.bool false))) none]
def r72_1 : List PS := [.mk (some 5) (.move (.tmp 0)) none,
  .mk (some 6) (.move (.tmp 1)) none,
  .mk (some 7) (.call ⟨(.value (.func 117)), #[(.tmp 5), (.tmp 6)], #[22, 39]⟩) none,
  .mk (some 8) (.binOp .geq 3 (.tmp 7) (.const (.int .i64 0)) 3) none,
  .mk (some 4) (.assign (.tmp 8)) none]
def c72 : PC := (.seq (.reg false r72_0) (.seq (.reg false r72_1) .ret))
theorem e72 (hl : args.length = 2) (s : pwp Tryz.prog [] c72 (fin Tryz.prog [.tmp 4] h K) (slots0 (olds args)) h) : CanP Tryz.prog 72 args h K :=
  can_of2 (n := 9) mixed Tryz.func72 rfl (by kernel_rfl) (by rw [hl]; kernel_rfl) rfl (by kernel_rfl) s
/-! ### (*naskh.balance.walk).endIsolate$1: function 136 -/
def r136_0 : List PS := [.mk (some 3) (.assign (.const (.bool false))) none]
def r136_1 : List PS := [.mk (some 4) (.load 138 (.tmp 1)) none,
  .mk (some 5) (.nilCheck (.tmp 4)) none,
  .mk (some 6) (.fieldAddr 141 (.tmp 5) 0) none,
  .mk (some 7) (.load 22 (.tmp 6)) none,
  .mk (some 8) (.move (.tmp 0)) none,
  .mk (some 9) (.indexAddr 22 (.tmp 7) (.tmp 8)) none,
  .mk (some 10) (.load 3 (.tmp 9)) none,
  .mk (some 11) (.call ⟨(.value (.func 121)), #[(.tmp 10)], #[3]⟩) none,
  .mk (some 3) (.assign (.tmp 11)) none]
def c136 : PC := (.seq (.reg false r136_0) (.seq (.reg false r136_1) .ret))
theorem e136 (hl : args.length = 2) (s : pwp Tryz.prog [] c136 (fin Tryz.prog [.tmp 3] h K) (slots0 (olds args)) h) : CanP Tryz.prog 136 args h K :=
  can_of2 (n := 12) mixed Tryz.func136 rfl (by kernel_rfl) (by rw [hl]; kernel_rfl) rfl (by kernel_rfl) s
/-! ### (*naskh.balance.walk).endIsolate: function 123 -/
def r123_0 : List PS := [.mk (some 2) (.box 138 (.tmp 0)) none]
def r123_1 : List PS := [.mk (some 7) (.load 138 (.tmp 2)) none,
  .mk (some 8) (.nilCheck (.tmp 7)) none,
  .mk (some 9) (.fieldAddr 141 (.tmp 8) 1) none,
  .mk (some 10) (.load 22 (.tmp 9)) none,
  .mk (some 11) (.makeFunc (.func 136) #[] #[(.tmp 2)]) none,
  .mk (some 12) (.call ⟨(.value (.func 72)), #[(.tmp 10), (.tmp 11)], #[22, 39]⟩) none,
  .mk (some 4) (.assign (.tmp 12)) none]
def r123_2 : List PS := [.mk (some 13) (.move (.tmp 4)) none,
  .mk (some 14) (.unOp .not 4 (.tmp 13)) none]
def r123_3 : List PS := [.mk (some 15) (.load 138 (.tmp 2)) none,
  .mk (some 16) (.load 138 (.tmp 2)) none,
  .mk (some 17) (.nilCheck (.tmp 16)) none,
  .mk (some 18) (.fieldAddr 141 (.tmp 17) 3) none,
  .mk (some 19) (.load 22 (.tmp 18)) none,
  .mk (some 20) (.move (.tmp 1)) none,
  .mk (some 21) (.buildSlice 22 1 #[(0, (.tmp 20))]) none,
  .mk (some 22) (.call ⟨(.builtin .append), #[(.tmp 19), (.tmp 21)], #[22, 22]⟩) none,
  .mk (some 23) (.nilCheck (.tmp 15)) none,
  .mk (some 24) (.fieldAddr 141 (.tmp 23) 3) none,
  .mk none (.store 22 (.tmp 24) (.tmp 22)) none]
def r123_4 : List PS := [.mk (some 26) (.load 138 (.tmp 2)) none,
  .mk (some 27) (.call ⟨(.value (.func 134)), #[(.tmp 26)], #[138]⟩) none,
  .mk (some 25) (.move (.tmp 27)) none,
  .mk (some 28) (.extract (.tmp 25) 0) none,
  .mk (some 29) (.extract (.tmp 25) 1) none,
  .mk (some 5) (.assign (.tmp 28)) none,
  .mk (some 6) (.assign (.tmp 29)) none]
def r123_5 : List PS := [.mk (some 30) (.load 138 (.tmp 2)) none,
  .mk (some 31) (.call ⟨(.value (.func 135)), #[(.tmp 30)], #[138]⟩) none]
def r123_6 : List PS := [.mk (some 32) (.load 138 (.tmp 2)) none,
  .mk (some 33) (.nilCheck (.tmp 32)) none,
  .mk (some 34) (.fieldAddr 141 (.tmp 33) 0) none,
  .mk (some 35) (.load 22 (.tmp 34)) none,
  .mk (some 36) (.move (.tmp 5)) none,
  .mk (some 37) (.indexAddr 22 (.tmp 35) (.tmp 36)) none,
  .mk (some 38) (.load 3 (.tmp 37)) none,
  .mk (some 39) (.call ⟨(.value (.func 121)), #[(.tmp 38)], #[3]⟩) none]
def r123_7 : List PS := [.mk (some 40) (.load 138 (.tmp 2)) none,
  .mk (some 41) (.load 138 (.tmp 2)) none,
  .mk (some 42) (.nilCheck (.tmp 41)) none,
  .mk (some 43) (.fieldAddr 141 (.tmp 42) 2) none,
  .mk (some 44) (.load 22 (.tmp 43)) none,
  .mk (some 45) (.move (.tmp 5)) none,
  .mk (some 46) (.buildSlice 22 1 #[(0, (.tmp 45))]) none,
  .mk (some 47) (.call ⟨(.builtin .append), #[(.tmp 44), (.tmp 46)], #[22, 22]⟩) none,
  .mk (some 48) (.nilCheck (.tmp 40)) none,
  .mk (some 49) (.fieldAddr 141 (.tmp 48) 2) none,
  .mk none (.store 22 (.tmp 49) (.tmp 47)) none]
def c123 : PC := (.seq (.reg false r123_0) (.seq (.reg false r123_1) (.seq (.seq (.reg false r123_2) (.cond (.tmp 14) (.seq (.reg true r123_3) .ret) .skip)) (.block 0 (.loop (.block 1 (.seq (.reg false r123_4) (.seq (.reg false r123_5) (.seq (.seq (.reg false r123_6) (.cond (.tmp 39) .ret .skip)) (.reg true r123_7))))))))))
theorem e123 (hl : args.length = 2) (s : pwp Tryz.prog [15, 40] c123 (fin Tryz.prog [] h K) (slots0 (olds args)) h) : CanP Tryz.prog 123 args h K :=
  can_of2 (n := 50) mixed Tryz.func123 rfl (by kernel_rfl) (by rw [hl]; kernel_rfl) rfl (by kernel_rfl) s
/-! ### naskh.balance.walked: function 89 -/
def r89_0 : List PS := [.mk (some 2) (.assign (.const (.pointer none))) none]
def r89_1 : List PS := [.mk (some 6) (.move (.tmp 0)) none,
  .mk (some 7) (.build 141 #[(0, (.tmp 6))]) none,
  .mk (some 8) (.box 141 (.tmp 7)) none,
  .mk (some 3) (.assign (.tmp 8)) none]
def r89_2 : List PS := [.mk (some 9) (.move (.tmp 0)) none,
  .mk (some 10) (.call ⟨(.builtin .len), #[(.tmp 9)], #[22]⟩) none,
  .mk (some 11) (.move (.const (.int .i64 0))) none]
def r89_3 : List PS := [.mk (some 12) (.binOp .lss 3 (.tmp 11) (.tmp 10) 3) none]
def r89_4 : List PS := [.mk (some 13) (.move (.tmp 11)) none,
  .mk (some 14) (.indexAddr 22 (.tmp 9) (.tmp 11)) none,
  .mk (some 15) (.load 3 (.tmp 14)) none,
  .mk (some 4) (.assign (.tmp 13)) none,
  .mk (some 5) (.assign (.tmp 15)) none]
def r89_5 : List PS := [.mk (some 17) (.move (.tmp 5)) none,
  .mk (some 18) (.call ⟨(.value (.func 120)), #[(.tmp 17)], #[3]⟩) none,
  .mk (some 16) (.assign (.tmp 18)) none]
def r89_6 : List PS := [.mk (some 19) (.move (.tmp 5)) none,
  .mk (some 20) (.call ⟨(.value (.func 121)), #[(.tmp 19)], #[3]⟩) none,
  .mk (some 16) (.assign (.tmp 20)) none]
def r89_7 : List PS := [.mk (some 21) (.move (.tmp 3)) none,
  .mk (some 22) (.move (.tmp 3)) none,
  .mk (some 23) (.nilCheck (.tmp 22)) none,
  .mk (some 24) (.fieldAddr 141 (.tmp 23) 1) none,
  .mk (some 25) (.load 22 (.tmp 24)) none,
  .mk (some 26) (.move (.tmp 4)) none,
  .mk (some 27) (.buildSlice 22 1 #[(0, (.tmp 26))]) none,
  .mk (some 28) (.call ⟨(.builtin .append), #[(.tmp 25), (.tmp 27)], #[22, 22]⟩) none,
  .mk (some 29) (.nilCheck (.tmp 21)) none,
  .mk (some 30) (.fieldAddr 141 (.tmp 29) 1) none,
  .mk none (.store 22 (.tmp 30) (.tmp 28)) none]
def r89_8 : List PS := [.mk (some 32) (.move (.tmp 5)) none,
  .mk (some 33) (.binOp .eql 3 (.tmp 32) (.const (.int .i64 18)) 3) none,
  .mk (some 31) (.assign (.tmp 33)) none]
def r89_9 : List PS := [.mk (some 34) (.move (.tmp 3)) none,
  .mk (some 35) (.move (.tmp 4)) none,
  .mk (some 36) (.call ⟨(.value (.func 122)), #[(.tmp 34), (.tmp 35)], #[138, 3]⟩) none]
def r89_10 : List PS := [.mk (some 38) (.move (.tmp 5)) none,
  .mk (some 39) (.binOp .eql 3 (.tmp 38) (.const (.int .i64 22)) 3) none,
  .mk (some 37) (.assign (.tmp 39)) none]
def r89_11 : List PS := [.mk (some 40) (.move (.tmp 3)) none,
  .mk (some 41) (.move (.tmp 4)) none,
  .mk (some 42) (.call ⟨(.value (.func 123)), #[(.tmp 40), (.tmp 41)], #[138, 3]⟩) none]
def r89_12 : List PS := [.mk (some 43) (.binOp .add 3 (.tmp 11) (.const (.int .i64 1)) 3) none,
  .mk (some 11) (.move (.tmp 43)) none]
def r89_13 : List PS := [.mk (some 44) (.move (.tmp 3)) none,
  .mk (some 2) (.assign (.tmp 44)) none]
def c89 : PC := (.seq (.reg false r89_0) (.seq (.reg false r89_1) (.seq (.seq (.reg false r89_2) (.block 0 (.loop (.seq (.reg false r89_3) (.seq (.cond (.tmp 12) .skip (.exit 0)) (.seq (.block 1 (.seq (.reg false r89_4) (.block 2 (.seq (.seq (.reg false r89_5) (.cond (.tmp 16) .skip (.reg false r89_6))) (.cond (.tmp 16) (.reg false r89_7) (.seq (.reg false r89_8) (.cond (.tmp 31) (.reg false r89_9) (.seq (.reg false r89_10) (.cond (.tmp 37) (.reg false r89_11) .skip))))))))) (.reg false r89_12))))))) (.seq (.reg false r89_13) .ret))))
theorem e89 (hl : args.length = 1) (s : pwp Tryz.prog [8] c89 (fin Tryz.prog [.tmp 2] h K) (slots0 (olds args)) h) : CanP Tryz.prog 89 args h K :=
  can_of2 (n := 45) mixed Tryz.func89 rfl (by kernel_rfl) (by rw [hl]; kernel_rfl) rfl (by kernel_rfl) s
/-! ### cmp.isNaN[int]: function 147 -/
def r147_0 : List PS := [.mk (some 2) (.assign (.const (.bool false))) none]
def r147_1 : List PS := [.mk (some 3) (.move (.tmp 0)) none,
  .mk (some 4) (.move (.tmp 0)) none,
  .mk (some 5) (.binOp .neq 3 (.tmp 3) (.tmp 4) 3) none,
  .mk (some 2) (.assign (.tmp 5)) none]
def c147 : PC := (.seq (.reg false r147_0) (.seq (.reg false r147_1) .ret))
theorem e147 (hl : args.length = 1) (s : pwp Tryz.prog [] c147 (fin Tryz.prog [.tmp 2] h K) (slots0 (olds args)) h) : CanP Tryz.prog 147 args h K :=
  can_of2 (n := 6) mixed Tryz.func147 rfl (by kernel_rfl) (by rw [hl]; kernel_rfl) rfl (by kernel_rfl) s
/-! ### cmp.Less[int]: function 126 -/
def r126_0 : List PS := [.mk (some 4) (.assign (.const (.bool false))) none]
def r126_1 : List PS := [.mk (some 5) (.move (.tmp 0)) none,
  .mk (some 6) (.call ⟨(.value (.func 147)), #[(.tmp 5)], #[3]⟩) none,
  .mk (some 7) (.move (.tmp 6)) none,
  .mk (some 8) (.move (.tmp 1)) (some (7, true)),
  .mk (some 9) (.call ⟨(.value (.func 147)), #[(.tmp 8)], #[3]⟩) (some (7, true)),
  .mk (some 10) (.unOp .not 4 (.tmp 9)) (some (7, true)),
  .mk (some 11) (.pick (.tmp 7) (.tmp 10) (.const (.bool false))) none,
  .mk (some 12) (.move (.tmp 11)) none,
  .mk (some 13) (.move (.tmp 0)) (some (12, false)),
  .mk (some 14) (.move (.tmp 1)) (some (12, false)),
  .mk (some 15) (.binOp .lss 3 (.tmp 13) (.tmp 14) 3) (some (12, false)),
  .mk (some 16) (.pick (.tmp 12) (.const (.bool true)) (.tmp 15)) none,
  .mk (some 4) (.assign (.tmp 16)) none]
def c126 : PC := (.seq (.reg false r126_0) (.seq (.reg false r126_1) .ret))
theorem e126 (hl : args.length = 2) (s : pwp Tryz.prog [] c126 (fin Tryz.prog [.tmp 4] h K) (slots0 (olds args)) h) : CanP Tryz.prog 126 args h K :=
  can_of2 (n := 17) mixed Tryz.func126 rfl (by kernel_rfl) (by rw [hl]; kernel_rfl) rfl (by kernel_rfl) s
/-! ### slices.Sort[[]int,int]: function 90 -/
def r90_0 : List PS := [.mk (some 3) (.move (.tmp 0)) none,
  .mk (some 4) (.call ⟨(.builtin .len), #[(.tmp 3)], #[22]⟩) none,
  .mk (some 2) (.assign (.tmp 4)) none]
def r90_1 : List PS := [.mk (some 5) (.move (.tmp 0)) none,
  .mk (some 6) (.move (.tmp 2)) none,
  .mk (some 7) (.move (.tmp 2)) none,
  .mk (some 8) (.convert 3 162 (.tmp 7)) none,
  .mk (some 9) (.call ⟨(.value (.func 125)), #[(.tmp 8)], #[162]⟩) none,
  .mk (some 10) (.call ⟨(.value (.func 124)), #[(.tmp 5), (.const (.int .i64 0)), (.tmp 6), (.tmp 9)], #[22, 3, 3, 3]⟩) none]
def c90 : PC := (.seq (.reg false r90_0) (.reg false r90_1))
theorem e90 (hl : args.length = 1) (s : pwp Tryz.prog [] c90 (fin Tryz.prog [] h K) (slots0 (olds args)) h) : CanP Tryz.prog 90 args h K :=
  can_of2 (n := 11) mixed Tryz.func90 rfl (by kernel_rfl) (by rw [hl]; kernel_rfl) rfl (by kernel_rfl) s
/-! ### naskh.balance.Open: function 47 -/
def r47_0 : List PS := [.mk (some 2) (.assign (.const (.slice none 0 0))) none]
def r47_1 : List PS := [.mk (some 5) (.move (.tmp 0)) none,
  .mk (some 6) (.call ⟨(.value (.func 89)), #[(.tmp 5)], #[22]⟩) none,
  .mk (some 3) (.assign (.tmp 6)) none]
def r47_2 : List PS := [.mk (some 7) (.move (.tmp 3)) none,
  .mk (some 8) (.nilCheck (.tmp 7)) none,
  .mk (some 9) (.fieldAddr 141 (.tmp 8) 1) none,
  .mk (some 10) (.load 22 (.tmp 9)) none,
  .mk (some 11) (.move (.tmp 3)) none,
  .mk (some 12) (.nilCheck (.tmp 11)) none,
  .mk (some 13) (.fieldAddr 141 (.tmp 12) 2) none,
  .mk (some 14) (.load 22 (.tmp 13)) none,
  .mk (some 15) (.buildSlice 109 2 #[(0, (.tmp 10)), (1, (.tmp 14))]) none,
  .mk (some 16) (.call ⟨(.value (.func 70)), #[(.tmp 15)], #[109]⟩) none,
  .mk (some 4) (.assign (.tmp 16)) none]
def r47_3 : List PS := [.mk (some 17) (.move (.tmp 4)) none,
  .mk (some 18) (.call ⟨(.value (.func 90)), #[(.tmp 17)], #[22]⟩) none]
def r47_4 : List PS := [.mk (some 19) (.move (.tmp 4)) none,
  .mk (some 2) (.assign (.tmp 19)) none]
def c47 : PC := (.seq (.reg false r47_0) (.seq (.reg false r47_1) (.seq (.reg true r47_2) (.seq (.reg false r47_3) (.seq (.reg false r47_4) .ret)))))
theorem e47 (hl : args.length = 1) (s : pwp Tryz.prog [16] c47 (fin Tryz.prog [.tmp 2] h K) (slots0 (olds args)) h) : CanP Tryz.prog 47 args h K :=
  can_of2 (n := 20) mixed Tryz.func47 rfl (by kernel_rfl) (by rw [hl]; kernel_rfl) rfl (by kernel_rfl) s
/-! ### naskh.balance.Loose: function 48 -/
def r48_0 : List PS := [.mk (some 2) (.assign (.const (.slice none 0 0))) none]
def r48_1 : List PS := [.mk (some 3) (.move (.tmp 0)) none,
  .mk (some 4) (.call ⟨(.value (.func 89)), #[(.tmp 3)], #[22]⟩) none,
  .mk (some 5) (.nilCheck (.tmp 4)) none,
  .mk (some 6) (.fieldAddr 141 (.tmp 5) 3) none,
  .mk (some 7) (.load 22 (.tmp 6)) none,
  .mk (some 2) (.assign (.tmp 7)) none]
def c48 : PC := (.seq (.reg false r48_0) (.seq (.reg false r48_1) .ret))
theorem e48 (hl : args.length = 1) (s : pwp Tryz.prog [] c48 (fin Tryz.prog [.tmp 2] h K) (slots0 (olds args)) h) : CanP Tryz.prog 48 args h K :=
  can_of2 (n := 8) mixed Tryz.func48 rfl (by kernel_rfl) (by rw [hl]; kernel_rfl) rfl (by kernel_rfl) s
/-! ### (*naskh.lint.text).part: function 19 -/
def r19_0 : List PS := [.mk (some 3) (.box 49 (.tmp 1)) none,
  .mk (some 4) (.assign (.const (.pointer none))) none]
def r19_1 : List PS := [.mk (some 6) (.move (.tmp 0)) none,
  .mk (some 7) (.nilCheck (.tmp 6)) none,
  .mk (some 8) (.fieldAddr 45 (.tmp 7) 0) none,
  .mk (some 9) (.load 26 (.tmp 8)) none,
  .mk (some 10) (.move (.tmp 0)) none,
  .mk (some 11) (.nilCheck (.tmp 10)) none,
  .mk (some 12) (.fieldAddr 45 (.tmp 11) 2) none,
  .mk (some 13) (.load 22 (.tmp 12)) none,
  .mk (some 14) (.fieldAddr 49 (.tmp 3) 0) none,
  .mk (some 15) (.load 3 (.tmp 14)) none,
  .mk (some 16) (.fieldAddr 49 (.tmp 3) 1) none,
  .mk (some 17) (.load 3 (.tmp 16)) none,
  .mk (some 18) (.slice 22 (.tmp 13) (some (.tmp 15)) (some (.tmp 17)) none) none,
  .mk (some 19) (.call ⟨(.value (.func 46)), #[(.tmp 9), (.tmp 18)], #[26, 22]⟩) none,
  .mk (some 5) (.assign (.tmp 19)) none]
def r19_2 : List PS := [.mk (some 20) (.move (.tmp 0)) none,
  .mk (some 21) (.load 49 (.tmp 3)) none,
  .mk (some 22) (.move (.tmp 5)) none,
  .mk (some 23) (.call ⟨(.value (.func 47)), #[(.tmp 22)], #[22]⟩) none,
  .mk (some 24) (.move (.tmp 5)) none,
  .mk (some 25) (.call ⟨(.value (.func 48)), #[(.tmp 24)], #[22]⟩) none,
  .mk (some 26) (.build 86 #[(0, (.tmp 20)), (1, (.tmp 21)), (2, (.tmp 23)), (3, (.tmp 25))]) none,
  .mk (some 27) (.box 86 (.tmp 26)) none,
  .mk (some 4) (.assign (.tmp 27)) none]
def c19 : PC := (.seq (.reg false r19_0) (.seq (.reg true r19_1) (.seq (.reg true r19_2) .ret)))
theorem e19 (hl : args.length = 2) (s : pwp Tryz.prog [] c19 (fin Tryz.prog [.tmp 4] h K) (slots0 (olds args)) h) : CanP Tryz.prog 19 args h K :=
  can_of2 (n := 28) mixed Tryz.func19 rfl (by kernel_rfl) (by rw [hl]; kernel_rfl) rfl (by kernel_rfl) s
/-! ### naskh.lint.row$1: function 71 -/
def r71_0 : List PS := [.mk (some 2) (.assign (.const (.bool false))) none]
def r71_1 : List PS := [.mk (some 3) (.move (.tmp 0)) none,
  .mk (some 4) (.binOp .neq 3 (.tmp 3) (.const (.int .i64 1600)) 3) none,
  .mk (some 2) (.assign (.tmp 4)) none]
def c71 : PC := (.seq (.reg false r71_0) (.seq (.reg false r71_1) .ret))
theorem e71 (hl : args.length = 1) (s : pwp Tryz.prog [] c71 (fin Tryz.prog [.tmp 2] h K) (slots0 (olds args)) h) : CanP Tryz.prog 71 args h K :=
  can_of2 (n := 5) mixed Tryz.func71 rfl (by kernel_rfl) (by rw [hl]; kernel_rfl) rfl (by kernel_rfl) s
/-! ### naskh.lint.row: function 34 -/
def r34_0 : List PS := [.mk (some 4) (.assign (.const (.bool false))) none]
def r34_1 : List PS := [.mk (some 6) (.move (.tmp 1)) none,
  .mk (some 7) (.binOp .lss 3 (.tmp 6) (.const (.int .i64 2)) 3) none]
def r34_2 : List PS := [.mk (some 4) (.assign (.const (.bool false))) none]
def r34_3 : List PS := [.mk (some 5) (.assign (.func 71)) none]
def r34_4 : List PS := [.mk (some 8) (.move (.tmp 0)) none,
  .mk (some 9) (.move (.tmp 1)) none,
  .mk (some 10) (.binOp .sub 3 (.tmp 9) (.const (.int .i64 2)) 3) none,
  .mk (some 11) (.move (.tmp 1)) none,
  .mk (some 12) (.binOp .add 3 (.tmp 11) (.const (.int .i64 1)) 3) none,
  .mk (some 13) (.slice 22 (.tmp 8) (some (.tmp 10)) (some (.tmp 12)) none) none,
  .mk (some 14) (.move (.tmp 5)) none,
  .mk (some 15) (.call ⟨(.value (.func 72)), #[(.tmp 13), (.tmp 14)], #[22, 39]⟩) none,
  .mk (some 16) (.unOp .not 4 (.tmp 15)) none,
  .mk (some 4) (.assign (.tmp 16)) none]
def c34 : PC := (.seq (.reg false r34_0) (.seq (.seq (.reg false r34_1) (.cond (.tmp 7) (.seq (.reg false r34_2) .ret) .skip)) (.seq (.reg false r34_3) (.seq (.reg false r34_4) .ret))))
theorem e34 (hl : args.length = 2) (s : pwp Tryz.prog [] c34 (fin Tryz.prog [.tmp 4] h K) (slots0 (olds args)) h) : CanP Tryz.prog 34 args h K :=
  can_of2 (n := 17) mixed Tryz.func34 rfl (by kernel_rfl) (by rw [hl]; kernel_rfl) rfl (by kernel_rfl) s
/-! ### (*naskh.lint.text).ill: function 49 -/
def r49_0 : List PS := [.mk (some 4) (.assign (.const (.bool false))) none]
def r49_1 : List PS := [.mk (some 5) (.move (.tmp 0)) none,
  .mk (some 6) (.nilCheck (.tmp 5)) none,
  .mk (some 7) (.fieldAddr 45 (.tmp 6) 2) none,
  .mk (some 8) (.load 22 (.tmp 7)) none,
  .mk (some 9) (.move (.tmp 1)) none,
  .mk (some 10) (.indexAddr 22 (.tmp 8) (.tmp 9)) none,
  .mk (some 11) (.load 3 (.tmp 10)) none,
  .mk (some 12) (.binOp .lss 3 (.tmp 11) (.const (.int .i64 0)) 3) none,
  .mk (some 13) (.move (.tmp 12)) none,
  .mk (some 14) (.move (.tmp 0)) (some (13, false)),
  .mk (some 15) (.nilCheck (.tmp 14)) (some (13, false)),
  .mk (some 16) (.fieldAddr 45 (.tmp 15) 2) (some (13, false)),
  .mk (some 17) (.load 22 (.tmp 16)) (some (13, false)),
  .mk (some 18) (.move (.tmp 1)) (some (13, false)),
  .mk (some 19) (.indexAddr 22 (.tmp 17) (.tmp 18)) (some (13, false)),
  .mk (some 20) (.load 3 (.tmp 19)) (some (13, false)),
  .mk (some 21) (.binOp .gtr 3 (.tmp 20) (.const (.int .i64 1114111)) 3) (some (13, false)),
  .mk (some 22) (.pick (.tmp 13) (.const (.bool true)) (.tmp 21)) none,
  .mk (some 4) (.assign (.tmp 22)) none]
def c49 : PC := (.seq (.reg false r49_0) (.seq (.reg false r49_1) .ret))
theorem e49 (hl : args.length = 2) (s : pwp Tryz.prog [] c49 (fin Tryz.prog [.tmp 4] h K) (slots0 (olds args)) h) : CanP Tryz.prog 49 args h K :=
  can_of2 (n := 23) mixed Tryz.func49 rfl (by kernel_rfl) (by rw [hl]; kernel_rfl) rfl (by kernel_rfl) s
/-! ### slices.isNaN[int]: function 127 -/
def r127_0 : List PS := [.mk (some 2) (.assign (.const (.bool false))) none]
def r127_1 : List PS := [.mk (some 3) (.move (.tmp 0)) none,
  .mk (some 4) (.move (.tmp 0)) none,
  .mk (some 5) (.binOp .neq 3 (.tmp 3) (.tmp 4) 3) none,
  .mk (some 2) (.assign (.tmp 5)) none]
def c127 : PC := (.seq (.reg false r127_0) (.seq (.reg false r127_1) .ret))
theorem e127 (hl : args.length = 1) (s : pwp Tryz.prog [] c127 (fin Tryz.prog [.tmp 2] h K) (slots0 (olds args)) h) : CanP Tryz.prog 127 args h K :=
  can_of2 (n := 6) mixed Tryz.func127 rfl (by kernel_rfl) (by rw [hl]; kernel_rfl) rfl (by kernel_rfl) s
/-! ### slices.BinarySearch[[]int,int]: function 91 -/
def r91_0 : List PS := [.mk (some 4) (.assign (.const (.int .i64 0))) none,
  .mk (some 5) (.assign (.const (.bool false))) none]
def r91_1 : List PS := [.mk (some 10) (.move (.tmp 0)) none,
  .mk (some 11) (.call ⟨(.builtin .len), #[(.tmp 10)], #[22]⟩) none,
  .mk (some 6) (.assign (.tmp 11)) none]
def r91_2 : List PS := [.mk (some 12) (.move (.tmp 6)) none,
  .mk (some 7) (.assign (.const (.int .i64 0))) none,
  .mk (some 8) (.assign (.tmp 12)) none]
def r91_3 : List PS := [.mk (some 13) (.move (.tmp 7)) none,
  .mk (some 14) (.move (.tmp 8)) none,
  .mk (some 15) (.binOp .lss 3 (.tmp 13) (.tmp 14) 3) none]
def r91_4 : List PS := [.mk (some 16) (.move (.tmp 7)) none,
  .mk (some 17) (.move (.tmp 8)) none,
  .mk (some 18) (.binOp .add 3 (.tmp 16) (.tmp 17) 3) none,
  .mk (some 19) (.convert 3 162 (.tmp 18)) none,
  .mk (some 20) (.binOp .shr 162 (.tmp 19) (.const (.int .u64 1)) 162) none,
  .mk (some 21) (.convert 162 3 (.tmp 20)) none,
  .mk (some 9) (.assign (.tmp 21)) none]
def r91_5 : List PS := [.mk (some 22) (.move (.tmp 0)) none,
  .mk (some 23) (.move (.tmp 9)) none,
  .mk (some 24) (.indexAddr 22 (.tmp 22) (.tmp 23)) none,
  .mk (some 25) (.load 3 (.tmp 24)) none,
  .mk (some 26) (.move (.tmp 1)) none,
  .mk (some 27) (.call ⟨(.value (.func 126)), #[(.tmp 25), (.tmp 26)], #[3, 3]⟩) none]
def r91_6 : List PS := [.mk (some 28) (.move (.tmp 9)) none,
  .mk (some 29) (.binOp .add 3 (.tmp 28) (.const (.int .i64 1)) 3) none,
  .mk (some 7) (.assign (.tmp 29)) none]
def r91_7 : List PS := [.mk (some 30) (.move (.tmp 9)) none,
  .mk (some 8) (.assign (.tmp 30)) none]
def r91_8 : List PS := [.mk (some 31) (.move (.tmp 7)) none,
  .mk (some 32) (.move (.tmp 7)) none,
  .mk (some 33) (.move (.tmp 6)) none,
  .mk (some 34) (.binOp .lss 3 (.tmp 32) (.tmp 33) 3) none,
  .mk (some 35) (.move (.tmp 34)) none,
  .mk (some 36) (.move (.tmp 0)) (some (35, true)),
  .mk (some 37) (.move (.tmp 7)) (some (35, true)),
  .mk (some 38) (.indexAddr 22 (.tmp 36) (.tmp 37)) (some (35, true)),
  .mk (some 39) (.load 3 (.tmp 38)) (some (35, true)),
  .mk (some 40) (.move (.tmp 1)) (some (35, true)),
  .mk (some 41) (.binOp .eql 3 (.tmp 39) (.tmp 40) 3) (some (35, true)),
  .mk (some 42) (.move (.tmp 41)) (some (35, true)),
  .mk (some 43) (.move (.tmp 0)) (some (42, false)),
  .mk (some 44) (.move (.tmp 7)) (some (42, false)),
  .mk (some 45) (.indexAddr 22 (.tmp 43) (.tmp 44)) (some (42, false)),
  .mk (some 46) (.load 3 (.tmp 45)) (some (42, false)),
  .mk (some 47) (.call ⟨(.value (.func 127)), #[(.tmp 46)], #[3]⟩) (some (42, false)),
  .mk (some 48) (.move (.tmp 47)) (some (42, false)),
  .mk (some 49) (.move (.tmp 1)) (some (48, true)),
  .mk (some 50) (.call ⟨(.value (.func 127)), #[(.tmp 49)], #[3]⟩) (some (48, true)),
  .mk (some 51) (.pick (.tmp 48) (.tmp 50) (.const (.bool false))) (some (42, false)),
  .mk (some 52) (.pick (.tmp 42) (.const (.bool true)) (.tmp 51)) (some (35, true)),
  .mk (some 53) (.pick (.tmp 35) (.tmp 52) (.const (.bool false))) none,
  .mk (some 4) (.assign (.tmp 31)) none,
  .mk (some 5) (.assign (.tmp 53)) none]
def c91 : PC := (.seq (.reg false r91_0) (.seq (.reg false r91_1) (.seq (.reg false r91_2) (.seq (.block 0 (.loop (.seq (.seq (.reg false r91_3) (.cond (.tmp 15) .skip (.exit 0))) (.block 1 (.seq (.reg false r91_4) (.seq (.reg false r91_5) (.cond (.tmp 27) (.reg false r91_6) (.reg false r91_7)))))))) (.seq (.reg false r91_8) .ret)))))
theorem e91 (hl : args.length = 2) (s : pwp Tryz.prog [] c91 (fin Tryz.prog [.tmp 4, .tmp 5] h K) (slots0 (olds args)) h) : CanP Tryz.prog 91 args h K :=
  can_of2 (n := 54) mixed Tryz.func91 rfl (by kernel_rfl) (by rw [hl]; kernel_rfl) rfl (by kernel_rfl) s
/-! ### (*naskh.lint.part).told: function 50 -/
def r50_0 : List PS := [.mk (some 6) (.assign (.const (.bool false))) none]
def r50_1 : List PS := [.mk (some 10) (.move (.tmp 1)) none,
  .mk (some 11) (.move (.tmp 2)) none,
  .mk (some 12) (.move (.tmp 0)) none,
  .mk (some 13) (.nilCheck (.tmp 12)) none,
  .mk (some 14) (.fieldAddr 86 (.tmp 13) 1) none,
  .mk (some 15) (.fieldAddr 49 (.tmp 14) 0) none,
  .mk (some 16) (.load 3 (.tmp 15)) none,
  .mk (some 17) (.binOp .sub 3 (.tmp 11) (.tmp 16) 3) none,
  .mk (some 18) (.call ⟨(.value (.func 91)), #[(.tmp 10), (.tmp 17)], #[22, 3]⟩) none,
  .mk (some 9) (.move (.tmp 18)) none,
  .mk (some 19) (.extract (.tmp 9) 0) none,
  .mk (some 20) (.extract (.tmp 9) 1) none,
  .mk (some 7) (.assign (.tmp 19)) none,
  .mk (some 8) (.assign (.tmp 20)) none]
def r50_2 : List PS := [.mk (some 21) (.move (.tmp 8)) none,
  .mk (some 6) (.assign (.tmp 21)) none]
def c50 : PC := (.seq (.reg false r50_0) (.seq (.reg false r50_1) (.seq (.reg false r50_2) .ret)))
theorem e50 (hl : args.length = 3) (s : pwp Tryz.prog [] c50 (fin Tryz.prog [.tmp 6] h K) (slots0 (olds args)) h) : CanP Tryz.prog 50 args h K :=
  can_of2 (n := 22) mixed Tryz.func50 rfl (by kernel_rfl) (by rw [hl]; kernel_rfl) rfl (by kernel_rfl) s
/-! ### naskh.api.Letters: function 80 -/
def r80_0 : List PS := [.mk (some 0) (.assign (.const (.slice none 0 0))) none]
def r80_1 : List PS := [.mk (some 1) (.build 121 #[(0, (.const (.int .i64 65152))), (1, (.const (.int .i64 0))), (2, (.const (.int .i64 0))), (3, (.const (.int .i64 0)))]) none,
  .mk (some 2) (.build 123 #[(0, (.const (.int .i64 1569))), (1, (.tmp 1))]) none,
  .mk (some 3) (.build 121 #[(0, (.const (.int .i64 65153))), (1, (.const (.int .i64 65154))), (2, (.const (.int .i64 0))), (3, (.const (.int .i64 0)))]) none,
  .mk (some 4) (.build 123 #[(0, (.const (.int .i64 1570))), (1, (.tmp 3))]) none,
  .mk (some 5) (.build 121 #[(0, (.const (.int .i64 65155))), (1, (.const (.int .i64 65156))), (2, (.const (.int .i64 0))), (3, (.const (.int .i64 0)))]) none,
  .mk (some 6) (.build 123 #[(0, (.const (.int .i64 1571))), (1, (.tmp 5))]) none,
  .mk (some 7) (.build 121 #[(0, (.const (.int .i64 65157))), (1, (.const (.int .i64 65158))), (2, (.const (.int .i64 0))), (3, (.const (.int .i64 0)))]) none,
  .mk (some 8) (.build 123 #[(0, (.const (.int .i64 1572))), (1, (.tmp 7))]) none,
  .mk (some 9) (.build 121 #[(0, (.const (.int .i64 65159))), (1, (.const (.int .i64 65160))), (2, (.const (.int .i64 0))), (3, (.const (.int .i64 0)))]) none,
  .mk (some 10) (.build 123 #[(0, (.const (.int .i64 1573))), (1, (.tmp 9))]) none,
  .mk (some 11) (.build 121 #[(0, (.const (.int .i64 65161))), (1, (.const (.int .i64 65162))), (2, (.const (.int .i64 65163))), (3, (.const (.int .i64 65164)))]) none,
  .mk (some 12) (.build 123 #[(0, (.const (.int .i64 1574))), (1, (.tmp 11))]) none,
  .mk (some 13) (.build 121 #[(0, (.const (.int .i64 65165))), (1, (.const (.int .i64 65166))), (2, (.const (.int .i64 0))), (3, (.const (.int .i64 0)))]) none,
  .mk (some 14) (.build 123 #[(0, (.const (.int .i64 1575))), (1, (.tmp 13))]) none,
  .mk (some 15) (.build 121 #[(0, (.const (.int .i64 65167))), (1, (.const (.int .i64 65168))), (2, (.const (.int .i64 65169))), (3, (.const (.int .i64 65170)))]) none,
  .mk (some 16) (.build 123 #[(0, (.const (.int .i64 1576))), (1, (.tmp 15))]) none,
  .mk (some 17) (.build 121 #[(0, (.const (.int .i64 65171))), (1, (.const (.int .i64 65172))), (2, (.const (.int .i64 0))), (3, (.const (.int .i64 0)))]) none,
  .mk (some 18) (.build 123 #[(0, (.const (.int .i64 1577))), (1, (.tmp 17))]) none,
  .mk (some 19) (.build 121 #[(0, (.const (.int .i64 65173))), (1, (.const (.int .i64 65174))), (2, (.const (.int .i64 65175))), (3, (.const (.int .i64 65176)))]) none,
  .mk (some 20) (.build 123 #[(0, (.const (.int .i64 1578))), (1, (.tmp 19))]) none,
  .mk (some 21) (.build 121 #[(0, (.const (.int .i64 65177))), (1, (.const (.int .i64 65178))), (2, (.const (.int .i64 65179))), (3, (.const (.int .i64 65180)))]) none,
  .mk (some 22) (.build 123 #[(0, (.const (.int .i64 1579))), (1, (.tmp 21))]) none,
  .mk (some 23) (.build 121 #[(0, (.const (.int .i64 65181))), (1, (.const (.int .i64 65182))), (2, (.const (.int .i64 65183))), (3, (.const (.int .i64 65184)))]) none,
  .mk (some 24) (.build 123 #[(0, (.const (.int .i64 1580))), (1, (.tmp 23))]) none,
  .mk (some 25) (.build 121 #[(0, (.const (.int .i64 65185))), (1, (.const (.int .i64 65186))), (2, (.const (.int .i64 65187))), (3, (.const (.int .i64 65188)))]) none,
  .mk (some 26) (.build 123 #[(0, (.const (.int .i64 1581))), (1, (.tmp 25))]) none,
  .mk (some 27) (.build 121 #[(0, (.const (.int .i64 65189))), (1, (.const (.int .i64 65190))), (2, (.const (.int .i64 65191))), (3, (.const (.int .i64 65192)))]) none,
  .mk (some 28) (.build 123 #[(0, (.const (.int .i64 1582))), (1, (.tmp 27))]) none,
  .mk (some 29) (.build 121 #[(0, (.const (.int .i64 65193))), (1, (.const (.int .i64 65194))), (2, (.const (.int .i64 0))), (3, (.const (.int .i64 0)))]) none,
  .mk (some 30) (.build 123 #[(0, (.const (.int .i64 1583))), (1, (.tmp 29))]) none,
  .mk (some 31) (.build 121 #[(0, (.const (.int .i64 65195))), (1, (.const (.int .i64 65196))), (2, (.const (.int .i64 0))), (3, (.const (.int .i64 0)))]) none,
  .mk (some 32) (.build 123 #[(0, (.const (.int .i64 1584))), (1, (.tmp 31))]) none,
  .mk (some 33) (.build 121 #[(0, (.const (.int .i64 65197))), (1, (.const (.int .i64 65198))), (2, (.const (.int .i64 0))), (3, (.const (.int .i64 0)))]) none,
  .mk (some 34) (.build 123 #[(0, (.const (.int .i64 1585))), (1, (.tmp 33))]) none,
  .mk (some 35) (.build 121 #[(0, (.const (.int .i64 65199))), (1, (.const (.int .i64 65200))), (2, (.const (.int .i64 0))), (3, (.const (.int .i64 0)))]) none,
  .mk (some 36) (.build 123 #[(0, (.const (.int .i64 1586))), (1, (.tmp 35))]) none,
  .mk (some 37) (.build 121 #[(0, (.const (.int .i64 65201))), (1, (.const (.int .i64 65202))), (2, (.const (.int .i64 65203))), (3, (.const (.int .i64 65204)))]) none,
  .mk (some 38) (.build 123 #[(0, (.const (.int .i64 1587))), (1, (.tmp 37))]) none,
  .mk (some 39) (.build 121 #[(0, (.const (.int .i64 65205))), (1, (.const (.int .i64 65206))), (2, (.const (.int .i64 65207))), (3, (.const (.int .i64 65208)))]) none,
  .mk (some 40) (.build 123 #[(0, (.const (.int .i64 1588))), (1, (.tmp 39))]) none,
  .mk (some 41) (.build 121 #[(0, (.const (.int .i64 65209))), (1, (.const (.int .i64 65210))), (2, (.const (.int .i64 65211))), (3, (.const (.int .i64 65212)))]) none,
  .mk (some 42) (.build 123 #[(0, (.const (.int .i64 1589))), (1, (.tmp 41))]) none,
  .mk (some 43) (.build 121 #[(0, (.const (.int .i64 65213))), (1, (.const (.int .i64 65214))), (2, (.const (.int .i64 65215))), (3, (.const (.int .i64 65216)))]) none,
  .mk (some 44) (.build 123 #[(0, (.const (.int .i64 1590))), (1, (.tmp 43))]) none,
  .mk (some 45) (.build 121 #[(0, (.const (.int .i64 65217))), (1, (.const (.int .i64 65218))), (2, (.const (.int .i64 65219))), (3, (.const (.int .i64 65220)))]) none,
  .mk (some 46) (.build 123 #[(0, (.const (.int .i64 1591))), (1, (.tmp 45))]) none,
  .mk (some 47) (.build 121 #[(0, (.const (.int .i64 65221))), (1, (.const (.int .i64 65222))), (2, (.const (.int .i64 65223))), (3, (.const (.int .i64 65224)))]) none,
  .mk (some 48) (.build 123 #[(0, (.const (.int .i64 1592))), (1, (.tmp 47))]) none,
  .mk (some 49) (.build 121 #[(0, (.const (.int .i64 65225))), (1, (.const (.int .i64 65226))), (2, (.const (.int .i64 65227))), (3, (.const (.int .i64 65228)))]) none,
  .mk (some 50) (.build 123 #[(0, (.const (.int .i64 1593))), (1, (.tmp 49))]) none,
  .mk (some 51) (.build 121 #[(0, (.const (.int .i64 65229))), (1, (.const (.int .i64 65230))), (2, (.const (.int .i64 65231))), (3, (.const (.int .i64 65232)))]) none,
  .mk (some 52) (.build 123 #[(0, (.const (.int .i64 1594))), (1, (.tmp 51))]) none,
  .mk (some 53) (.build 121 #[(0, (.const (.int .i64 65233))), (1, (.const (.int .i64 65234))), (2, (.const (.int .i64 65235))), (3, (.const (.int .i64 65236)))]) none,
  .mk (some 54) (.build 123 #[(0, (.const (.int .i64 1601))), (1, (.tmp 53))]) none,
  .mk (some 55) (.build 121 #[(0, (.const (.int .i64 65237))), (1, (.const (.int .i64 65238))), (2, (.const (.int .i64 65239))), (3, (.const (.int .i64 65240)))]) none,
  .mk (some 56) (.build 123 #[(0, (.const (.int .i64 1602))), (1, (.tmp 55))]) none,
  .mk (some 57) (.build 121 #[(0, (.const (.int .i64 65241))), (1, (.const (.int .i64 65242))), (2, (.const (.int .i64 65243))), (3, (.const (.int .i64 65244)))]) none,
  .mk (some 58) (.build 123 #[(0, (.const (.int .i64 1603))), (1, (.tmp 57))]) none,
  .mk (some 59) (.build 121 #[(0, (.const (.int .i64 65245))), (1, (.const (.int .i64 65246))), (2, (.const (.int .i64 65247))), (3, (.const (.int .i64 65248)))]) none,
  .mk (some 60) (.build 123 #[(0, (.const (.int .i64 1604))), (1, (.tmp 59))]) none,
  .mk (some 61) (.build 121 #[(0, (.const (.int .i64 65249))), (1, (.const (.int .i64 65250))), (2, (.const (.int .i64 65251))), (3, (.const (.int .i64 65252)))]) none,
  .mk (some 62) (.build 123 #[(0, (.const (.int .i64 1605))), (1, (.tmp 61))]) none,
  .mk (some 63) (.build 121 #[(0, (.const (.int .i64 65253))), (1, (.const (.int .i64 65254))), (2, (.const (.int .i64 65255))), (3, (.const (.int .i64 65256)))]) none,
  .mk (some 64) (.build 123 #[(0, (.const (.int .i64 1606))), (1, (.tmp 63))]) none,
  .mk (some 65) (.build 121 #[(0, (.const (.int .i64 65257))), (1, (.const (.int .i64 65258))), (2, (.const (.int .i64 65259))), (3, (.const (.int .i64 65260)))]) none,
  .mk (some 66) (.build 123 #[(0, (.const (.int .i64 1607))), (1, (.tmp 65))]) none,
  .mk (some 67) (.build 121 #[(0, (.const (.int .i64 65261))), (1, (.const (.int .i64 65262))), (2, (.const (.int .i64 0))), (3, (.const (.int .i64 0)))]) none,
  .mk (some 68) (.build 123 #[(0, (.const (.int .i64 1608))), (1, (.tmp 67))]) none,
  .mk (some 69) (.build 121 #[(0, (.const (.int .i64 65263))), (1, (.const (.int .i64 65264))), (2, (.const (.int .i64 64488))), (3, (.const (.int .i64 64489)))]) none,
  .mk (some 70) (.build 123 #[(0, (.const (.int .i64 1609))), (1, (.tmp 69))]) none,
  .mk (some 71) (.build 121 #[(0, (.const (.int .i64 65265))), (1, (.const (.int .i64 65266))), (2, (.const (.int .i64 65267))), (3, (.const (.int .i64 65268)))]) none,
  .mk (some 72) (.build 123 #[(0, (.const (.int .i64 1610))), (1, (.tmp 71))]) none,
  .mk (some 73) (.build 121 #[(0, (.const (.int .i64 64336))), (1, (.const (.int .i64 64337))), (2, (.const (.int .i64 0))), (3, (.const (.int .i64 0)))]) none,
  .mk (some 74) (.build 123 #[(0, (.const (.int .i64 1649))), (1, (.tmp 73))]) none,
  .mk (some 75) (.build 121 #[(0, (.const (.int .i64 64477))), (1, (.const (.int .i64 0))), (2, (.const (.int .i64 0))), (3, (.const (.int .i64 0)))]) none,
  .mk (some 76) (.build 123 #[(0, (.const (.int .i64 1655))), (1, (.tmp 75))]) none,
  .mk (some 77) (.build 121 #[(0, (.const (.int .i64 64358))), (1, (.const (.int .i64 64359))), (2, (.const (.int .i64 64360))), (3, (.const (.int .i64 64361)))]) none,
  .mk (some 78) (.build 123 #[(0, (.const (.int .i64 1657))), (1, (.tmp 77))]) none,
  .mk (some 79) (.build 121 #[(0, (.const (.int .i64 64350))), (1, (.const (.int .i64 64351))), (2, (.const (.int .i64 64352))), (3, (.const (.int .i64 64353)))]) none,
  .mk (some 80) (.build 123 #[(0, (.const (.int .i64 1658))), (1, (.tmp 79))]) none,
  .mk (some 81) (.build 121 #[(0, (.const (.int .i64 64338))), (1, (.const (.int .i64 64339))), (2, (.const (.int .i64 64340))), (3, (.const (.int .i64 64341)))]) none,
  .mk (some 82) (.build 123 #[(0, (.const (.int .i64 1659))), (1, (.tmp 81))]) none,
  .mk (some 83) (.build 121 #[(0, (.const (.int .i64 64342))), (1, (.const (.int .i64 64343))), (2, (.const (.int .i64 64344))), (3, (.const (.int .i64 64345)))]) none,
  .mk (some 84) (.build 123 #[(0, (.const (.int .i64 1662))), (1, (.tmp 83))]) none,
  .mk (some 85) (.build 121 #[(0, (.const (.int .i64 64354))), (1, (.const (.int .i64 64355))), (2, (.const (.int .i64 64356))), (3, (.const (.int .i64 64357)))]) none,
  .mk (some 86) (.build 123 #[(0, (.const (.int .i64 1663))), (1, (.tmp 85))]) none,
  .mk (some 87) (.build 121 #[(0, (.const (.int .i64 64346))), (1, (.const (.int .i64 64347))), (2, (.const (.int .i64 64348))), (3, (.const (.int .i64 64349)))]) none,
  .mk (some 88) (.build 123 #[(0, (.const (.int .i64 1664))), (1, (.tmp 87))]) none,
  .mk (some 89) (.build 121 #[(0, (.const (.int .i64 64374))), (1, (.const (.int .i64 64375))), (2, (.const (.int .i64 64376))), (3, (.const (.int .i64 64377)))]) none,
  .mk (some 90) (.build 123 #[(0, (.const (.int .i64 1667))), (1, (.tmp 89))]) none,
  .mk (some 91) (.build 121 #[(0, (.const (.int .i64 64370))), (1, (.const (.int .i64 64371))), (2, (.const (.int .i64 64372))), (3, (.const (.int .i64 64373)))]) none,
  .mk (some 92) (.build 123 #[(0, (.const (.int .i64 1668))), (1, (.tmp 91))]) none,
  .mk (some 93) (.build 121 #[(0, (.const (.int .i64 64378))), (1, (.const (.int .i64 64379))), (2, (.const (.int .i64 64380))), (3, (.const (.int .i64 64381)))]) none,
  .mk (some 94) (.build 123 #[(0, (.const (.int .i64 1670))), (1, (.tmp 93))]) none,
  .mk (some 95) (.build 121 #[(0, (.const (.int .i64 64382))), (1, (.const (.int .i64 64383))), (2, (.const (.int .i64 64384))), (3, (.const (.int .i64 64385)))]) none,
  .mk (some 96) (.build 123 #[(0, (.const (.int .i64 1671))), (1, (.tmp 95))]) none,
  .mk (some 97) (.build 121 #[(0, (.const (.int .i64 64392))), (1, (.const (.int .i64 64393))), (2, (.const (.int .i64 0))), (3, (.const (.int .i64 0)))]) none,
  .mk (some 98) (.build 123 #[(0, (.const (.int .i64 1672))), (1, (.tmp 97))]) none,
  .mk (some 99) (.build 121 #[(0, (.const (.int .i64 64388))), (1, (.const (.int .i64 64389))), (2, (.const (.int .i64 0))), (3, (.const (.int .i64 0)))]) none,
  .mk (some 100) (.build 123 #[(0, (.const (.int .i64 1676))), (1, (.tmp 99))]) none,
  .mk (some 101) (.build 121 #[(0, (.const (.int .i64 64386))), (1, (.const (.int .i64 64387))), (2, (.const (.int .i64 0))), (3, (.const (.int .i64 0)))]) none,
  .mk (some 102) (.build 123 #[(0, (.const (.int .i64 1677))), (1, (.tmp 101))]) none,
  .mk (some 103) (.build 121 #[(0, (.const (.int .i64 64390))), (1, (.const (.int .i64 64391))), (2, (.const (.int .i64 0))), (3, (.const (.int .i64 0)))]) none,
  .mk (some 104) (.build 123 #[(0, (.const (.int .i64 1678))), (1, (.tmp 103))]) none,
  .mk (some 105) (.build 121 #[(0, (.const (.int .i64 64396))), (1, (.const (.int .i64 64397))), (2, (.const (.int .i64 0))), (3, (.const (.int .i64 0)))]) none,
  .mk (some 106) (.build 123 #[(0, (.const (.int .i64 1681))), (1, (.tmp 105))]) none,
  .mk (some 107) (.build 121 #[(0, (.const (.int .i64 64394))), (1, (.const (.int .i64 64395))), (2, (.const (.int .i64 0))), (3, (.const (.int .i64 0)))]) none,
  .mk (some 108) (.build 123 #[(0, (.const (.int .i64 1688))), (1, (.tmp 107))]) none,
  .mk (some 109) (.build 121 #[(0, (.const (.int .i64 64362))), (1, (.const (.int .i64 64363))), (2, (.const (.int .i64 64364))), (3, (.const (.int .i64 64365)))]) none,
  .mk (some 110) (.build 123 #[(0, (.const (.int .i64 1700))), (1, (.tmp 109))]) none,
  .mk (some 111) (.build 121 #[(0, (.const (.int .i64 64366))), (1, (.const (.int .i64 64367))), (2, (.const (.int .i64 64368))), (3, (.const (.int .i64 64369)))]) none,
  .mk (some 112) (.build 123 #[(0, (.const (.int .i64 1702))), (1, (.tmp 111))]) none,
  .mk (some 113) (.build 121 #[(0, (.const (.int .i64 64398))), (1, (.const (.int .i64 64399))), (2, (.const (.int .i64 64400))), (3, (.const (.int .i64 64401)))]) none,
  .mk (some 114) (.build 123 #[(0, (.const (.int .i64 1705))), (1, (.tmp 113))]) none,
  .mk (some 115) (.build 121 #[(0, (.const (.int .i64 64467))), (1, (.const (.int .i64 64468))), (2, (.const (.int .i64 64469))), (3, (.const (.int .i64 64470)))]) none,
  .mk (some 116) (.build 123 #[(0, (.const (.int .i64 1709))), (1, (.tmp 115))]) none,
  .mk (some 117) (.build 121 #[(0, (.const (.int .i64 64402))), (1, (.const (.int .i64 64403))), (2, (.const (.int .i64 64404))), (3, (.const (.int .i64 64405)))]) none,
  .mk (some 118) (.build 123 #[(0, (.const (.int .i64 1711))), (1, (.tmp 117))]) none,
  .mk (some 119) (.build 121 #[(0, (.const (.int .i64 64410))), (1, (.const (.int .i64 64411))), (2, (.const (.int .i64 64412))), (3, (.const (.int .i64 64413)))]) none,
  .mk (some 120) (.build 123 #[(0, (.const (.int .i64 1713))), (1, (.tmp 119))]) none,
  .mk (some 121) (.build 121 #[(0, (.const (.int .i64 64406))), (1, (.const (.int .i64 64407))), (2, (.const (.int .i64 64408))), (3, (.const (.int .i64 64409)))]) none,
  .mk (some 122) (.build 123 #[(0, (.const (.int .i64 1715))), (1, (.tmp 121))]) none,
  .mk (some 123) (.build 121 #[(0, (.const (.int .i64 64414))), (1, (.const (.int .i64 64415))), (2, (.const (.int .i64 0))), (3, (.const (.int .i64 0)))]) none,
  .mk (some 124) (.build 123 #[(0, (.const (.int .i64 1722))), (1, (.tmp 123))]) none,
  .mk (some 125) (.build 121 #[(0, (.const (.int .i64 64416))), (1, (.const (.int .i64 64417))), (2, (.const (.int .i64 64418))), (3, (.const (.int .i64 64419)))]) none,
  .mk (some 126) (.build 123 #[(0, (.const (.int .i64 1723))), (1, (.tmp 125))]) none,
  .mk (some 127) (.build 121 #[(0, (.const (.int .i64 64426))), (1, (.const (.int .i64 64427))), (2, (.const (.int .i64 64428))), (3, (.const (.int .i64 64429)))]) none,
  .mk (some 128) (.build 123 #[(0, (.const (.int .i64 1726))), (1, (.tmp 127))]) none,
  .mk (some 129) (.build 121 #[(0, (.const (.int .i64 64420))), (1, (.const (.int .i64 64421))), (2, (.const (.int .i64 0))), (3, (.const (.int .i64 0)))]) none,
  .mk (some 130) (.build 123 #[(0, (.const (.int .i64 1728))), (1, (.tmp 129))]) none,
  .mk (some 131) (.build 121 #[(0, (.const (.int .i64 64422))), (1, (.const (.int .i64 64423))), (2, (.const (.int .i64 64424))), (3, (.const (.int .i64 64425)))]) none,
  .mk (some 132) (.build 123 #[(0, (.const (.int .i64 1729))), (1, (.tmp 131))]) none,
  .mk (some 133) (.build 121 #[(0, (.const (.int .i64 64480))), (1, (.const (.int .i64 64481))), (2, (.const (.int .i64 0))), (3, (.const (.int .i64 0)))]) none,
  .mk (some 134) (.build 123 #[(0, (.const (.int .i64 1733))), (1, (.tmp 133))]) none,
  .mk (some 135) (.build 121 #[(0, (.const (.int .i64 64473))), (1, (.const (.int .i64 64474))), (2, (.const (.int .i64 0))), (3, (.const (.int .i64 0)))]) none,
  .mk (some 136) (.build 123 #[(0, (.const (.int .i64 1734))), (1, (.tmp 135))]) none,
  .mk (some 137) (.build 121 #[(0, (.const (.int .i64 64471))), (1, (.const (.int .i64 64472))), (2, (.const (.int .i64 0))), (3, (.const (.int .i64 0)))]) none,
  .mk (some 138) (.build 123 #[(0, (.const (.int .i64 1735))), (1, (.tmp 137))]) none,
  .mk (some 139) (.build 121 #[(0, (.const (.int .i64 64475))), (1, (.const (.int .i64 64476))), (2, (.const (.int .i64 0))), (3, (.const (.int .i64 0)))]) none,
  .mk (some 140) (.build 123 #[(0, (.const (.int .i64 1736))), (1, (.tmp 139))]) none,
  .mk (some 141) (.build 121 #[(0, (.const (.int .i64 64482))), (1, (.const (.int .i64 64483))), (2, (.const (.int .i64 0))), (3, (.const (.int .i64 0)))]) none,
  .mk (some 142) (.build 123 #[(0, (.const (.int .i64 1737))), (1, (.tmp 141))]) none,
  .mk (some 143) (.build 121 #[(0, (.const (.int .i64 64478))), (1, (.const (.int .i64 64479))), (2, (.const (.int .i64 0))), (3, (.const (.int .i64 0)))]) none,
  .mk (some 144) (.build 123 #[(0, (.const (.int .i64 1739))), (1, (.tmp 143))]) none,
  .mk (some 145) (.build 121 #[(0, (.const (.int .i64 64508))), (1, (.const (.int .i64 64509))), (2, (.const (.int .i64 64510))), (3, (.const (.int .i64 64511)))]) none,
  .mk (some 146) (.build 123 #[(0, (.const (.int .i64 1740))), (1, (.tmp 145))]) none,
  .mk (some 147) (.build 121 #[(0, (.const (.int .i64 64484))), (1, (.const (.int .i64 64485))), (2, (.const (.int .i64 64486))), (3, (.const (.int .i64 64487)))]) none,
  .mk (some 148) (.build 123 #[(0, (.const (.int .i64 1744))), (1, (.tmp 147))]) none,
  .mk (some 149) (.build 121 #[(0, (.const (.int .i64 64430))), (1, (.const (.int .i64 64431))), (2, (.const (.int .i64 0))), (3, (.const (.int .i64 0)))]) none,
  .mk (some 150) (.build 123 #[(0, (.const (.int .i64 1746))), (1, (.tmp 149))]) none,
  .mk (some 151) (.build 121 #[(0, (.const (.int .i64 64432))), (1, (.const (.int .i64 64433))), (2, (.const (.int .i64 0))), (3, (.const (.int .i64 0)))]) none,
  .mk (some 152) (.build 123 #[(0, (.const (.int .i64 1747))), (1, (.tmp 151))]) none,
  .mk (some 153) (.buildSlice 119 76 #[(0, (.tmp 2)), (1, (.tmp 4)), (2, (.tmp 6)), (3, (.tmp 8)), (4, (.tmp 10)), (5, (.tmp 12)), (6, (.tmp 14)), (7, (.tmp 16)), (8, (.tmp 18)), (9, (.tmp 20)), (10, (.tmp 22)), (11, (.tmp 24)), (12, (.tmp 26)), (13, (.tmp 28)), (14, (.tmp 30)), (15, (.tmp 32)), (16, (.tmp 34)), (17, (.tmp 36)), (18, (.tmp 38)), (19, (.tmp 40)), (20, (.tmp 42)), (21, (.tmp 44)), (22, (.tmp 46)), (23, (.tmp 48)), (24, (.tmp 50)), (25, (.tmp 52)), (26, (.tmp 54)), (27, (.tmp 56)), (28, (.tmp 58)), (29, (.tmp 60)), (30, (.tmp 62)), (31, (.tmp 64)), (32, (.tmp 66)), (33, (.tmp 68)), (34, (.tmp 70)), (35, (.tmp 72)), (36, (.tmp 74)), (37, (.tmp 76)), (38, (.tmp 78)), (39, (.tmp 80)), (40, (.tmp 82)), (41, (.tmp 84)), (42, (.tmp 86)), (43, (.tmp 88)), (44, (.tmp 90)), (45, (.tmp 92)), (46, (.tmp 94)), (47, (.tmp 96)), (48, (.tmp 98)), (49, (.tmp 100)), (50, (.tmp 102)), (51, (.tmp 104)), (52, (.tmp 106)), (53, (.tmp 108)), (54, (.tmp 110)), (55, (.tmp 112)), (56, (.tmp 114)), (57, (.tmp 116)), (58, (.tmp 118)), (59, (.tmp 120)), (60, (.tmp 122)), (61, (.tmp 124)), (62, (.tmp 126)), (63, (.tmp 128)), (64, (.tmp 130)), (65, (.tmp 132)), (66, (.tmp 134)), (67, (.tmp 136)), (68, (.tmp 138)), (69, (.tmp 140)), (70, (.tmp 142)), (71, (.tmp 144)), (72, (.tmp 146)), (73, (.tmp 148)), (74, (.tmp 150)), (75, (.tmp 152))]) none,
  .mk (some 0) (.assign (.tmp 153)) none]
def c80 : PC := (.seq (.reg false r80_0) (.seq (.reg false r80_1) .ret))
theorem e80 (hl : args.length = 0) (s : pwp Tryz.prog [] c80 (fin Tryz.prog [.tmp 0] h K) (slots0 (olds args)) h) : CanP Tryz.prog 80 args h K :=
  can_of2 (n := 154) mixed Tryz.func80 rfl (by kernel_rfl) (by rw [hl]; kernel_rfl) rfl (by kernel_rfl) s
/-! ### naskh.forms.of: function 131 -/
def r131_0 : List PS := [.mk (some 2) (.alloc 169) none,
  .mk (some 3) (.assign (.const (.bool false))) none]
def r131_1 : List PS := [.mk (some 8) (.call ⟨(.value (.func 80)), #[], #[]⟩) none,
  .mk (some 9) (.call ⟨(.builtin .len), #[(.tmp 8)], #[119]⟩) none,
  .mk (some 10) (.move (.const (.int .i64 0))) none]
def r131_2 : List PS := [.mk (some 11) (.binOp .lss 3 (.tmp 10) (.tmp 9) 3) none]
def r131_3 : List PS := [.mk (some 12) (.indexAddr 119 (.tmp 8) (.tmp 10)) none,
  .mk (some 13) (.load 123 (.tmp 12)) none,
  .mk (some 5) (.alloc 123) none,
  .mk none (.store 123 (.tmp 5) (.tmp 13)) none,
  .frz 5]
def r131_4 : List PS := [.mk (some 14) (.fieldAddr 123 (.tmp 5) 1) none,
  .mk (some 15) (.load 121 (.tmp 14)) none,
  .mk (some 16) (.move (.const (.int .i64 0))) none]
def r131_5 : List PS := [.mk (some 17) (.binOp .lss 3 (.tmp 16) (.const (.int .i64 4)) 3) none]
def r131_6 : List PS := [.mk (some 18) (.move (.tmp 16)) none,
  .mk (some 19) (.index 121 (.tmp 15) (.tmp 16)) none,
  .mk (some 6) (.assign (.tmp 18)) none,
  .mk (some 7) (.assign (.tmp 19)) none]
def r131_7 : List PS := [.mk (some 20) (.move (.tmp 7)) none,
  .mk (some 21) (.binOp .neq 3 (.tmp 20) (.const (.int .i64 0)) 3) none,
  .mk (some 22) (.move (.tmp 21)) none,
  .mk (some 23) (.move (.tmp 7)) (some (22, true)),
  .mk (some 24) (.move (.tmp 0)) (some (22, true)),
  .mk (some 25) (.binOp .eql 3 (.tmp 23) (.tmp 24) 3) (some (22, true)),
  .mk (some 26) (.pick (.tmp 22) (.tmp 25) (.const (.bool false))) none]
def r131_8 : List PS := [.mk (some 27) (.fieldAddr 123 (.tmp 5) 0) none,
  .mk (some 28) (.load 3 (.tmp 27)) none,
  .mk (some 29) (.move (.tmp 6)) none,
  .mk (some 30) (.binOp .add 3 (.tmp 29) (.const (.int .i64 1)) 3) none,
  .mk (some 31) (.build 169 #[(0, (.tmp 28)), (1, (.tmp 30))]) none,
  .mk none (.store 169 (.tmp 2) (.tmp 31)) none,
  .mk (some 3) (.assign (.const (.bool true))) none]
def r131_9 : List PS := [.mk (some 32) (.binOp .add 3 (.tmp 16) (.const (.int .i64 1)) 3) none,
  .mk (some 16) (.move (.tmp 32)) none]
def r131_10 : List PS := [.mk (some 33) (.binOp .add 3 (.tmp 10) (.const (.int .i64 1)) 3) none,
  .mk (some 10) (.move (.tmp 33)) none]
def r131_11 : List PS := [.mk (some 34) (.build 169 #[]) none,
  .mk none (.store 169 (.tmp 2) (.tmp 34)) none,
  .mk (some 3) (.assign (.const (.bool false))) none]
def c131 : PC := (.seq (.reg false r131_0) (.seq (.seq (.reg false r131_1) (.block 0 (.loop (.seq (.reg false r131_2) (.seq (.cond (.tmp 11) .skip (.exit 0)) (.seq (.block 1 (.seq (.reg false r131_3) (.seq (.reg false r131_4) (.block 2 (.loop (.seq (.reg false r131_5) (.seq (.cond (.tmp 17) .skip (.exit 2)) (.seq (.block 3 (.seq (.reg false r131_6) (.seq (.reg false r131_7) (.cond (.tmp 26) (.seq (.reg false r131_8) .ret) .skip)))) (.reg false r131_9))))))))) (.reg false r131_10))))))) (.seq (.reg false r131_11) .ret)))
theorem e131 (hl : args.length = 1) (s : pwp Tryz.prog [2, 5] c131 (fin Tryz.prog [.cell 2 169, .tmp 3] h K) (slots0 (olds args)) h) : CanP Tryz.prog 131 args h K :=
  can_of2 (n := 35) mixed Tryz.func131 rfl (by kernel_rfl) (by rw [hl]; kernel_rfl) rfl (by kernel_rfl) s
/-! ### naskh.forms.Base: function 104 -/
def r104_0 : List PS := [.mk (some 2) (.assign (.const (.int .i64 0))) none,
  .mk (some 3) (.assign (.const (.int .i64 0))) none,
  .mk (some 4) (.assign (.const (.bool false))) none]
def r104_1 : List PS := [.mk (some 8) (.move (.tmp 0)) none,
  .mk (some 9) (.call ⟨(.value (.func 131)), #[(.tmp 8)], #[3]⟩) none,
  .mk (some 7) (.move (.tmp 9)) none,
  .mk (some 10) (.extract (.tmp 7) 0) none,
  .mk (some 11) (.extract (.tmp 7) 1) none,
  .mk (some 5) (.alloc 169) none,
  .mk none (.store 169 (.tmp 5) (.tmp 10)) none,
  .frz 5,
  .mk (some 6) (.assign (.tmp 11)) none]
def r104_2 : List PS := [.mk (some 12) (.fieldAddr 169 (.tmp 5) 0) none,
  .mk (some 13) (.load 3 (.tmp 12)) none,
  .mk (some 14) (.fieldAddr 169 (.tmp 5) 1) none,
  .mk (some 15) (.load 3 (.tmp 14)) none,
  .mk (some 16) (.move (.tmp 6)) none,
  .mk (some 2) (.assign (.tmp 13)) none,
  .mk (some 3) (.assign (.tmp 15)) none,
  .mk (some 4) (.assign (.tmp 16)) none]
def c104 : PC := (.seq (.reg false r104_0) (.seq (.reg false r104_1) (.seq (.reg true r104_2) .ret)))
theorem e104 (hl : args.length = 1) (s : pwp Tryz.prog [5] c104 (fin Tryz.prog [.tmp 2, .tmp 3, .tmp 4] h K) (slots0 (olds args)) h) : CanP Tryz.prog 104 args h K :=
  can_of2 (n := 17) mixed Tryz.func104 rfl (by kernel_rfl) (by rw [hl]; kernel_rfl) rfl (by kernel_rfl) s
/-! ### naskh.api.Ligatures: function 81 -/
def r81_0 : List PS := [.mk (some 0) (.assign (.const (.slice none 0 0))) none]
def r81_1 : List PS := [.mk (some 1) (.build 127 #[(0, (.const (.int .i64 1570))), (1, (.const (.int .i64 65269))), (2, (.const (.int .i64 65270)))]) none,
  .mk (some 2) (.build 127 #[(0, (.const (.int .i64 1571))), (1, (.const (.int .i64 65271))), (2, (.const (.int .i64 65272)))]) none,
  .mk (some 3) (.build 127 #[(0, (.const (.int .i64 1573))), (1, (.const (.int .i64 65273))), (2, (.const (.int .i64 65274)))]) none,
  .mk (some 4) (.build 127 #[(0, (.const (.int .i64 1575))), (1, (.const (.int .i64 65275))), (2, (.const (.int .i64 65276)))]) none,
  .mk (some 5) (.buildSlice 124 4 #[(0, (.tmp 1)), (1, (.tmp 2)), (2, (.tmp 3)), (3, (.tmp 4))]) none,
  .mk (some 0) (.assign (.tmp 5)) none]
def c81 : PC := (.seq (.reg false r81_0) (.seq (.reg false r81_1) .ret))
theorem e81 (hl : args.length = 0) (s : pwp Tryz.prog [] c81 (fin Tryz.prog [.tmp 0] h K) (slots0 (olds args)) h) : CanP Tryz.prog 81 args h K :=
  can_of2 (n := 6) mixed Tryz.func81 rfl (by kernel_rfl) (by rw [hl]; kernel_rfl) rfl (by kernel_rfl) s
/-! ### naskh.forms.Parted: function 105 -/
def r105_0 : List PS := [.mk (some 2) (.assign (.const (.int .i64 0))) none,
  .mk (some 3) (.assign (.const (.int .i64 0))) none,
  .mk (some 4) (.assign (.const (.bool false))) none]
def r105_1 : List PS := [.mk (some 7) (.call ⟨(.value (.func 81)), #[], #[]⟩) none,
  .mk (some 8) (.call ⟨(.builtin .len), #[(.tmp 7)], #[124]⟩) none,
  .mk (some 9) (.move (.const (.int .i64 0))) none]
def r105_2 : List PS := [.mk (some 10) (.binOp .lss 3 (.tmp 9) (.tmp 8) 3) none]
def r105_3 : List PS := [.mk (some 11) (.indexAddr 124 (.tmp 7) (.tmp 9)) none,
  .mk (some 12) (.load 127 (.tmp 11)) none,
  .mk (some 6) (.alloc 127) none,
  .mk none (.store 127 (.tmp 6) (.tmp 12)) none,
  .frz 6]
def r105_4 : List PS := [.mk (some 13) (.move (.tmp 0)) none]
def r105_5 : List PS := [.mk (some 15) (.fieldAddr 127 (.tmp 6) 1) none,
  .mk (some 16) (.load 3 (.tmp 15)) none,
  .mk (some 17) (.binOp .eql 3 (.tmp 13) (.tmp 16) 3) none,
  .mk (some 14) (.assign (.tmp 17)) none]
def r105_6 : List PS := [.mk (some 18) (.fieldAddr 127 (.tmp 6) 0) none,
  .mk (some 19) (.load 3 (.tmp 18)) none,
  .mk (some 2) (.assign (.tmp 19)) none,
  .mk (some 3) (.assign (.const (.int .i64 1))) none,
  .mk (some 4) (.assign (.const (.bool true))) none]
def r105_7 : List PS := [.mk (some 21) (.fieldAddr 127 (.tmp 6) 2) none,
  .mk (some 22) (.load 3 (.tmp 21)) none,
  .mk (some 23) (.binOp .eql 3 (.tmp 13) (.tmp 22) 3) none,
  .mk (some 20) (.assign (.tmp 23)) none]
def r105_8 : List PS := [.mk (some 24) (.fieldAddr 127 (.tmp 6) 0) none,
  .mk (some 25) (.load 3 (.tmp 24)) none,
  .mk (some 2) (.assign (.tmp 25)) none,
  .mk (some 3) (.assign (.const (.int .i64 2))) none,
  .mk (some 4) (.assign (.const (.bool true))) none]
def r105_9 : List PS := [.mk (some 26) (.binOp .add 3 (.tmp 9) (.const (.int .i64 1)) 3) none,
  .mk (some 9) (.move (.tmp 26)) none]
def r105_10 : List PS := [.mk (some 2) (.assign (.const (.int .i64 0))) none,
  .mk (some 3) (.assign (.const (.int .i64 0))) none,
  .mk (some 4) (.assign (.const (.bool false))) none]
def c105 : PC := (.seq (.reg false r105_0) (.seq (.seq (.reg false r105_1) (.block 0 (.loop (.seq (.reg false r105_2) (.seq (.cond (.tmp 10) .skip (.exit 0)) (.seq (.block 1 (.seq (.reg false r105_3) (.seq (.reg false r105_4) (.block 2 (.seq (.reg false r105_5) (.cond (.tmp 14) (.seq (.reg false r105_6) .ret) (.seq (.reg false r105_7) (.cond (.tmp 20) (.seq (.reg false r105_8) .ret) .skip)))))))) (.reg false r105_9))))))) (.seq (.reg false r105_10) .ret)))
theorem e105 (hl : args.length = 1) (s : pwp Tryz.prog [6] c105 (fin Tryz.prog [.tmp 2, .tmp 3, .tmp 4] h K) (slots0 (olds args)) h) : CanP Tryz.prog 105 args h K :=
  can_of2 (n := 27) mixed Tryz.func105 rfl (by kernel_rfl) (by rw [hl]; kernel_rfl) rfl (by kernel_rfl) s
/-! ### naskh.api.Accents: function 82 -/
def r82_0 : List PS := [.mk (some 0) (.assign (.const (.slice none 0 0))) none]
def r82_1 : List PS := [.mk (some 1) (.build 131 #[(0, (.const (.int .i64 1611))), (1, (.const (.int .i64 65136))), (2, (.const (.int .i64 65137)))]) none,
  .mk (some 2) (.build 131 #[(0, (.const (.int .i64 1612))), (1, (.const (.int .i64 65138))), (2, (.const (.int .i64 0)))]) none,
  .mk (some 3) (.build 131 #[(0, (.const (.int .i64 1613))), (1, (.const (.int .i64 65140))), (2, (.const (.int .i64 0)))]) none,
  .mk (some 4) (.build 131 #[(0, (.const (.int .i64 1614))), (1, (.const (.int .i64 65142))), (2, (.const (.int .i64 65143)))]) none,
  .mk (some 5) (.build 131 #[(0, (.const (.int .i64 1615))), (1, (.const (.int .i64 65144))), (2, (.const (.int .i64 65145)))]) none,
  .mk (some 6) (.build 131 #[(0, (.const (.int .i64 1616))), (1, (.const (.int .i64 65146))), (2, (.const (.int .i64 65147)))]) none,
  .mk (some 7) (.build 131 #[(0, (.const (.int .i64 1617))), (1, (.const (.int .i64 65148))), (2, (.const (.int .i64 65149)))]) none,
  .mk (some 8) (.build 131 #[(0, (.const (.int .i64 1618))), (1, (.const (.int .i64 65150))), (2, (.const (.int .i64 65151)))]) none,
  .mk (some 9) (.buildSlice 128 8 #[(0, (.tmp 1)), (1, (.tmp 2)), (2, (.tmp 3)), (3, (.tmp 4)), (4, (.tmp 5)), (5, (.tmp 6)), (6, (.tmp 7)), (7, (.tmp 8))]) none,
  .mk (some 0) (.assign (.tmp 9)) none]
def c82 : PC := (.seq (.reg false r82_0) (.seq (.reg false r82_1) .ret))
theorem e82 (hl : args.length = 0) (s : pwp Tryz.prog [] c82 (fin Tryz.prog [.tmp 0] h K) (slots0 (olds args)) h) : CanP Tryz.prog 82 args h K :=
  can_of2 (n := 10) mixed Tryz.func82 rfl (by kernel_rfl) (by rw [hl]; kernel_rfl) rfl (by kernel_rfl) s
/-! ### naskh.forms.Mark: function 106 -/
def r106_0 : List PS := [.mk (some 2) (.assign (.const (.int .i64 0))) none,
  .mk (some 3) (.assign (.const (.bool false))) none,
  .mk (some 4) (.assign (.const (.bool false))) none]
def r106_1 : List PS := [.mk (some 7) (.move (.tmp 0)) none,
  .mk (some 8) (.binOp .eql 3 (.tmp 7) (.const (.int .i64 0)) 3) none]
def r106_2 : List PS := [.mk (some 2) (.assign (.const (.int .i64 0))) none,
  .mk (some 3) (.assign (.const (.bool false))) none,
  .mk (some 4) (.assign (.const (.bool false))) none]
def r106_3 : List PS := [.mk (some 9) (.call ⟨(.value (.func 82)), #[], #[]⟩) none,
  .mk (some 10) (.call ⟨(.builtin .len), #[(.tmp 9)], #[128]⟩) none,
  .mk (some 11) (.move (.const (.int .i64 0))) none]
def r106_4 : List PS := [.mk (some 12) (.binOp .lss 3 (.tmp 11) (.tmp 10) 3) none]
def r106_5 : List PS := [.mk (some 13) (.indexAddr 128 (.tmp 9) (.tmp 11)) none,
  .mk (some 14) (.load 131 (.tmp 13)) none,
  .mk (some 6) (.alloc 131) none,
  .mk none (.store 131 (.tmp 6) (.tmp 14)) none,
  .frz 6]
def r106_6 : List PS := [.mk (some 15) (.move (.tmp 0)) none]
def r106_7 : List PS := [.mk (some 17) (.fieldAddr 131 (.tmp 6) 1) none,
  .mk (some 18) (.load 3 (.tmp 17)) none,
  .mk (some 19) (.binOp .eql 3 (.tmp 15) (.tmp 18) 3) none,
  .mk (some 16) (.assign (.tmp 19)) none]
def r106_8 : List PS := [.mk (some 20) (.fieldAddr 131 (.tmp 6) 0) none,
  .mk (some 21) (.load 3 (.tmp 20)) none,
  .mk (some 2) (.assign (.tmp 21)) none,
  .mk (some 3) (.assign (.const (.bool false))) none,
  .mk (some 4) (.assign (.const (.bool true))) none]
def r106_9 : List PS := [.mk (some 23) (.fieldAddr 131 (.tmp 6) 2) none,
  .mk (some 24) (.load 3 (.tmp 23)) none,
  .mk (some 25) (.binOp .eql 3 (.tmp 15) (.tmp 24) 3) none,
  .mk (some 22) (.assign (.tmp 25)) none]
def r106_10 : List PS := [.mk (some 26) (.fieldAddr 131 (.tmp 6) 0) none,
  .mk (some 27) (.load 3 (.tmp 26)) none,
  .mk (some 2) (.assign (.tmp 27)) none,
  .mk (some 3) (.assign (.const (.bool true))) none,
  .mk (some 4) (.assign (.const (.bool true))) none]
def r106_11 : List PS := [.mk (some 28) (.binOp .add 3 (.tmp 11) (.const (.int .i64 1)) 3) none,
  .mk (some 11) (.move (.tmp 28)) none]
def r106_12 : List PS := [.mk (some 2) (.assign (.const (.int .i64 0))) none,
  .mk (some 3) (.assign (.const (.bool false))) none,
  .mk (some 4) (.assign (.const (.bool false))) none]
def c106 : PC := (.seq (.reg false r106_0) (.seq (.seq (.reg false r106_1) (.cond (.tmp 8) (.seq (.reg false r106_2) .ret) .skip)) (.seq (.seq (.reg false r106_3) (.block 0 (.loop (.seq (.reg false r106_4) (.seq (.cond (.tmp 12) .skip (.exit 0)) (.seq (.block 1 (.seq (.reg false r106_5) (.seq (.reg false r106_6) (.block 2 (.seq (.reg false r106_7) (.cond (.tmp 16) (.seq (.reg false r106_8) .ret) (.seq (.reg false r106_9) (.cond (.tmp 22) (.seq (.reg false r106_10) .ret) .skip)))))))) (.reg false r106_11))))))) (.seq (.reg false r106_12) .ret))))
theorem e106 (hl : args.length = 1) (s : pwp Tryz.prog [6] c106 (fin Tryz.prog [.tmp 2, .tmp 3, .tmp 4] h K) (slots0 (olds args)) h) : CanP Tryz.prog 106 args h K :=
  can_of2 (n := 29) mixed Tryz.func106 rfl (by kernel_rfl) (by rw [hl]; kernel_rfl) rfl (by kernel_rfl) s
/-! ### naskh.api.Piles: function 83 -/
def r83_0 : List PS := [.mk (some 0) (.assign (.const (.slice none 0 0))) none]
def r83_1 : List PS := [.mk (some 1) (.build 135 #[(0, (.const (.int .i64 1612))), (1, (.const (.int .i64 64606)))]) none,
  .mk (some 2) (.build 135 #[(0, (.const (.int .i64 1613))), (1, (.const (.int .i64 64607)))]) none,
  .mk (some 3) (.build 135 #[(0, (.const (.int .i64 1614))), (1, (.const (.int .i64 64608)))]) none,
  .mk (some 4) (.build 135 #[(0, (.const (.int .i64 1615))), (1, (.const (.int .i64 64609)))]) none,
  .mk (some 5) (.build 135 #[(0, (.const (.int .i64 1616))), (1, (.const (.int .i64 64610)))]) none,
  .mk (some 6) (.build 135 #[(0, (.const (.int .i64 1648))), (1, (.const (.int .i64 64611)))]) none,
  .mk (some 7) (.buildSlice 132 6 #[(0, (.tmp 1)), (1, (.tmp 2)), (2, (.tmp 3)), (3, (.tmp 4)), (4, (.tmp 5)), (5, (.tmp 6))]) none,
  .mk (some 0) (.assign (.tmp 7)) none]
def c83 : PC := (.seq (.reg false r83_0) (.seq (.reg false r83_1) .ret))
theorem e83 (hl : args.length = 0) (s : pwp Tryz.prog [] c83 (fin Tryz.prog [.tmp 0] h K) (slots0 (olds args)) h) : CanP Tryz.prog 83 args h K :=
  can_of2 (n := 8) mixed Tryz.func83 rfl (by kernel_rfl) (by rw [hl]; kernel_rfl) rfl (by kernel_rfl) s
/-! ### naskh.forms.Unpile: function 107 -/
def r107_0 : List PS := [.mk (some 2) (.assign (.const (.int .i64 0))) none,
  .mk (some 3) (.assign (.const (.bool false))) none]
def r107_1 : List PS := [.mk (some 6) (.call ⟨(.value (.func 83)), #[], #[]⟩) none,
  .mk (some 7) (.call ⟨(.builtin .len), #[(.tmp 6)], #[132]⟩) none,
  .mk (some 8) (.move (.const (.int .i64 0))) none]
def r107_2 : List PS := [.mk (some 9) (.binOp .lss 3 (.tmp 8) (.tmp 7) 3) none]
def r107_3 : List PS := [.mk (some 10) (.indexAddr 132 (.tmp 6) (.tmp 8)) none,
  .mk (some 11) (.load 135 (.tmp 10)) none,
  .mk (some 5) (.alloc 135) none,
  .mk none (.store 135 (.tmp 5) (.tmp 11)) none,
  .frz 5]
def r107_4 : List PS := [.mk (some 12) (.fieldAddr 135 (.tmp 5) 1) none,
  .mk (some 13) (.load 3 (.tmp 12)) none,
  .mk (some 14) (.move (.tmp 0)) none,
  .mk (some 15) (.binOp .eql 3 (.tmp 13) (.tmp 14) 3) none]
def r107_5 : List PS := [.mk (some 16) (.fieldAddr 135 (.tmp 5) 0) none,
  .mk (some 17) (.load 3 (.tmp 16)) none,
  .mk (some 2) (.assign (.tmp 17)) none,
  .mk (some 3) (.assign (.const (.bool true))) none]
def r107_6 : List PS := [.mk (some 18) (.binOp .add 3 (.tmp 8) (.const (.int .i64 1)) 3) none,
  .mk (some 8) (.move (.tmp 18)) none]
def r107_7 : List PS := [.mk (some 2) (.assign (.const (.int .i64 0))) none,
  .mk (some 3) (.assign (.const (.bool false))) none]
def c107 : PC := (.seq (.reg false r107_0) (.seq (.seq (.reg false r107_1) (.block 0 (.loop (.seq (.reg false r107_2) (.seq (.cond (.tmp 9) .skip (.exit 0)) (.seq (.block 1 (.seq (.reg false r107_3) (.seq (.reg false r107_4) (.cond (.tmp 15) (.seq (.reg false r107_5) .ret) .skip)))) (.reg false r107_6))))))) (.seq (.reg false r107_7) .ret)))
theorem e107 (hl : args.length = 1) (s : pwp Tryz.prog [5] c107 (fin Tryz.prog [.tmp 2, .tmp 3] h K) (slots0 (olds args)) h) : CanP Tryz.prog 107 args h K :=
  can_of2 (n := 19) mixed Tryz.func107 rfl (by kernel_rfl) (by rw [hl]; kernel_rfl) rfl (by kernel_rfl) s
/-! ### naskh.forms.kinds: function 92 -/
def r92_0 : List PS := [.mk (some 2) (.alloc 144) none]
def r92_1 : List PS := [.mk (some 3) (.alloc 144) none]
def r92_2 : List PS := [.mk (some 5) (.move (.tmp 0)) none,
  .mk (some 6) (.call ⟨(.value (.func 104)), #[(.tmp 5)], #[3]⟩) none,
  .mk (some 4) (.move (.tmp 6)) none,
  .mk (some 7) (.extract (.tmp 4) 0) none,
  .mk (some 8) (.extract (.tmp 4) 1) none,
  .mk (some 9) (.extract (.tmp 4) 2) none,
  .mk (some 10) (.indexAddr 144 (.tmp 3) (.const (.int .i64 0))) none,
  .mk none (.store 4 (.tmp 10) (.tmp 9)) none]
def r92_3 : List PS := [.mk (some 12) (.move (.tmp 0)) none,
  .mk (some 13) (.call ⟨(.value (.func 105)), #[(.tmp 12)], #[3]⟩) none,
  .mk (some 11) (.move (.tmp 13)) none,
  .mk (some 14) (.extract (.tmp 11) 0) none,
  .mk (some 15) (.extract (.tmp 11) 1) none,
  .mk (some 16) (.extract (.tmp 11) 2) none,
  .mk (some 17) (.indexAddr 144 (.tmp 3) (.const (.int .i64 1))) none,
  .mk none (.store 4 (.tmp 17) (.tmp 16)) none]
def r92_4 : List PS := [.mk (some 19) (.move (.tmp 0)) none,
  .mk (some 20) (.call ⟨(.value (.func 106)), #[(.tmp 19)], #[3]⟩) none,
  .mk (some 18) (.move (.tmp 20)) none,
  .mk (some 21) (.extract (.tmp 18) 0) none,
  .mk (some 22) (.extract (.tmp 18) 1) none,
  .mk (some 23) (.extract (.tmp 18) 2) none,
  .mk (some 24) (.indexAddr 144 (.tmp 3) (.const (.int .i64 2))) none,
  .mk none (.store 4 (.tmp 24) (.tmp 23)) none]
def r92_5 : List PS := [.mk (some 26) (.move (.tmp 0)) none,
  .mk (some 27) (.call ⟨(.value (.func 107)), #[(.tmp 26)], #[3]⟩) none,
  .mk (some 25) (.move (.tmp 27)) none,
  .mk (some 28) (.extract (.tmp 25) 0) none,
  .mk (some 29) (.extract (.tmp 25) 1) none,
  .mk (some 30) (.indexAddr 144 (.tmp 3) (.const (.int .i64 3))) none,
  .mk none (.store 4 (.tmp 30) (.tmp 29)) none]
def r92_6 : List PS := [.mk (some 31) (.load 144 (.tmp 3)) none,
  .mk none (.store 144 (.tmp 2) (.tmp 31)) none]
def c92 : PC := (.seq (.reg false r92_0) (.seq (.reg false r92_1) (.seq (.reg false r92_2) (.seq (.reg false r92_3) (.seq (.reg false r92_4) (.seq (.reg false r92_5) (.seq (.reg false r92_6) .ret)))))))
theorem e92 (hl : args.length = 1) (s : pwp Tryz.prog [2, 3] c92 (fin Tryz.prog [.cell 2 144] h K) (slots0 (olds args)) h) : CanP Tryz.prog 92 args h K :=
  can_of2 (n := 32) mixed Tryz.func92 rfl (by kernel_rfl) (by rw [hl]; kernel_rfl) rfl (by kernel_rfl) s
/-! ### naskh.forms.Presented: function 51 -/
def r51_0 : List PS := [.mk (some 2) (.assign (.const (.bool false))) none]
def r51_1 : List PS := [.mk (some 3) (.alloc 144) none]
def r51_2 : List PS := [.mk (some 4) (.move (.tmp 0)) none,
  .mk (some 5) (.binOp .eql 3 (.tmp 4) (.const (.int .i64 65139)) 3) none,
  .mk (some 6) (.move (.tmp 5)) none,
  .mk (some 7) (.move (.tmp 0)) (some (6, false)),
  .mk (some 8) (.call ⟨(.value (.func 92)), #[(.tmp 7)], #[3]⟩) (some (6, false)),
  .mk (some 9) (.load 144 (.tmp 3)) (some (6, false)),
  .mk (some 10) (.binOp .neq 144 (.tmp 8) (.tmp 9) 144) (some (6, false)),
  .mk (some 11) (.pick (.tmp 6) (.const (.bool true)) (.tmp 10)) none,
  .mk (some 2) (.assign (.tmp 11)) none]
def c51 : PC := (.seq (.reg false r51_0) (.seq (.reg false r51_1) (.seq (.reg true r51_2) .ret)))
theorem e51 (hl : args.length = 1) (s : pwp Tryz.prog [] c51 (fin Tryz.prog [.tmp 2] h K) (slots0 (olds args)) h) : CanP Tryz.prog 51 args h K :=
  can_of2 (n := 12) mixed Tryz.func51 rfl (by kernel_rfl) (by rw [hl]; kernel_rfl) rfl (by kernel_rfl) s
/-! ### (*naskh.props.Props).is: function 128 -/
def r128_0 : List PS := [.mk (some 6) (.assign (.const (.bool false))) none]
def r128_1 : List PS := [.mk (some 10) (.move (.tmp 0)) none,
  .mk (some 11) (.call ⟨(.value (.func 85)), #[(.tmp 10)], #[26]⟩) none,
  .mk (some 12) (.unOp .not 4 (.tmp 11)) none]
def r128_2 : List PS := [.mk (some 6) (.assign (.const (.bool false))) none]
def r128_3 : List PS := [.mk (some 13) (.move (.tmp 0)) none,
  .mk (some 14) (.move (.tmp 1)) none,
  .mk (some 15) (.call ⟨(.value (.func 45)), #[(.tmp 13), (.tmp 14)], #[26, 3]⟩) none,
  .mk (some 7) (.assign (.tmp 15)) none]
def r128_4 : List PS := [.mk (some 16) (.move (.tmp 2)) none,
  .mk (some 17) (.call ⟨(.builtin .len), #[(.tmp 16)], #[22]⟩) none,
  .mk (some 18) (.move (.const (.int .i64 0))) none]
def r128_5 : List PS := [.mk (some 19) (.binOp .lss 3 (.tmp 18) (.tmp 17) 3) none]
def r128_6 : List PS := [.mk (some 20) (.indexAddr 22 (.tmp 16) (.tmp 18)) none,
  .mk (some 21) (.load 3 (.tmp 20)) none,
  .mk (some 9) (.assign (.tmp 21)) none]
def r128_7 : List PS := [.mk (some 22) (.move (.tmp 7)) none,
  .mk (some 23) (.move (.tmp 9)) none,
  .mk (some 24) (.binOp .eql 3 (.tmp 22) (.tmp 23) 3) none]
def r128_8 : List PS := [.mk (some 6) (.assign (.const (.bool true))) none]
def r128_9 : List PS := [.mk (some 25) (.binOp .add 3 (.tmp 18) (.const (.int .i64 1)) 3) none,
  .mk (some 18) (.move (.tmp 25)) none]
def r128_10 : List PS := [.mk (some 6) (.assign (.const (.bool false))) none]
def c128 : PC := (.seq (.reg false r128_0) (.seq (.seq (.reg false r128_1) (.cond (.tmp 12) (.seq (.reg false r128_2) .ret) .skip)) (.seq (.reg false r128_3) (.seq (.seq (.reg false r128_4) (.block 0 (.loop (.seq (.reg false r128_5) (.seq (.cond (.tmp 19) .skip (.exit 0)) (.seq (.block 1 (.seq (.reg false r128_6) (.seq (.reg false r128_7) (.cond (.tmp 24) (.seq (.reg false r128_8) .ret) .skip)))) (.reg false r128_9))))))) (.seq (.reg false r128_10) .ret)))))
theorem e128 (hl : args.length = 3) (s : pwp Tryz.prog [] c128 (fin Tryz.prog [.tmp 6] h K) (slots0 (olds args)) h) : CanP Tryz.prog 128 args h K :=
  can_of2 (n := 26) mixed Tryz.func128 rfl (by kernel_rfl) (by rw [hl]; kernel_rfl) rfl (by kernel_rfl) s
/-! ### (*naskh.props.Props).Mark: function 93 -/
def r93_0 : List PS := [.mk (some 4) (.assign (.const (.bool false))) none]
def r93_1 : List PS := [.mk (some 5) (.move (.tmp 0)) none,
  .mk (some 6) (.move (.tmp 1)) none,
  .mk (some 7) (.buildSlice 22 1 #[(0, (.const (.int .i64 8)))]) none,
  .mk (some 8) (.call ⟨(.value (.func 128)), #[(.tmp 5), (.tmp 6), (.tmp 7)], #[26, 3, 22]⟩) none,
  .mk (some 4) (.assign (.tmp 8)) none]
def c93 : PC := (.seq (.reg false r93_0) (.seq (.reg false r93_1) .ret))
theorem e93 (hl : args.length = 2) (s : pwp Tryz.prog [] c93 (fin Tryz.prog [.tmp 4] h K) (slots0 (olds args)) h) : CanP Tryz.prog 93 args h K :=
  can_of2 (n := 9) mixed Tryz.func93 rfl (by kernel_rfl) (by rw [hl]; kernel_rfl) rfl (by kernel_rfl) s
/-! ### (*naskh.lint.part).bare: function 52 -/
def r52_0 : List PS := [.mk (some 4) (.assign (.const (.bool false))) none]
def r52_1 : List PS := [.mk (some 5) (.move (.tmp 0)) none,
  .mk (some 6) (.nilCheck (.tmp 5)) none,
  .mk (some 7) (.fieldAddr 86 (.tmp 6) 0) none,
  .mk (some 8) (.load 43 (.tmp 7)) none,
  .mk (some 9) (.nilCheck (.tmp 8)) none,
  .mk (some 10) (.fieldAddr 45 (.tmp 9) 0) none,
  .mk (some 11) (.load 26 (.tmp 10)) none,
  .mk (some 12) (.move (.tmp 0)) none,
  .mk (some 13) (.nilCheck (.tmp 12)) none,
  .mk (some 14) (.fieldAddr 86 (.tmp 13) 0) none,
  .mk (some 15) (.load 43 (.tmp 14)) none,
  .mk (some 16) (.nilCheck (.tmp 15)) none,
  .mk (some 17) (.fieldAddr 45 (.tmp 16) 2) none,
  .mk (some 18) (.load 22 (.tmp 17)) none,
  .mk (some 19) (.move (.tmp 1)) none,
  .mk (some 20) (.indexAddr 22 (.tmp 18) (.tmp 19)) none,
  .mk (some 21) (.load 3 (.tmp 20)) none,
  .mk (some 22) (.call ⟨(.value (.func 93)), #[(.tmp 11), (.tmp 21)], #[26, 3]⟩) none,
  .mk (some 23) (.unOp .not 4 (.tmp 22)) none]
def r52_2 : List PS := [.mk (some 4) (.assign (.const (.bool false))) none]
def r52_3 : List PS := [.mk (some 24) (.move (.tmp 1)) none,
  .mk (some 25) (.move (.tmp 0)) none,
  .mk (some 26) (.nilCheck (.tmp 25)) none,
  .mk (some 27) (.fieldAddr 86 (.tmp 26) 1) none,
  .mk (some 28) (.fieldAddr 49 (.tmp 27) 0) none,
  .mk (some 29) (.load 3 (.tmp 28)) none,
  .mk (some 30) (.binOp .eql 3 (.tmp 24) (.tmp 29) 3) none]
def r52_4 : List PS := [.mk (some 4) (.assign (.const (.bool true))) none]
def r52_5 : List PS := [.mk (some 31) (.move (.tmp 0)) none,
  .mk (some 32) (.nilCheck (.tmp 31)) none,
  .mk (some 33) (.fieldAddr 86 (.tmp 32) 0) none,
  .mk (some 34) (.load 43 (.tmp 33)) none,
  .mk (some 35) (.nilCheck (.tmp 34)) none,
  .mk (some 36) (.fieldAddr 45 (.tmp 35) 0) none,
  .mk (some 37) (.load 26 (.tmp 36)) none,
  .mk (some 38) (.move (.tmp 0)) none,
  .mk (some 39) (.nilCheck (.tmp 38)) none,
  .mk (some 40) (.fieldAddr 86 (.tmp 39) 0) none,
  .mk (some 41) (.load 43 (.tmp 40)) none,
  .mk (some 42) (.nilCheck (.tmp 41)) none,
  .mk (some 43) (.fieldAddr 45 (.tmp 42) 2) none,
  .mk (some 44) (.load 22 (.tmp 43)) none,
  .mk (some 45) (.move (.tmp 1)) none,
  .mk (some 46) (.binOp .sub 3 (.tmp 45) (.const (.int .i64 1)) 3) none,
  .mk (some 47) (.indexAddr 22 (.tmp 44) (.tmp 46)) none,
  .mk (some 48) (.load 3 (.tmp 47)) none,
  .mk (some 49) (.call ⟨(.value (.func 45)), #[(.tmp 37), (.tmp 48)], #[26, 3]⟩) none]
def r52_6 : List PS := [.mk (some 51) (.binOp .eql 3 (.tmp 49) (.const (.int .i64 10)) 3) none,
  .mk (some 50) (.assign (.tmp 51)) none]
def r52_7 : List PS := [.mk (some 52) (.binOp .eql 3 (.tmp 49) (.const (.int .i64 11)) 3) none,
  .mk (some 50) (.assign (.tmp 52)) none]
def r52_8 : List PS := [.mk (some 53) (.binOp .eql 3 (.tmp 49) (.const (.int .i64 12)) 3) none,
  .mk (some 50) (.assign (.tmp 53)) none]
def r52_9 : List PS := [.mk (some 4) (.assign (.const (.bool true))) none]
def r52_10 : List PS := [.mk (some 4) (.assign (.const (.bool false))) none]
def c52 : PC := (.seq (.reg false r52_0) (.seq (.seq (.reg true r52_1) (.cond (.tmp 23) (.seq (.reg false r52_2) .ret) .skip)) (.seq (.seq (.reg false r52_3) (.cond (.tmp 30) (.seq (.reg false r52_4) .ret) .skip)) (.seq (.seq (.reg true r52_5) (.block 0 (.seq (.seq (.reg false r52_6) (.cond (.tmp 50) .skip (.seq (.reg false r52_7) (.cond (.tmp 50) .skip (.reg false r52_8))))) (.cond (.tmp 50) (.seq (.reg false r52_9) .ret) .skip)))) (.seq (.reg false r52_10) .ret)))))
theorem e52 (hl : args.length = 2) (s : pwp Tryz.prog [] c52 (fin Tryz.prog [.tmp 4] h K) (slots0 (olds args)) h) : CanP Tryz.prog 52 args h K :=
  can_of2 (n := 54) mixed Tryz.func52 rfl (by kernel_rfl) (by rw [hl]; kernel_rfl) rfl (by kernel_rfl) s
/-! ### (*naskh.ccc.Classes).Of: function 115 -/
def r115_0 : List PS := [.mk (some 4) (.assign (.const (.int .i64 0))) none]
def r115_1 : List PS := [.mk (some 5) (.move (.tmp 0)) none,
  .mk (some 6) (.binOp .eql 28 (.tmp 5) (.const (.pointer none)) 28) none,
  .mk (some 7) (.move (.tmp 6)) none,
  .mk (some 8) (.move (.tmp 0)) (some (7, false)),
  .mk (some 9) (.nilCheck (.tmp 8)) (some (7, false)),
  .mk (some 10) (.fieldAddr 66 (.tmp 9) 0) (some (7, false)),
  .mk (some 11) (.fieldAddr 64 (.tmp 10) 0) (some (7, false)),
  .mk (some 12) (.load 53 (.tmp 11)) (some (7, false)),
  .mk (some 13) (.binOp .eql 53 (.tmp 12) (.const (.pointer none)) 53) (some (7, false)),
  .mk (some 14) (.pick (.tmp 7) (.const (.bool true)) (.tmp 13)) none]
def r115_2 : List PS := [.mk (some 4) (.assign (.const (.int .i64 0))) none]
def r115_3 : List PS := [.mk (some 15) (.move (.tmp 0)) none,
  .mk (some 16) (.nilCheck (.tmp 15)) none,
  .mk (some 17) (.fieldAddr 66 (.tmp 16) 0) none,
  .mk (some 18) (.fieldAddr 64 (.tmp 17) 0) none,
  .mk (some 19) (.load 53 (.tmp 18)) none,
  .mk (some 20) (.move (.tmp 1)) none,
  .mk (some 21) (.call ⟨(.value (.func 87)), #[(.tmp 19), (.tmp 20)], #[53, 3]⟩) none,
  .mk (some 4) (.assign (.tmp 21)) none]
def c115 : PC := (.seq (.reg false r115_0) (.seq (.seq (.reg false r115_1) (.cond (.tmp 14) (.seq (.reg false r115_2) .ret) .skip)) (.seq (.reg false r115_3) .ret)))
theorem e115 (hl : args.length = 2) (s : pwp Tryz.prog [] c115 (fin Tryz.prog [.tmp 4] h K) (slots0 (olds args)) h) : CanP Tryz.prog 115 args h K :=
  can_of2 (n := 22) mixed Tryz.func115 rfl (by kernel_rfl) (by rw [hl]; kernel_rfl) rfl (by kernel_rfl) s
/-! ### (*naskh.ccc.Classes).before: function 129 -/
def r129_0 : List PS := [.mk (some 6) (.assign (.const (.bool false))) none]
def r129_1 : List PS := [.mk (some 8) (.move (.tmp 0)) none,
  .mk (some 9) (.move (.tmp 2)) none,
  .mk (some 10) (.call ⟨(.value (.func 115)), #[(.tmp 8), (.tmp 9)], #[28, 3]⟩) none,
  .mk (some 7) (.assign (.tmp 10)) none]
def r129_2 : List PS := [.mk (some 11) (.move (.tmp 7)) none,
  .mk (some 12) (.binOp .eql 3 (.tmp 11) (.const (.int .i64 0)) 3) none,
  .mk (some 13) (.move (.tmp 12)) none,
  .mk (some 14) (.move (.tmp 0)) (some (13, false)),
  .mk (some 15) (.move (.tmp 1)) (some (13, false)),
  .mk (some 16) (.call ⟨(.value (.func 115)), #[(.tmp 14), (.tmp 15)], #[28, 3]⟩) (some (13, false)),
  .mk (some 17) (.move (.tmp 7)) (some (13, false)),
  .mk (some 18) (.binOp .leq 3 (.tmp 16) (.tmp 17) 3) (some (13, false)),
  .mk (some 19) (.pick (.tmp 13) (.const (.bool true)) (.tmp 18)) none,
  .mk (some 6) (.assign (.tmp 19)) none]
def c129 : PC := (.seq (.reg false r129_0) (.seq (.reg false r129_1) (.seq (.reg false r129_2) .ret)))
theorem e129 (hl : args.length = 3) (s : pwp Tryz.prog [] c129 (fin Tryz.prog [.tmp 6] h K) (slots0 (olds args)) h) : CanP Tryz.prog 129 args h K :=
  can_of2 (n := 20) mixed Tryz.func129 rfl (by kernel_rfl) (by rw [hl]; kernel_rfl) rfl (by kernel_rfl) s
/-! ### (*naskh.ccc.Classes).Ordered: function 94 -/
def r94_0 : List PS := [.mk (some 4) (.assign (.const (.bool false))) none]
def r94_1 : List PS := [.mk (some 5) (.assign (.const (.int .i64 1))) none]
def r94_2 : List PS := [.mk (some 6) (.move (.tmp 5)) none,
  .mk (some 7) (.move (.tmp 1)) none,
  .mk (some 8) (.call ⟨(.builtin .len), #[(.tmp 7)], #[22]⟩) none,
  .mk (some 9) (.binOp .lss 3 (.tmp 6) (.tmp 8) 3) none]
def r94_3 : List PS := [.mk (some 12) (.move (.tmp 0)) none,
  .mk (some 13) (.move (.tmp 1)) none,
  .mk (some 14) (.move (.tmp 5)) none,
  .mk (some 15) (.binOp .sub 3 (.tmp 14) (.const (.int .i64 1)) 3) none,
  .mk (some 16) (.indexAddr 22 (.tmp 13) (.tmp 15)) none,
  .mk (some 17) (.load 3 (.tmp 16)) none,
  .mk (some 18) (.move (.tmp 1)) none,
  .mk (some 19) (.move (.tmp 5)) none,
  .mk (some 20) (.indexAddr 22 (.tmp 18) (.tmp 19)) none,
  .mk (some 21) (.load 3 (.tmp 20)) none,
  .mk (some 22) (.call ⟨(.value (.func 129)), #[(.tmp 12), (.tmp 17), (.tmp 21)], #[28, 3, 3]⟩) none,
  .mk (some 23) (.unOp .not 4 (.tmp 22)) none]
def r94_4 : List PS := [.mk (some 4) (.assign (.const (.bool false))) none]
def r94_5 : List PS := [.mk (some 10) (.move (.tmp 5)) none,
  .mk (some 11) (.binOp .add 3 (.tmp 10) (.const (.int .i64 1)) 3) none,
  .mk (some 5) (.assign (.tmp 11)) none]
def r94_6 : List PS := [.mk (some 4) (.assign (.const (.bool true))) none]
def c94 : PC := (.seq (.reg false r94_0) (.seq (.seq (.reg false r94_1) (.block 0 (.loop (.seq (.seq (.reg false r94_2) (.cond (.tmp 9) .skip (.exit 0))) (.seq (.block 1 (.seq (.reg true r94_3) (.cond (.tmp 23) (.seq (.reg false r94_4) .ret) .skip))) (.reg false r94_5)))))) (.seq (.reg false r94_6) .ret)))
theorem e94 (hl : args.length = 2) (s : pwp Tryz.prog [] c94 (fin Tryz.prog [.tmp 4] h K) (slots0 (olds args)) h) : CanP Tryz.prog 94 args h K :=
  can_of2 (n := 24) mixed Tryz.func94 rfl (by kernel_rfl) (by rw [hl]; kernel_rfl) rfl (by kernel_rfl) s
/-! ### (*naskh.lint.text).behind: function 53 -/
def r53_0 : List PS := [.mk (some 4) (.assign (.const (.bool false))) none]
def r53_1 : List PS := [.mk (some 5) (.move (.tmp 1)) none,
  .mk (some 6) (.binOp .gtr 3 (.tmp 5) (.const (.int .i64 0)) 3) none,
  .mk (some 7) (.move (.tmp 6)) none,
  .mk (some 8) (.move (.tmp 0)) (some (7, true)),
  .mk (some 9) (.nilCheck (.tmp 8)) (some (7, true)),
  .mk (some 10) (.fieldAddr 45 (.tmp 9) 1) (some (7, true)),
  .mk (some 11) (.load 28 (.tmp 10)) (some (7, true)),
  .mk (some 12) (.move (.tmp 0)) (some (7, true)),
  .mk (some 13) (.nilCheck (.tmp 12)) (some (7, true)),
  .mk (some 14) (.fieldAddr 45 (.tmp 13) 2) (some (7, true)),
  .mk (some 15) (.load 22 (.tmp 14)) (some (7, true)),
  .mk (some 16) (.move (.tmp 1)) (some (7, true)),
  .mk (some 17) (.binOp .sub 3 (.tmp 16) (.const (.int .i64 1)) 3) (some (7, true)),
  .mk (some 18) (.move (.tmp 1)) (some (7, true)),
  .mk (some 19) (.binOp .add 3 (.tmp 18) (.const (.int .i64 1)) 3) (some (7, true)),
  .mk (some 20) (.slice 22 (.tmp 15) (some (.tmp 17)) (some (.tmp 19)) none) (some (7, true)),
  .mk (some 21) (.call ⟨(.value (.func 94)), #[(.tmp 11), (.tmp 20)], #[28, 22]⟩) (some (7, true)),
  .mk (some 22) (.unOp .not 4 (.tmp 21)) (some (7, true)),
  .mk (some 23) (.pick (.tmp 7) (.tmp 22) (.const (.bool false))) none,
  .mk (some 4) (.assign (.tmp 23)) none]
def c53 : PC := (.seq (.reg false r53_0) (.seq (.reg true r53_1) .ret))
theorem e53 (hl : args.length = 2) (s : pwp Tryz.prog [] c53 (fin Tryz.prog [.tmp 4] h K) (slots0 (olds args)) h) : CanP Tryz.prog 53 args h K :=
  can_of2 (n := 24) mixed Tryz.func53 rfl (by kernel_rfl) (by rw [hl]; kernel_rfl) rfl (by kernel_rfl) s
/-! ### naskh.props.rows: function 130 -/
def r130_0 : List PS := [.mk (some 0) (.alloc 166) none]
def r130_1 : List PS := [.mk (some 1) (.build 165 #[(0, (.const (.int .i64 48))), (1, (.const (.int .i64 1)))]) none,
  .mk (some 2) (.build 165 #[(0, (.const (.int .i64 1632))), (1, (.const (.int .i64 2)))]) none,
  .mk (some 3) (.build 165 #[(0, (.const (.int .i64 1776))), (1, (.const (.int .i64 3)))]) none,
  .mk (some 4) (.build 166 #[(0, (.tmp 1)), (1, (.tmp 2)), (2, (.tmp 3))]) none,
  .mk none (.store 166 (.tmp 0) (.tmp 4)) none]
def c130 : PC := (.seq (.reg false r130_0) (.seq (.reg false r130_1) .ret))
theorem e130 (hl : args.length = 0) (s : pwp Tryz.prog [0] c130 (fin Tryz.prog [.cell 0 166] h K) (slots0 (olds args)) h) : CanP Tryz.prog 130 args h K :=
  can_of2 (n := 5) mixed Tryz.func130 rfl (by kernel_rfl) (by rw [hl]; kernel_rfl) rfl (by kernel_rfl) s
/-! ### (*naskh.props.Props).Digit: function 95 -/
def r95_0 : List PS := [.mk (some 4) (.assign (.const (.int .i64 0))) none,
  .mk (some 5) (.assign (.const (.int .i64 0))) none]
def r95_1 : List PS := [.mk (some 8) (.move (.tmp 0)) none,
  .mk (some 9) (.call ⟨(.value (.func 85)), #[(.tmp 8)], #[26]⟩) none,
  .mk (some 10) (.unOp .not 4 (.tmp 9)) none]
def r95_2 : List PS := [.mk (some 4) (.assign (.const (.int .i64 0))) none,
  .mk (some 5) (.assign (.const (.int .i64 0))) none]
def r95_3 : List PS := [.mk (some 11) (.call ⟨(.value (.func 130)), #[], #[]⟩) none,
  .mk (some 12) (.move (.const (.int .i64 0))) none]
def r95_4 : List PS := [.mk (some 13) (.binOp .lss 3 (.tmp 12) (.const (.int .i64 3)) 3) none]
def r95_5 : List PS := [.mk (some 14) (.index 166 (.tmp 11) (.tmp 12)) none,
  .mk (some 7) (.alloc 165) none,
  .mk none (.store 165 (.tmp 7) (.tmp 14)) none,
  .frz 7]
def r95_6 : List PS := [.mk (some 15) (.move (.tmp 1)) none,
  .mk (some 16) (.fieldAddr 165 (.tmp 7) 0) none,
  .mk (some 17) (.load 3 (.tmp 16)) none,
  .mk (some 18) (.binOp .geq 3 (.tmp 15) (.tmp 17) 3) none,
  .mk (some 19) (.move (.tmp 18)) none,
  .mk (some 20) (.move (.tmp 1)) (some (19, true)),
  .mk (some 21) (.fieldAddr 165 (.tmp 7) 0) (some (19, true)),
  .mk (some 22) (.load 3 (.tmp 21)) (some (19, true)),
  .mk (some 23) (.binOp .add 3 (.tmp 22) (.const (.int .i64 10)) 3) (some (19, true)),
  .mk (some 24) (.binOp .lss 3 (.tmp 20) (.tmp 23) 3) (some (19, true)),
  .mk (some 25) (.pick (.tmp 19) (.tmp 24) (.const (.bool false))) none]
def r95_7 : List PS := [.mk (some 26) (.move (.tmp 1)) none,
  .mk (some 27) (.fieldAddr 165 (.tmp 7) 0) none,
  .mk (some 28) (.load 3 (.tmp 27)) none,
  .mk (some 29) (.binOp .sub 3 (.tmp 26) (.tmp 28) 3) none,
  .mk (some 30) (.fieldAddr 165 (.tmp 7) 1) none,
  .mk (some 31) (.load 3 (.tmp 30)) none,
  .mk (some 4) (.assign (.tmp 29)) none,
  .mk (some 5) (.assign (.tmp 31)) none]
def r95_8 : List PS := [.mk (some 32) (.binOp .add 3 (.tmp 12) (.const (.int .i64 1)) 3) none,
  .mk (some 12) (.move (.tmp 32)) none]
def r95_9 : List PS := [.mk (some 4) (.assign (.const (.int .i64 0))) none,
  .mk (some 5) (.assign (.const (.int .i64 0))) none]
def c95 : PC := (.seq (.reg false r95_0) (.seq (.seq (.reg false r95_1) (.cond (.tmp 10) (.seq (.reg false r95_2) .ret) .skip)) (.seq (.seq (.reg false r95_3) (.block 0 (.loop (.seq (.reg false r95_4) (.seq (.cond (.tmp 13) .skip (.exit 0)) (.seq (.block 1 (.seq (.reg false r95_5) (.seq (.reg false r95_6) (.cond (.tmp 25) (.seq (.reg true r95_7) .ret) .skip)))) (.reg false r95_8))))))) (.seq (.reg false r95_9) .ret))))
theorem e95 (hl : args.length = 2) (s : pwp Tryz.prog [7] c95 (fin Tryz.prog [.tmp 4, .tmp 5] h K) (slots0 (olds args)) h) : CanP Tryz.prog 95 args h K :=
  can_of2 (n := 33) mixed Tryz.func95 rfl (by kernel_rfl) (by rw [hl]; kernel_rfl) rfl (by kernel_rfl) s
/-! ### (*naskh.lint.text).mixed: function 54 -/
def r54_0 : List PS := [.mk (some 4) (.assign (.const (.bool false))) none]
def r54_1 : List PS := [.mk (some 9) (.move (.tmp 1)) none,
  .mk (some 10) (.binOp .eql 3 (.tmp 9) (.const (.int .i64 0)) 3) none]
def r54_2 : List PS := [.mk (some 4) (.assign (.const (.bool false))) none]
def r54_3 : List PS := [.mk (some 12) (.move (.tmp 0)) none,
  .mk (some 13) (.nilCheck (.tmp 12)) none,
  .mk (some 14) (.fieldAddr 45 (.tmp 13) 0) none,
  .mk (some 15) (.load 26 (.tmp 14)) none,
  .mk (some 16) (.move (.tmp 0)) none,
  .mk (some 17) (.nilCheck (.tmp 16)) none,
  .mk (some 18) (.fieldAddr 45 (.tmp 17) 2) none,
  .mk (some 19) (.load 22 (.tmp 18)) none,
  .mk (some 20) (.move (.tmp 1)) none,
  .mk (some 21) (.binOp .sub 3 (.tmp 20) (.const (.int .i64 1)) 3) none,
  .mk (some 22) (.indexAddr 22 (.tmp 19) (.tmp 21)) none,
  .mk (some 23) (.load 3 (.tmp 22)) none,
  .mk (some 24) (.call ⟨(.value (.func 95)), #[(.tmp 15), (.tmp 23)], #[26, 3]⟩) none,
  .mk (some 11) (.move (.tmp 24)) none,
  .mk (some 25) (.extract (.tmp 11) 0) none,
  .mk (some 26) (.extract (.tmp 11) 1) none,
  .mk (some 5) (.assign (.tmp 25)) none,
  .mk (some 6) (.assign (.tmp 26)) none]
def r54_4 : List PS := [.mk (some 28) (.move (.tmp 0)) none,
  .mk (some 29) (.nilCheck (.tmp 28)) none,
  .mk (some 30) (.fieldAddr 45 (.tmp 29) 0) none,
  .mk (some 31) (.load 26 (.tmp 30)) none,
  .mk (some 32) (.move (.tmp 0)) none,
  .mk (some 33) (.nilCheck (.tmp 32)) none,
  .mk (some 34) (.fieldAddr 45 (.tmp 33) 2) none,
  .mk (some 35) (.load 22 (.tmp 34)) none,
  .mk (some 36) (.move (.tmp 1)) none,
  .mk (some 37) (.indexAddr 22 (.tmp 35) (.tmp 36)) none,
  .mk (some 38) (.load 3 (.tmp 37)) none,
  .mk (some 39) (.call ⟨(.value (.func 95)), #[(.tmp 31), (.tmp 38)], #[26, 3]⟩) none,
  .mk (some 27) (.move (.tmp 39)) none,
  .mk (some 40) (.extract (.tmp 27) 0) none,
  .mk (some 41) (.extract (.tmp 27) 1) none,
  .mk (some 7) (.assign (.tmp 40)) none,
  .mk (some 8) (.assign (.tmp 41)) none]
def r54_5 : List PS := [.mk (some 42) (.move (.tmp 6)) none,
  .mk (some 43) (.move (.tmp 8)) none,
  .mk (some 44) (.binOp .neq 3 (.tmp 42) (.tmp 43) 3) none,
  .mk (some 45) (.move (.tmp 44)) none,
  .mk (some 46) (.move (.tmp 6)) (some (45, true)),
  .mk (some 47) (.binOp .neq 3 (.tmp 46) (.const (.int .i64 0)) 3) (some (45, true)),
  .mk (some 48) (.pick (.tmp 45) (.tmp 47) (.const (.bool false))) none,
  .mk (some 49) (.move (.tmp 48)) none,
  .mk (some 50) (.move (.tmp 8)) (some (49, true)),
  .mk (some 51) (.binOp .neq 3 (.tmp 50) (.const (.int .i64 0)) 3) (some (49, true)),
  .mk (some 52) (.pick (.tmp 49) (.tmp 51) (.const (.bool false))) none,
  .mk (some 4) (.assign (.tmp 52)) none]
def c54 : PC := (.seq (.reg false r54_0) (.seq (.seq (.reg false r54_1) (.cond (.tmp 10) (.seq (.reg false r54_2) .ret) .skip)) (.seq (.reg true r54_3) (.seq (.reg true r54_4) (.seq (.reg false r54_5) .ret)))))
theorem e54 (hl : args.length = 2) (s : pwp Tryz.prog [] c54 (fin Tryz.prog [.tmp 4] h K) (slots0 (olds args)) h) : CanP Tryz.prog 54 args h K :=
  can_of2 (n := 53) mixed Tryz.func54 rfl (by kernel_rfl) (by rw [hl]; kernel_rfl) rfl (by kernel_rfl) s
/-! ### (*naskh.lint.part).is: function 20 -/
def r20_0 : List PS := [.mk (some 6) (.assign (.const (.bool false))) none]
def r20_1 : List PS := [.mk (some 7) (.move (.tmp 1)) none]
def r20_2 : List PS := [.mk (some 9) (.binOp .eql 3 (.tmp 7) (.const (.int .i64 1)) 3) none,
  .mk (some 8) (.assign (.tmp 9)) none]
def r20_3 : List PS := [.mk (some 10) (.move (.tmp 0)) none,
  .mk (some 11) (.nilCheck (.tmp 10)) none,
  .mk (some 12) (.fieldAddr 86 (.tmp 11) 0) none,
  .mk (some 13) (.load 43 (.tmp 12)) none,
  .mk (some 14) (.move (.tmp 2)) none,
  .mk (some 15) (.call ⟨(.value (.func 49)), #[(.tmp 13), (.tmp 14)], #[43, 3]⟩) none,
  .mk (some 6) (.assign (.tmp 15)) none]
def r20_4 : List PS := [.mk (some 17) (.binOp .eql 3 (.tmp 7) (.const (.int .i64 2)) 3) none,
  .mk (some 16) (.assign (.tmp 17)) none]
def r20_5 : List PS := [.mk (some 18) (.move (.tmp 0)) none,
  .mk (some 19) (.move (.tmp 0)) none,
  .mk (some 20) (.nilCheck (.tmp 19)) none,
  .mk (some 21) (.fieldAddr 86 (.tmp 20) 2) none,
  .mk (some 22) (.load 22 (.tmp 21)) none,
  .mk (some 23) (.move (.tmp 2)) none,
  .mk (some 24) (.call ⟨(.value (.func 50)), #[(.tmp 18), (.tmp 22), (.tmp 23)], #[50, 22, 3]⟩) none,
  .mk (some 6) (.assign (.tmp 24)) none]
def r20_6 : List PS := [.mk (some 26) (.binOp .eql 3 (.tmp 7) (.const (.int .i64 3)) 3) none,
  .mk (some 25) (.assign (.tmp 26)) none]
def r20_7 : List PS := [.mk (some 27) (.move (.tmp 0)) none,
  .mk (some 28) (.move (.tmp 0)) none,
  .mk (some 29) (.nilCheck (.tmp 28)) none,
  .mk (some 30) (.fieldAddr 86 (.tmp 29) 3) none,
  .mk (some 31) (.load 22 (.tmp 30)) none,
  .mk (some 32) (.move (.tmp 2)) none,
  .mk (some 33) (.call ⟨(.value (.func 50)), #[(.tmp 27), (.tmp 31), (.tmp 32)], #[50, 22, 3]⟩) none,
  .mk (some 6) (.assign (.tmp 33)) none]
def r20_8 : List PS := [.mk (some 35) (.binOp .eql 3 (.tmp 7) (.const (.int .i64 4)) 3) none,
  .mk (some 34) (.assign (.tmp 35)) none]
def r20_9 : List PS := [.mk (some 36) (.move (.tmp 0)) none,
  .mk (some 37) (.nilCheck (.tmp 36)) none,
  .mk (some 38) (.fieldAddr 86 (.tmp 37) 0) none,
  .mk (some 39) (.load 43 (.tmp 38)) none,
  .mk (some 40) (.nilCheck (.tmp 39)) none,
  .mk (some 41) (.fieldAddr 45 (.tmp 40) 2) none,
  .mk (some 42) (.load 22 (.tmp 41)) none,
  .mk (some 43) (.move (.tmp 2)) none,
  .mk (some 44) (.indexAddr 22 (.tmp 42) (.tmp 43)) none,
  .mk (some 45) (.load 3 (.tmp 44)) none,
  .mk (some 46) (.call ⟨(.value (.func 51)), #[(.tmp 45)], #[3]⟩) none,
  .mk (some 6) (.assign (.tmp 46)) none]
def r20_10 : List PS := [.mk (some 48) (.binOp .eql 3 (.tmp 7) (.const (.int .i64 5)) 3) none,
  .mk (some 47) (.assign (.tmp 48)) none]
def r20_11 : List PS := [.mk (some 49) (.move (.tmp 0)) none,
  .mk (some 50) (.move (.tmp 2)) none,
  .mk (some 51) (.call ⟨(.value (.func 52)), #[(.tmp 49), (.tmp 50)], #[50, 3]⟩) none,
  .mk (some 6) (.assign (.tmp 51)) none]
def r20_12 : List PS := [.mk (some 53) (.binOp .eql 3 (.tmp 7) (.const (.int .i64 6)) 3) none,
  .mk (some 52) (.assign (.tmp 53)) none]
def r20_13 : List PS := [.mk (some 54) (.move (.tmp 0)) none,
  .mk (some 55) (.nilCheck (.tmp 54)) none,
  .mk (some 56) (.fieldAddr 86 (.tmp 55) 0) none,
  .mk (some 57) (.load 43 (.tmp 56)) none,
  .mk (some 58) (.move (.tmp 2)) none,
  .mk (some 59) (.call ⟨(.value (.func 53)), #[(.tmp 57), (.tmp 58)], #[43, 3]⟩) none,
  .mk (some 6) (.assign (.tmp 59)) none]
def r20_14 : List PS := [.mk (some 61) (.binOp .eql 3 (.tmp 7) (.const (.int .i64 7)) 3) none,
  .mk (some 60) (.assign (.tmp 61)) none]
def r20_15 : List PS := [.mk (some 62) (.move (.tmp 0)) none,
  .mk (some 63) (.nilCheck (.tmp 62)) none,
  .mk (some 64) (.fieldAddr 86 (.tmp 63) 0) none,
  .mk (some 65) (.load 43 (.tmp 64)) none,
  .mk (some 66) (.move (.tmp 2)) none,
  .mk (some 67) (.call ⟨(.value (.func 54)), #[(.tmp 65), (.tmp 66)], #[43, 3]⟩) none,
  .mk (some 6) (.assign (.tmp 67)) none]
def r20_16 : List PS := [.mk (some 69) (.binOp .eql 3 (.tmp 7) (.const (.int .i64 8)) 3) none,
  .mk (some 68) (.assign (.tmp 69)) none]
def r20_17 : List PS := [.mk (some 70) (.move (.tmp 0)) none,
  .mk (some 71) (.nilCheck (.tmp 70)) none,
  .mk (some 72) (.fieldAddr 86 (.tmp 71) 0) none,
  .mk (some 73) (.load 43 (.tmp 72)) none,
  .mk (some 74) (.nilCheck (.tmp 73)) none,
  .mk (some 75) (.fieldAddr 45 (.tmp 74) 2) none,
  .mk (some 76) (.load 22 (.tmp 75)) none,
  .mk (some 77) (.move (.tmp 2)) none,
  .mk (some 78) (.call ⟨(.value (.func 34)), #[(.tmp 76), (.tmp 77)], #[22, 3]⟩) none,
  .mk (some 6) (.assign (.tmp 78)) none]
def r20_18 : List PS := [.mk (some 6) (.assign (.const (.bool false))) none]
def c20 : PC := (.seq (.reg false r20_0) (.seq (.seq (.reg false r20_1) (.block 0 (.seq (.reg false r20_2) (.cond (.tmp 8) (.seq (.reg false r20_3) .ret) (.seq (.reg false r20_4) (.cond (.tmp 16) (.seq (.reg false r20_5) .ret) (.seq (.reg false r20_6) (.cond (.tmp 25) (.seq (.reg false r20_7) .ret) (.seq (.reg false r20_8) (.cond (.tmp 34) (.seq (.reg false r20_9) .ret) (.seq (.reg false r20_10) (.cond (.tmp 47) (.seq (.reg false r20_11) .ret) (.seq (.reg false r20_12) (.cond (.tmp 52) (.seq (.reg false r20_13) .ret) (.seq (.reg false r20_14) (.cond (.tmp 60) (.seq (.reg false r20_15) .ret) (.seq (.reg false r20_16) (.cond (.tmp 68) (.seq (.reg false r20_17) .ret) .skip)))))))))))))))))) (.seq (.reg false r20_18) .ret)))
theorem e20 (hl : args.length = 3) (s : pwp Tryz.prog [] c20 (fin Tryz.prog [.tmp 6] h K) (slots0 (olds args)) h) : CanP Tryz.prog 20 args h K :=
  can_of2 (n := 79) mixed Tryz.func20 rfl (by kernel_rfl) (by rw [hl]; kernel_rfl) rfl (by kernel_rfl) s
/-! ### naskh.lint.Check: function 7 -/
def r7_0 : List PS := [.mk (some 6) (.assign (.const (.slice none 0 0))) none]
def r7_1 : List PS := [.mk (some 14) (.move (.tmp 0)) none,
  .mk (some 15) (.move (.tmp 1)) none,
  .mk (some 16) (.move (.tmp 2)) none,
  .mk (some 17) (.build 45 #[(0, (.tmp 14)), (1, (.tmp 15)), (2, (.tmp 16))]) none,
  .mk (some 18) (.box 45 (.tmp 17)) none,
  .mk (some 7) (.assign (.tmp 18)) none]
def r7_2 : List PS := [.mk (some 8) (.assign (.const (.slice none 0 0))) none]
def r7_3 : List PS := [.mk (some 19) (.move (.tmp 0)) none,
  .mk (some 20) (.move (.tmp 2)) none,
  .mk (some 21) (.call ⟨(.value (.func 18)), #[(.tmp 19), (.tmp 20)], #[26, 22]⟩) none,
  .mk (some 22) (.call ⟨(.builtin .len), #[(.tmp 21)], #[46]⟩) none,
  .mk (some 23) (.move (.const (.int .i64 0))) none]
def r7_4 : List PS := [.mk (some 24) (.binOp .lss 3 (.tmp 23) (.tmp 22) 3) none]
def r7_5 : List PS := [.mk (some 25) (.indexAddr 46 (.tmp 21) (.tmp 23)) none,
  .mk (some 26) (.load 49 (.tmp 25)) none,
  .mk (some 10) (.alloc 49) none,
  .mk none (.store 49 (.tmp 10) (.tmp 26)) none,
  .frz 10]
def r7_6 : List PS := [.mk (some 27) (.move (.tmp 7)) none,
  .mk (some 28) (.load 49 (.tmp 10)) none,
  .mk (some 29) (.call ⟨(.value (.func 19)), #[(.tmp 27), (.tmp 28)], #[43, 49]⟩) none,
  .mk (some 11) (.assign (.tmp 29)) none]
def r7_7 : List PS := [.mk (some 30) (.fieldAddr 49 (.tmp 10) 0) none,
  .mk (some 31) (.load 3 (.tmp 30)) none,
  .mk (some 12) (.assign (.tmp 31)) none]
def r7_8 : List PS := [.mk (some 32) (.move (.tmp 12)) none,
  .mk (some 33) (.fieldAddr 49 (.tmp 10) 1) none,
  .mk (some 34) (.load 3 (.tmp 33)) none,
  .mk (some 35) (.binOp .lss 3 (.tmp 32) (.tmp 34) 3) none]
def r7_9 : List PS := [.mk (some 13) (.assign (.const (.int .i64 1))) none]
def r7_10 : List PS := [.mk (some 38) (.move (.tmp 13)) none,
  .mk (some 39) (.binOp .leq 3 (.tmp 38) (.const (.int .i64 8)) 3) none]
def r7_11 : List PS := [.mk (some 42) (.move (.tmp 11)) none,
  .mk (some 43) (.move (.tmp 13)) none,
  .mk (some 44) (.move (.tmp 12)) none,
  .mk (some 45) (.call ⟨(.value (.func 20)), #[(.tmp 42), (.tmp 43), (.tmp 44)], #[50, 3, 3]⟩) none]
def r7_12 : List PS := [.mk (some 46) (.move (.tmp 8)) none,
  .mk (some 47) (.move (.tmp 12)) none,
  .mk (some 48) (.move (.tmp 13)) none,
  .mk (some 49) (.build 33 #[(0, (.tmp 47)), (1, (.tmp 48))]) none,
  .mk (some 50) (.buildSlice 24 1 #[(0, (.tmp 49))]) none,
  .mk (some 51) (.call ⟨(.builtin .append), #[(.tmp 46), (.tmp 50)], #[24, 24]⟩) none,
  .mk (some 8) (.assign (.tmp 51)) none]
def r7_13 : List PS := [.mk (some 40) (.move (.tmp 13)) none,
  .mk (some 41) (.binOp .add 3 (.tmp 40) (.const (.int .i64 1)) 3) none,
  .mk (some 13) (.assign (.tmp 41)) none]
def r7_14 : List PS := [.mk (some 36) (.move (.tmp 12)) none,
  .mk (some 37) (.binOp .add 3 (.tmp 36) (.const (.int .i64 1)) 3) none,
  .mk (some 12) (.assign (.tmp 37)) none]
def r7_15 : List PS := [.mk (some 52) (.binOp .add 3 (.tmp 23) (.const (.int .i64 1)) 3) none,
  .mk (some 23) (.move (.tmp 52)) none]
def r7_16 : List PS := [.mk (some 53) (.move (.tmp 8)) none,
  .mk (some 6) (.assign (.tmp 53)) none]
def c7 : PC := (.seq (.reg false r7_0) (.seq (.reg false r7_1) (.seq (.reg false r7_2) (.seq (.seq (.reg false r7_3) (.block 0 (.loop (.seq (.reg false r7_4) (.seq (.cond (.tmp 24) .skip (.exit 0)) (.seq (.block 1 (.seq (.reg false r7_5) (.seq (.reg false r7_6) (.seq (.reg false r7_7) (.block 2 (.loop (.seq (.seq (.reg false r7_8) (.cond (.tmp 35) .skip (.exit 2))) (.seq (.block 3 (.seq (.reg false r7_9) (.block 4 (.loop (.seq (.seq (.reg false r7_10) (.cond (.tmp 39) .skip (.exit 4))) (.seq (.block 5 (.seq (.reg false r7_11) (.cond (.tmp 45) (.reg false r7_12) .skip))) (.reg false r7_13))))))) (.reg false r7_14))))))))) (.reg false r7_15))))))) (.seq (.reg false r7_16) .ret)))))
theorem e7 (hl : args.length = 3) (s : pwp Tryz.prog [10] c7 (fin Tryz.prog [.tmp 6] h K) (slots0 (olds args)) h) : CanP Tryz.prog 7 args h K :=
  can_of2 (n := 54) mixed Tryz.func7 rfl (by kernel_rfl) (by rw [hl]; kernel_rfl) rfl (by kernel_rfl) s
/-! ### naskh.trie.may: function 55 -/
def r55_0 : List PS := [.mk (some 2) (.assign (.const (.int .i64 0))) none]
def r55_1 : List PS := [.mk (some 6) (.move (.tmp 0)) none,
  .mk (some 7) (.call ⟨(.builtin .len), #[(.tmp 6)], #[57]⟩) none,
  .mk (some 8) (.binOp .gtr 3 (.tmp 7) (.const (.int .i64 4096)) 3) none]
def r55_2 : List PS := [.mk (some 2) (.assign (.const (.int .i64 6))) none]
def r55_3 : List PS := [.mk (some 3) (.assign (.const (.int .i64 (-1)))) none]
def r55_4 : List PS := [.mk (some 9) (.move (.tmp 0)) none,
  .mk (some 10) (.call ⟨(.builtin .len), #[(.tmp 9)], #[57]⟩) none,
  .mk (some 11) (.move (.const (.int .i64 0))) none]
def r55_5 : List PS := [.mk (some 12) (.binOp .lss 3 (.tmp 11) (.tmp 10) 3) none]
def r55_6 : List PS := [.mk (some 13) (.indexAddr 57 (.tmp 9) (.tmp 11)) none,
  .mk (some 14) (.load 99 (.tmp 13)) none,
  .mk (some 5) (.alloc 99) none,
  .mk none (.store 99 (.tmp 5) (.tmp 14)) none,
  .frz 5]
def r55_7 : List PS := [.mk (some 15) (.fieldAddr 99 (.tmp 5) 0) none,
  .mk (some 16) (.load 3 (.tmp 15)) none,
  .mk (some 17) (.move (.tmp 3)) none,
  .mk (some 18) (.binOp .leq 3 (.tmp 16) (.tmp 17) 3) none,
  .mk (some 19) (.move (.tmp 18)) none,
  .mk (some 20) (.fieldAddr 99 (.tmp 5) 1) (some (19, false)),
  .mk (some 21) (.load 3 (.tmp 20)) (some (19, false)),
  .mk (some 22) (.fieldAddr 99 (.tmp 5) 0) (some (19, false)),
  .mk (some 23) (.load 3 (.tmp 22)) (some (19, false)),
  .mk (some 24) (.binOp .lss 3 (.tmp 21) (.tmp 23) 3) (some (19, false)),
  .mk (some 25) (.pick (.tmp 19) (.const (.bool true)) (.tmp 24)) none,
  .mk (some 26) (.move (.tmp 25)) none,
  .mk (some 27) (.fieldAddr 99 (.tmp 5) 1) (some (26, false)),
  .mk (some 28) (.load 3 (.tmp 27)) (some (26, false)),
  .mk (some 29) (.binOp .gtr 3 (.tmp 28) (.const (.int .i64 1114111)) 3) (some (26, false)),
  .mk (some 30) (.pick (.tmp 26) (.const (.bool true)) (.tmp 29)) none]
def r55_8 : List PS := [.mk (some 2) (.assign (.const (.int .i64 10))) none]
def r55_9 : List PS := [.mk (some 31) (.fieldAddr 99 (.tmp 5) 1) none,
  .mk (some 32) (.load 3 (.tmp 31)) none,
  .mk (some 3) (.assign (.tmp 32)) none]
def r55_10 : List PS := [.mk (some 33) (.binOp .add 3 (.tmp 11) (.const (.int .i64 1)) 3) none,
  .mk (some 11) (.move (.tmp 33)) none]
def r55_11 : List PS := [.mk (some 2) (.assign (.const (.int .i64 0))) none]
def c55 : PC := (.seq (.reg false r55_0) (.seq (.seq (.reg false r55_1) (.cond (.tmp 8) (.seq (.reg false r55_2) .ret) .skip)) (.seq (.reg false r55_3) (.seq (.seq (.reg false r55_4) (.block 0 (.loop (.seq (.reg false r55_5) (.seq (.cond (.tmp 12) .skip (.exit 0)) (.seq (.block 1 (.seq (.reg false r55_6) (.seq (.seq (.reg false r55_7) (.cond (.tmp 30) (.seq (.reg false r55_8) .ret) .skip)) (.reg false r55_9)))) (.reg false r55_10))))))) (.seq (.reg false r55_11) .ret)))))
theorem e55 (hl : args.length = 1) (s : pwp Tryz.prog [5] c55 (fin Tryz.prog [.tmp 2] h K) (slots0 (olds args)) h) : CanP Tryz.prog 55 args h K :=
  can_of2 (n := 34) mixed Tryz.func55 rfl (by kernel_rfl) (by rw [hl]; kernel_rfl) rfl (by kernel_rfl) s
/-! ### naskh.trie.even: function 96 -/
def r96_0 : List PS := [.mk (some 2) (.alloc 94) none]
def r96_1 : List PS := [.mk (some 3) (.alloc 94) none]
def r96_2 : List PS := [.mk (some 5) (.move (.const (.int .i64 0))) none]
def r96_3 : List PS := [.mk (some 6) (.binOp .lss 3 (.tmp 5) (.const (.int .i64 128)) 3) none]
def r96_4 : List PS := [.mk (some 7) (.move (.tmp 5)) none,
  .mk (some 4) (.assign (.tmp 7)) none]
def r96_5 : List PS := [.mk (some 8) (.move (.tmp 4)) none,
  .mk (some 9) (.move (.tmp 0)) none,
  .mk (some 10) (.indexAddr 94 (.tmp 3) (.tmp 8)) none,
  .mk none (.store 3 (.tmp 10) (.tmp 9)) none]
def r96_6 : List PS := [.mk (some 11) (.binOp .add 3 (.tmp 5) (.const (.int .i64 1)) 3) none,
  .mk (some 5) (.move (.tmp 11)) none]
def r96_7 : List PS := [.mk (some 12) (.load 94 (.tmp 3)) none,
  .mk none (.store 94 (.tmp 2) (.tmp 12)) none]
def c96 : PC := (.seq (.reg false r96_0) (.seq (.reg false r96_1) (.seq (.seq (.reg false r96_2) (.block 0 (.loop (.seq (.reg false r96_3) (.seq (.cond (.tmp 6) .skip (.exit 0)) (.seq (.block 1 (.seq (.reg false r96_4) (.reg false r96_5))) (.reg false r96_6))))))) (.seq (.reg false r96_7) .ret))))
theorem e96 (hl : args.length = 1) (s : pwp Tryz.prog [2, 3] c96 (fin Tryz.prog [.cell 2 94] h K) (slots0 (olds args)) h) : CanP Tryz.prog 96 args h K :=
  can_of2 (n := 13) mixed Tryz.func96 rfl (by kernel_rfl) (by rw [hl]; kernel_rfl) rfl (by kernel_rfl) s
/-! ### naskh.trie.filled: function 56 -/
def r56_0 : List PS := [.mk (some 8) (.alloc 94) none,
  .mk (some 9) (.assign (.const (.int .i64 0))) none]
def r56_1 : List PS := [.mk (some 14) (.move (.tmp 3)) none,
  .mk (some 15) (.call ⟨(.value (.func 96)), #[(.tmp 14)], #[3]⟩) none,
  .mk (some 10) (.alloc 94) none,
  .mk none (.store 94 (.tmp 10) (.tmp 15)) none]
def r56_2 : List PS := [.mk (some 16) (.move (.tmp 1)) none,
  .mk (some 17) (.binOp .mul 3 (.tmp 16) (.const (.int .i64 128)) 3) none,
  .mk (some 11) (.assign (.tmp 17)) none]
def r56_3 : List PS := [.mk (some 18) (.move (.tmp 2)) none,
  .mk (some 19) (.move (.tmp 0)) none,
  .mk (some 20) (.call ⟨(.builtin .len), #[(.tmp 19)], #[57]⟩) none,
  .mk (some 21) (.binOp .lss 3 (.tmp 18) (.tmp 20) 3) none,
  .mk (some 22) (.move (.tmp 21)) none,
  .mk (some 23) (.move (.tmp 0)) (some (22, true)),
  .mk (some 24) (.move (.tmp 2)) (some (22, true)),
  .mk (some 25) (.indexAddr 57 (.tmp 23) (.tmp 24)) (some (22, true)),
  .mk (some 26) (.fieldAddr 99 (.tmp 25) 0) (some (22, true)),
  .mk (some 27) (.load 3 (.tmp 26)) (some (22, true)),
  .mk (some 28) (.move (.tmp 11)) (some (22, true)),
  .mk (some 29) (.binOp .add 3 (.tmp 28) (.const (.int .i64 128)) 3) (some (22, true)),
  .mk (some 30) (.binOp .lss 3 (.tmp 27) (.tmp 29) 3) (some (22, true)),
  .mk (some 31) (.pick (.tmp 22) (.tmp 30) (.const (.bool false))) none]
def r56_4 : List PS := [.mk (some 34) (.move (.tmp 0)) none,
  .mk (some 35) (.move (.tmp 2)) none,
  .mk (some 36) (.indexAddr 57 (.tmp 34) (.tmp 35)) none,
  .mk (some 37) (.load 99 (.tmp 36)) none,
  .mk (some 12) (.alloc 99) none,
  .mk none (.store 99 (.tmp 12) (.tmp 37)) none,
  .frz 12]
def r56_5 : List PS := [.mk (some 38) (.fieldAddr 99 (.tmp 12) 0) none,
  .mk (some 39) (.load 3 (.tmp 38)) none,
  .mk (some 40) (.move (.tmp 11)) none,
  .mk (some 41) (.call ⟨(.builtin .max), #[(.tmp 39), (.tmp 40)], #[3, 3]⟩) none,
  .mk (some 13) (.assign (.tmp 41)) none]
def r56_6 : List PS := [.mk (some 42) (.move (.tmp 13)) none,
  .mk (some 43) (.fieldAddr 99 (.tmp 12) 1) none,
  .mk (some 44) (.load 3 (.tmp 43)) none,
  .mk (some 45) (.move (.tmp 11)) none,
  .mk (some 46) (.binOp .add 3 (.tmp 45) (.const (.int .i64 128)) 3) none,
  .mk (some 47) (.binOp .sub 3 (.tmp 46) (.const (.int .i64 1)) 3) none,
  .mk (some 48) (.call ⟨(.builtin .min), #[(.tmp 44), (.tmp 47)], #[3, 3]⟩) none,
  .mk (some 49) (.binOp .leq 3 (.tmp 42) (.tmp 48) 3) none]
def r56_7 : List PS := [.mk (some 52) (.move (.tmp 13)) none,
  .mk (some 53) (.move (.tmp 11)) none,
  .mk (some 54) (.binOp .sub 3 (.tmp 52) (.tmp 53) 3) none,
  .mk (some 55) (.fieldAddr 99 (.tmp 12) 2) none,
  .mk (some 56) (.load 3 (.tmp 55)) none,
  .mk (some 57) (.indexAddr 94 (.tmp 10) (.tmp 54)) none,
  .mk none (.store 3 (.tmp 57) (.tmp 56)) none]
def r56_8 : List PS := [.mk (some 50) (.move (.tmp 13)) none,
  .mk (some 51) (.binOp .add 3 (.tmp 50) (.const (.int .i64 1)) 3) none,
  .mk (some 13) (.assign (.tmp 51)) none]
def r56_9 : List PS := [.mk (some 58) (.fieldAddr 99 (.tmp 12) 1) none,
  .mk (some 59) (.load 3 (.tmp 58)) none,
  .mk (some 60) (.move (.tmp 11)) none,
  .mk (some 61) (.binOp .add 3 (.tmp 60) (.const (.int .i64 128)) 3) none,
  .mk (some 62) (.binOp .geq 3 (.tmp 59) (.tmp 61) 3) none]
def r56_10 : List PS := [.mk (some 32) (.move (.tmp 2)) none,
  .mk (some 33) (.binOp .add 3 (.tmp 32) (.const (.int .i64 1)) 3) none,
  .mk (some 2) (.assign (.tmp 33)) none]
def r56_11 : List PS := [.mk (some 63) (.load 94 (.tmp 10)) none,
  .mk (some 64) (.move (.tmp 2)) none,
  .mk none (.store 94 (.tmp 8) (.tmp 63)) none,
  .mk (some 9) (.assign (.tmp 64)) none]
def c56 : PC := (.seq (.reg false r56_0) (.seq (.reg false r56_1) (.seq (.reg false r56_2) (.seq (.block 0 (.loop (.seq (.seq (.reg false r56_3) (.cond (.tmp 31) .skip (.exit 0))) (.seq (.block 1 (.seq (.reg false r56_4) (.seq (.seq (.reg false r56_5) (.block 2 (.loop (.seq (.seq (.reg false r56_6) (.cond (.tmp 49) .skip (.exit 2))) (.seq (.block 3 (.reg false r56_7)) (.reg false r56_8)))))) (.seq (.reg false r56_9) (.cond (.tmp 62) (.exit 0) .skip))))) (.reg false r56_10))))) (.seq (.reg false r56_11) .ret)))))
theorem e56 (hl : args.length = 4) (s : pwp Tryz.prog [8, 10, 12] c56 (fin Tryz.prog [.cell 8 94, .tmp 9] h K) (slots0 (olds args)) h) : CanP Tryz.prog 56 args h K :=
  can_of2 (n := 65) mixed Tryz.func56 rfl (by kernel_rfl) (by rw [hl]; kernel_rfl) rfl (by kernel_rfl) s
/-! ### (*naskh.trie.stages).add: function 57 -/
def r57_0 : List PS := [.mk (some 3) (.box 94 (.tmp 1)) none,
  .mk (some 4) (.assign (.const (.int .i64 0))) none]
def r57_1 : List PS := [.mk (some 6) (.move (.tmp 0)) none,
  .mk (some 7) (.nilCheck (.tmp 6)) none,
  .mk (some 8) (.fieldAddr 90 (.tmp 7) 1) none,
  .mk (some 9) (.load 88 (.tmp 8)) none,
  .mk (some 10) (.call ⟨(.builtin .len), #[(.tmp 9)], #[88]⟩) none,
  .mk (some 11) (.move (.const (.int .i64 0))) none]
def r57_2 : List PS := [.mk (some 12) (.binOp .lss 3 (.tmp 11) (.tmp 10) 3) none]
def r57_3 : List PS := [.mk (some 13) (.move (.tmp 11)) none,
  .mk (some 5) (.assign (.tmp 13)) none]
def r57_4 : List PS := [.mk (some 14) (.move (.tmp 0)) none,
  .mk (some 15) (.nilCheck (.tmp 14)) none,
  .mk (some 16) (.fieldAddr 90 (.tmp 15) 1) none,
  .mk (some 17) (.load 88 (.tmp 16)) none,
  .mk (some 18) (.move (.tmp 5)) none,
  .mk (some 19) (.indexAddr 88 (.tmp 17) (.tmp 18)) none,
  .mk (some 20) (.load 94 (.tmp 19)) none,
  .mk (some 21) (.load 94 (.tmp 3)) none,
  .mk (some 22) (.binOp .eql 94 (.tmp 20) (.tmp 21) 94) none]
def r57_5 : List PS := [.mk (some 23) (.move (.tmp 5)) none,
  .mk (some 4) (.assign (.tmp 23)) none]
def r57_6 : List PS := [.mk (some 24) (.binOp .add 3 (.tmp 11) (.const (.int .i64 1)) 3) none,
  .mk (some 11) (.move (.tmp 24)) none]
def r57_7 : List PS := [.mk (some 25) (.move (.tmp 0)) none,
  .mk (some 26) (.move (.tmp 0)) none,
  .mk (some 27) (.nilCheck (.tmp 26)) none,
  .mk (some 28) (.fieldAddr 90 (.tmp 27) 1) none,
  .mk (some 29) (.load 88 (.tmp 28)) none,
  .mk (some 30) (.load 94 (.tmp 3)) none,
  .mk (some 31) (.buildSlice 88 1 #[(0, (.tmp 30))]) none,
  .mk (some 32) (.call ⟨(.builtin .append), #[(.tmp 29), (.tmp 31)], #[88, 88]⟩) none,
  .mk (some 33) (.nilCheck (.tmp 25)) none,
  .mk (some 34) (.fieldAddr 90 (.tmp 33) 1) none,
  .mk none (.store 88 (.tmp 34) (.tmp 32)) none]
def r57_8 : List PS := [.mk (some 35) (.move (.tmp 0)) none,
  .mk (some 36) (.nilCheck (.tmp 35)) none,
  .mk (some 37) (.fieldAddr 90 (.tmp 36) 1) none,
  .mk (some 38) (.load 88 (.tmp 37)) none,
  .mk (some 39) (.call ⟨(.builtin .len), #[(.tmp 38)], #[88]⟩) none,
  .mk (some 40) (.binOp .sub 3 (.tmp 39) (.const (.int .i64 1)) 3) none,
  .mk (some 4) (.assign (.tmp 40)) none]
def c57 : PC := (.seq (.reg false r57_0) (.seq (.seq (.reg false r57_1) (.block 0 (.loop (.seq (.reg false r57_2) (.seq (.cond (.tmp 12) .skip (.exit 0)) (.seq (.block 1 (.seq (.reg false r57_3) (.seq (.reg true r57_4) (.cond (.tmp 22) (.seq (.reg false r57_5) .ret) .skip)))) (.reg false r57_6))))))) (.seq (.reg true r57_7) (.seq (.reg false r57_8) .ret))))
theorem e57 (hl : args.length = 2) (s : pwp Tryz.prog [] c57 (fin Tryz.prog [.tmp 4] h K) (slots0 (olds args)) h) : CanP Tryz.prog 57 args h K :=
  can_of2 (n := 41) mixed Tryz.func57 rfl (by kernel_rfl) (by rw [hl]; kernel_rfl) rfl (by kernel_rfl) s
/-! ### naskh.trie.Build: function 21 -/
def r21_0 : List PS := [.mk (some 4) (.assign (.const (.pointer none))) none,
  .mk (some 5) (.assign (.const (.int .i64 0))) none]
def r21_1 : List PS := [.mk (some 13) (.move (.tmp 0)) none,
  .mk (some 14) (.call ⟨(.value (.func 55)), #[(.tmp 13)], #[57]⟩) none,
  .mk (some 6) (.assign (.tmp 14)) none]
def r21_2 : List PS := [.mk (some 15) (.move (.tmp 6)) none,
  .mk (some 16) (.binOp .neq 54 (.tmp 15) (.const (.int .i64 0)) 54) none]
def r21_3 : List PS := [.mk (some 17) (.move (.tmp 6)) none,
  .mk (some 4) (.assign (.const (.pointer none))) none,
  .mk (some 5) (.assign (.tmp 17)) none]
def r21_4 : List PS := [.mk (some 18) (.move (.tmp 1)) none,
  .mk (some 19) (.build 92 #[(1, (.tmp 18)), (2, (.const (.bool true)))]) none,
  .mk (some 20) (.box 92 (.tmp 19)) none,
  .mk (some 7) (.assign (.tmp 20)) none]
def r21_5 : List PS := [.mk (some 21) (.move (.tmp 7)) none,
  .mk (some 22) (.makeSlice 22 (.const (.int .i64 8704)) (.const (.int .i64 8704))) none,
  .mk (some 23) (.nilCheck (.tmp 21)) none,
  .mk (some 24) (.fieldAddr 92 (.tmp 23) 0) none,
  .mk (some 25) (.fieldAddr 90 (.tmp 24) 0) none,
  .mk none (.store 22 (.tmp 25) (.tmp 22)) none]
def r21_6 : List PS := [.mk (some 8) (.assign (.const (.int .i64 0))) none]
def r21_7 : List PS := [.mk (some 26) (.build 94 #[]) none,
  .mk (some 9) (.alloc 94) none,
  .mk none (.store 94 (.tmp 9) (.tmp 26)) none,
  .mk (some 10) (.assign (.const (.int .i64 (-1)))) none]
def r21_8 : List PS := [.mk (some 27) (.move (.const (.int .i64 0))) none]
def r21_9 : List PS := [.mk (some 28) (.binOp .lss 3 (.tmp 27) (.const (.int .i64 8704)) 3) none]
def r21_10 : List PS := [.mk (some 29) (.move (.tmp 27)) none,
  .mk (some 11) (.assign (.tmp 29)) none]
def r21_11 : List PS := [.mk (some 12) (.alloc 94) none]
def r21_12 : List PS := [.mk (some 31) (.move (.tmp 0)) none,
  .mk (some 32) (.move (.tmp 11)) none,
  .mk (some 33) (.move (.tmp 8)) none,
  .mk (some 34) (.move (.tmp 1)) none,
  .mk (some 35) (.call ⟨(.value (.func 56)), #[(.tmp 31), (.tmp 32), (.tmp 33), (.tmp 34)], #[57, 3, 3, 3]⟩) none,
  .mk (some 30) (.move (.tmp 35)) none,
  .mk (some 36) (.extract (.tmp 30) 0) none,
  .mk (some 37) (.extract (.tmp 30) 1) none,
  .mk none (.store 94 (.tmp 12) (.tmp 36)) none,
  .frz 12,
  .mk (some 8) (.assign (.tmp 37)) none]
def r21_13 : List PS := [.mk (some 38) (.move (.tmp 10)) none,
  .mk (some 39) (.binOp .lss 3 (.tmp 38) (.const (.int .i64 0)) 3) none,
  .mk (some 40) (.move (.tmp 39)) none,
  .mk (some 41) (.load 94 (.tmp 12)) (some (40, false)),
  .mk (some 42) (.load 94 (.tmp 9)) (some (40, false)),
  .mk (some 43) (.binOp .neq 94 (.tmp 41) (.tmp 42) 94) (some (40, false)),
  .mk (some 44) (.pick (.tmp 40) (.const (.bool true)) (.tmp 43)) none]
def r21_14 : List PS := [.mk (some 45) (.load 94 (.tmp 12)) none,
  .mk (some 46) (.move (.tmp 7)) none,
  .mk (some 47) (.nilCheck (.tmp 46)) none,
  .mk (some 48) (.fieldAddr 92 (.tmp 47) 0) none,
  .mk (some 49) (.load 94 (.tmp 12)) none,
  .mk (some 50) (.call ⟨(.value (.func 57)), #[(.tmp 48), (.tmp 49)], #[90, 94]⟩) none,
  .mk none (.store 94 (.tmp 9) (.tmp 45)) none,
  .mk (some 10) (.assign (.tmp 50)) none]
def r21_15 : List PS := [.mk (some 51) (.move (.tmp 7)) none,
  .mk (some 52) (.nilCheck (.tmp 51)) none,
  .mk (some 53) (.fieldAddr 92 (.tmp 52) 0) none,
  .mk (some 54) (.fieldAddr 90 (.tmp 53) 0) none,
  .mk (some 55) (.load 22 (.tmp 54)) none,
  .mk (some 56) (.move (.tmp 11)) none,
  .mk (some 57) (.move (.tmp 10)) none,
  .mk (some 58) (.indexAddr 22 (.tmp 55) (.tmp 56)) none,
  .mk none (.store 3 (.tmp 58) (.tmp 57)) none]
def r21_16 : List PS := [.mk (some 59) (.binOp .add 3 (.tmp 27) (.const (.int .i64 1)) 3) none,
  .mk (some 27) (.move (.tmp 59)) none]
def r21_17 : List PS := [.frzc 7 0,
  .frzc 7 1,
  .mk (some 60) (.move (.tmp 7)) none,
  .mk (some 4) (.assign (.tmp 60)) none,
  .mk (some 5) (.assign (.const (.int .i64 0))) none]
def c21 : PC := (.seq (.reg false r21_0) (.seq (.seq (.reg false r21_1) (.seq (.reg false r21_2) (.cond (.tmp 16) (.seq (.reg false r21_3) .ret) .skip))) (.seq (.reg false r21_4) (.seq (.reg false r21_5) (.seq (.reg false r21_6) (.seq (.reg false r21_7) (.seq (.seq (.reg false r21_8) (.block 0 (.loop (.seq (.reg false r21_9) (.seq (.cond (.tmp 28) .skip (.exit 0)) (.seq (.block 1 (.seq (.reg false r21_10) (.seq (.reg false r21_11) (.seq (.reg false r21_12) (.seq (.seq (.reg false r21_13) (.cond (.tmp 44) (.reg true r21_14) .skip)) (.reg false r21_15)))))) (.reg false r21_16))))))) (.seq (.reg false r21_17) .ret))))))))
theorem e21 (hl : args.length = 2) (s : pwp Tryz.prog [9, 12, 20, 45, 50] c21 (fin Tryz.prog [.tmp 4, .tmp 5] h K) (slots0 (olds args)) h) : CanP Tryz.prog 21 args h K :=
  can_of2 (n := 61) mixed Tryz.func21 rfl (by kernel_rfl) (by rw [hl]; kernel_rfl) rfl (by kernel_rfl) s
/-! ### naskh.api.BidiRanges: function 22 -/
def r22_0 : List PS := [.mk (some 0) (.assign (.const (.slice none 0 0))) none]
def r22_1 : List PS := [.mk (some 1) (.build 99 #[(0, (.const (.int .i64 0))), (1, (.const (.int .i64 8))), (2, (.const (.int .i64 9)))]) none,
  .mk (some 2) (.build 99 #[(0, (.const (.int .i64 9))), (1, (.const (.int .i64 9))), (2, (.const (.int .i64 11)))]) none,
  .mk (some 3) (.build 99 #[(0, (.const (.int .i64 10))), (1, (.const (.int .i64 10))), (2, (.const (.int .i64 10)))]) none,
  .mk (some 4) (.build 99 #[(0, (.const (.int .i64 11))), (1, (.const (.int .i64 11))), (2, (.const (.int .i64 11)))]) none,
  .mk (some 5) (.build 99 #[(0, (.const (.int .i64 12))), (1, (.const (.int .i64 12))), (2, (.const (.int .i64 12)))]) none,
  .mk (some 6) (.build 99 #[(0, (.const (.int .i64 13))), (1, (.const (.int .i64 13))), (2, (.const (.int .i64 10)))]) none,
  .mk (some 7) (.build 99 #[(0, (.const (.int .i64 14))), (1, (.const (.int .i64 27))), (2, (.const (.int .i64 9)))]) none,
  .mk (some 8) (.build 99 #[(0, (.const (.int .i64 28))), (1, (.const (.int .i64 30))), (2, (.const (.int .i64 10)))]) none,
  .mk (some 9) (.build 99 #[(0, (.const (.int .i64 31))), (1, (.const (.int .i64 31))), (2, (.const (.int .i64 11)))]) none,
  .mk (some 10) (.build 99 #[(0, (.const (.int .i64 32))), (1, (.const (.int .i64 32))), (2, (.const (.int .i64 12)))]) none,
  .mk (some 11) (.build 99 #[(0, (.const (.int .i64 33))), (1, (.const (.int .i64 34))), (2, (.const (.int .i64 13)))]) none,
  .mk (some 12) (.build 99 #[(0, (.const (.int .i64 35))), (1, (.const (.int .i64 37))), (2, (.const (.int .i64 5)))]) none,
  .mk (some 13) (.build 99 #[(0, (.const (.int .i64 38))), (1, (.const (.int .i64 42))), (2, (.const (.int .i64 13)))]) none,
  .mk (some 14) (.build 99 #[(0, (.const (.int .i64 43))), (1, (.const (.int .i64 43))), (2, (.const (.int .i64 4)))]) none,
  .mk (some 15) (.build 99 #[(0, (.const (.int .i64 44))), (1, (.const (.int .i64 44))), (2, (.const (.int .i64 7)))]) none,
  .mk (some 16) (.build 99 #[(0, (.const (.int .i64 45))), (1, (.const (.int .i64 45))), (2, (.const (.int .i64 4)))]) none,
  .mk (some 17) (.build 99 #[(0, (.const (.int .i64 46))), (1, (.const (.int .i64 47))), (2, (.const (.int .i64 7)))]) none,
  .mk (some 18) (.build 99 #[(0, (.const (.int .i64 48))), (1, (.const (.int .i64 57))), (2, (.const (.int .i64 3)))]) none,
  .mk (some 19) (.build 99 #[(0, (.const (.int .i64 58))), (1, (.const (.int .i64 58))), (2, (.const (.int .i64 7)))]) none,
  .mk (some 20) (.build 99 #[(0, (.const (.int .i64 59))), (1, (.const (.int .i64 64))), (2, (.const (.int .i64 13)))]) none,
  .mk (some 21) (.build 99 #[(0, (.const (.int .i64 91))), (1, (.const (.int .i64 96))), (2, (.const (.int .i64 13)))]) none,
  .mk (some 22) (.build 99 #[(0, (.const (.int .i64 123))), (1, (.const (.int .i64 126))), (2, (.const (.int .i64 13)))]) none,
  .mk (some 23) (.build 99 #[(0, (.const (.int .i64 127))), (1, (.const (.int .i64 132))), (2, (.const (.int .i64 9)))]) none,
  .mk (some 24) (.build 99 #[(0, (.const (.int .i64 133))), (1, (.const (.int .i64 133))), (2, (.const (.int .i64 10)))]) none,
  .mk (some 25) (.build 99 #[(0, (.const (.int .i64 134))), (1, (.const (.int .i64 159))), (2, (.const (.int .i64 9)))]) none,
  .mk (some 26) (.build 99 #[(0, (.const (.int .i64 160))), (1, (.const (.int .i64 160))), (2, (.const (.int .i64 7)))]) none,
  .mk (some 27) (.build 99 #[(0, (.const (.int .i64 161))), (1, (.const (.int .i64 161))), (2, (.const (.int .i64 13)))]) none,
  .mk (some 28) (.build 99 #[(0, (.const (.int .i64 162))), (1, (.const (.int .i64 165))), (2, (.const (.int .i64 5)))]) none,
  .mk (some 29) (.build 99 #[(0, (.const (.int .i64 166))), (1, (.const (.int .i64 169))), (2, (.const (.int .i64 13)))]) none,
  .mk (some 30) (.build 99 #[(0, (.const (.int .i64 171))), (1, (.const (.int .i64 172))), (2, (.const (.int .i64 13)))]) none,
  .mk (some 31) (.build 99 #[(0, (.const (.int .i64 173))), (1, (.const (.int .i64 173))), (2, (.const (.int .i64 9)))]) none,
  .mk (some 32) (.build 99 #[(0, (.const (.int .i64 174))), (1, (.const (.int .i64 175))), (2, (.const (.int .i64 13)))]) none,
  .mk (some 33) (.build 99 #[(0, (.const (.int .i64 176))), (1, (.const (.int .i64 177))), (2, (.const (.int .i64 5)))]) none,
  .mk (some 34) (.build 99 #[(0, (.const (.int .i64 178))), (1, (.const (.int .i64 179))), (2, (.const (.int .i64 3)))]) none,
  .mk (some 35) (.build 99 #[(0, (.const (.int .i64 180))), (1, (.const (.int .i64 180))), (2, (.const (.int .i64 13)))]) none,
  .mk (some 36) (.build 99 #[(0, (.const (.int .i64 182))), (1, (.const (.int .i64 184))), (2, (.const (.int .i64 13)))]) none,
  .mk (some 37) (.build 99 #[(0, (.const (.int .i64 185))), (1, (.const (.int .i64 185))), (2, (.const (.int .i64 3)))]) none,
  .mk (some 38) (.build 99 #[(0, (.const (.int .i64 187))), (1, (.const (.int .i64 191))), (2, (.const (.int .i64 13)))]) none,
  .mk (some 39) (.build 99 #[(0, (.const (.int .i64 215))), (1, (.const (.int .i64 215))), (2, (.const (.int .i64 13)))]) none,
  .mk (some 40) (.build 99 #[(0, (.const (.int .i64 247))), (1, (.const (.int .i64 247))), (2, (.const (.int .i64 13)))]) none,
  .mk (some 41) (.build 99 #[(0, (.const (.int .i64 697))), (1, (.const (.int .i64 698))), (2, (.const (.int .i64 13)))]) none,
  .mk (some 42) (.build 99 #[(0, (.const (.int .i64 706))), (1, (.const (.int .i64 719))), (2, (.const (.int .i64 13)))]) none,
  .mk (some 43) (.build 99 #[(0, (.const (.int .i64 722))), (1, (.const (.int .i64 735))), (2, (.const (.int .i64 13)))]) none,
  .mk (some 44) (.build 99 #[(0, (.const (.int .i64 768))), (1, (.const (.int .i64 879))), (2, (.const (.int .i64 8)))]) none,
  .mk (some 45) (.build 99 #[(0, (.const (.int .i64 1424))), (1, (.const (.int .i64 1424))), (2, (.const (.int .i64 1)))]) none,
  .mk (some 46) (.build 99 #[(0, (.const (.int .i64 1425))), (1, (.const (.int .i64 1469))), (2, (.const (.int .i64 8)))]) none,
  .mk (some 47) (.build 99 #[(0, (.const (.int .i64 1470))), (1, (.const (.int .i64 1470))), (2, (.const (.int .i64 1)))]) none,
  .mk (some 48) (.build 99 #[(0, (.const (.int .i64 1471))), (1, (.const (.int .i64 1471))), (2, (.const (.int .i64 8)))]) none,
  .mk (some 49) (.build 99 #[(0, (.const (.int .i64 1472))), (1, (.const (.int .i64 1472))), (2, (.const (.int .i64 1)))]) none,
  .mk (some 50) (.build 99 #[(0, (.const (.int .i64 1473))), (1, (.const (.int .i64 1474))), (2, (.const (.int .i64 8)))]) none,
  .mk (some 51) (.build 99 #[(0, (.const (.int .i64 1475))), (1, (.const (.int .i64 1475))), (2, (.const (.int .i64 1)))]) none,
  .mk (some 52) (.build 99 #[(0, (.const (.int .i64 1476))), (1, (.const (.int .i64 1477))), (2, (.const (.int .i64 8)))]) none,
  .mk (some 53) (.build 99 #[(0, (.const (.int .i64 1478))), (1, (.const (.int .i64 1478))), (2, (.const (.int .i64 1)))]) none,
  .mk (some 54) (.build 99 #[(0, (.const (.int .i64 1479))), (1, (.const (.int .i64 1479))), (2, (.const (.int .i64 8)))]) none,
  .mk (some 55) (.build 99 #[(0, (.const (.int .i64 1480))), (1, (.const (.int .i64 1535))), (2, (.const (.int .i64 1)))]) none,
  .mk (some 56) (.build 99 #[(0, (.const (.int .i64 1536))), (1, (.const (.int .i64 1541))), (2, (.const (.int .i64 6)))]) none,
  .mk (some 57) (.build 99 #[(0, (.const (.int .i64 1542))), (1, (.const (.int .i64 1543))), (2, (.const (.int .i64 13)))]) none,
  .mk (some 58) (.build 99 #[(0, (.const (.int .i64 1544))), (1, (.const (.int .i64 1544))), (2, (.const (.int .i64 2)))]) none,
  .mk (some 59) (.build 99 #[(0, (.const (.int .i64 1545))), (1, (.const (.int .i64 1546))), (2, (.const (.int .i64 5)))]) none,
  .mk (some 60) (.build 99 #[(0, (.const (.int .i64 1547))), (1, (.const (.int .i64 1547))), (2, (.const (.int .i64 2)))]) none,
  .mk (some 61) (.build 99 #[(0, (.const (.int .i64 1548))), (1, (.const (.int .i64 1548))), (2, (.const (.int .i64 7)))]) none,
  .mk (some 62) (.build 99 #[(0, (.const (.int .i64 1549))), (1, (.const (.int .i64 1549))), (2, (.const (.int .i64 2)))]) none,
  .mk (some 63) (.build 99 #[(0, (.const (.int .i64 1550))), (1, (.const (.int .i64 1551))), (2, (.const (.int .i64 13)))]) none,
  .mk (some 64) (.build 99 #[(0, (.const (.int .i64 1552))), (1, (.const (.int .i64 1562))), (2, (.const (.int .i64 8)))]) none,
  .mk (some 65) (.build 99 #[(0, (.const (.int .i64 1563))), (1, (.const (.int .i64 1610))), (2, (.const (.int .i64 2)))]) none,
  .mk (some 66) (.build 99 #[(0, (.const (.int .i64 1611))), (1, (.const (.int .i64 1631))), (2, (.const (.int .i64 8)))]) none,
  .mk (some 67) (.build 99 #[(0, (.const (.int .i64 1632))), (1, (.const (.int .i64 1641))), (2, (.const (.int .i64 6)))]) none,
  .mk (some 68) (.build 99 #[(0, (.const (.int .i64 1642))), (1, (.const (.int .i64 1642))), (2, (.const (.int .i64 5)))]) none,
  .mk (some 69) (.build 99 #[(0, (.const (.int .i64 1643))), (1, (.const (.int .i64 1644))), (2, (.const (.int .i64 6)))]) none,
  .mk (some 70) (.build 99 #[(0, (.const (.int .i64 1645))), (1, (.const (.int .i64 1647))), (2, (.const (.int .i64 2)))]) none,
  .mk (some 71) (.build 99 #[(0, (.const (.int .i64 1648))), (1, (.const (.int .i64 1648))), (2, (.const (.int .i64 8)))]) none,
  .mk (some 72) (.build 99 #[(0, (.const (.int .i64 1649))), (1, (.const (.int .i64 1749))), (2, (.const (.int .i64 2)))]) none,
  .mk (some 73) (.build 99 #[(0, (.const (.int .i64 1750))), (1, (.const (.int .i64 1756))), (2, (.const (.int .i64 8)))]) none,
  .mk (some 74) (.build 99 #[(0, (.const (.int .i64 1757))), (1, (.const (.int .i64 1757))), (2, (.const (.int .i64 6)))]) none,
  .mk (some 75) (.build 99 #[(0, (.const (.int .i64 1758))), (1, (.const (.int .i64 1758))), (2, (.const (.int .i64 13)))]) none,
  .mk (some 76) (.build 99 #[(0, (.const (.int .i64 1759))), (1, (.const (.int .i64 1764))), (2, (.const (.int .i64 8)))]) none,
  .mk (some 77) (.build 99 #[(0, (.const (.int .i64 1765))), (1, (.const (.int .i64 1766))), (2, (.const (.int .i64 2)))]) none,
  .mk (some 78) (.build 99 #[(0, (.const (.int .i64 1767))), (1, (.const (.int .i64 1768))), (2, (.const (.int .i64 8)))]) none,
  .mk (some 79) (.build 99 #[(0, (.const (.int .i64 1769))), (1, (.const (.int .i64 1769))), (2, (.const (.int .i64 13)))]) none,
  .mk (some 80) (.build 99 #[(0, (.const (.int .i64 1770))), (1, (.const (.int .i64 1773))), (2, (.const (.int .i64 8)))]) none,
  .mk (some 81) (.build 99 #[(0, (.const (.int .i64 1774))), (1, (.const (.int .i64 1775))), (2, (.const (.int .i64 2)))]) none,
  .mk (some 82) (.build 99 #[(0, (.const (.int .i64 1776))), (1, (.const (.int .i64 1785))), (2, (.const (.int .i64 3)))]) none,
  .mk (some 83) (.build 99 #[(0, (.const (.int .i64 1786))), (1, (.const (.int .i64 1808))), (2, (.const (.int .i64 2)))]) none,
  .mk (some 84) (.build 99 #[(0, (.const (.int .i64 1809))), (1, (.const (.int .i64 1809))), (2, (.const (.int .i64 8)))]) none,
  .mk (some 85) (.build 99 #[(0, (.const (.int .i64 1810))), (1, (.const (.int .i64 1839))), (2, (.const (.int .i64 2)))]) none,
  .mk (some 86) (.build 99 #[(0, (.const (.int .i64 1840))), (1, (.const (.int .i64 1866))), (2, (.const (.int .i64 8)))]) none,
  .mk (some 87) (.build 99 #[(0, (.const (.int .i64 1867))), (1, (.const (.int .i64 1957))), (2, (.const (.int .i64 2)))]) none,
  .mk (some 88) (.build 99 #[(0, (.const (.int .i64 1958))), (1, (.const (.int .i64 1968))), (2, (.const (.int .i64 8)))]) none,
  .mk (some 89) (.build 99 #[(0, (.const (.int .i64 1969))), (1, (.const (.int .i64 1983))), (2, (.const (.int .i64 2)))]) none,
  .mk (some 90) (.build 99 #[(0, (.const (.int .i64 1984))), (1, (.const (.int .i64 2026))), (2, (.const (.int .i64 1)))]) none,
  .mk (some 91) (.build 99 #[(0, (.const (.int .i64 2027))), (1, (.const (.int .i64 2035))), (2, (.const (.int .i64 8)))]) none,
  .mk (some 92) (.build 99 #[(0, (.const (.int .i64 2036))), (1, (.const (.int .i64 2037))), (2, (.const (.int .i64 1)))]) none,
  .mk (some 93) (.build 99 #[(0, (.const (.int .i64 2038))), (1, (.const (.int .i64 2041))), (2, (.const (.int .i64 13)))]) none,
  .mk (some 94) (.build 99 #[(0, (.const (.int .i64 2042))), (1, (.const (.int .i64 2044))), (2, (.const (.int .i64 1)))]) none,
  .mk (some 95) (.build 99 #[(0, (.const (.int .i64 2045))), (1, (.const (.int .i64 2045))), (2, (.const (.int .i64 8)))]) none,
  .mk (some 96) (.build 99 #[(0, (.const (.int .i64 2046))), (1, (.const (.int .i64 2069))), (2, (.const (.int .i64 1)))]) none,
  .mk (some 97) (.build 99 #[(0, (.const (.int .i64 2070))), (1, (.const (.int .i64 2073))), (2, (.const (.int .i64 8)))]) none,
  .mk (some 98) (.build 99 #[(0, (.const (.int .i64 2074))), (1, (.const (.int .i64 2074))), (2, (.const (.int .i64 1)))]) none,
  .mk (some 99) (.build 99 #[(0, (.const (.int .i64 2075))), (1, (.const (.int .i64 2083))), (2, (.const (.int .i64 8)))]) none,
  .mk (some 100) (.build 99 #[(0, (.const (.int .i64 2084))), (1, (.const (.int .i64 2084))), (2, (.const (.int .i64 1)))]) none,
  .mk (some 101) (.build 99 #[(0, (.const (.int .i64 2085))), (1, (.const (.int .i64 2087))), (2, (.const (.int .i64 8)))]) none,
  .mk (some 102) (.build 99 #[(0, (.const (.int .i64 2088))), (1, (.const (.int .i64 2088))), (2, (.const (.int .i64 1)))]) none,
  .mk (some 103) (.build 99 #[(0, (.const (.int .i64 2089))), (1, (.const (.int .i64 2093))), (2, (.const (.int .i64 8)))]) none,
  .mk (some 104) (.build 99 #[(0, (.const (.int .i64 2094))), (1, (.const (.int .i64 2136))), (2, (.const (.int .i64 1)))]) none,
  .mk (some 105) (.build 99 #[(0, (.const (.int .i64 2137))), (1, (.const (.int .i64 2139))), (2, (.const (.int .i64 8)))]) none,
  .mk (some 106) (.build 99 #[(0, (.const (.int .i64 2140))), (1, (.const (.int .i64 2143))), (2, (.const (.int .i64 1)))]) none,
  .mk (some 107) (.build 99 #[(0, (.const (.int .i64 2144))), (1, (.const (.int .i64 2191))), (2, (.const (.int .i64 2)))]) none,
  .mk (some 108) (.build 99 #[(0, (.const (.int .i64 2192))), (1, (.const (.int .i64 2193))), (2, (.const (.int .i64 6)))]) none,
  .mk (some 109) (.build 99 #[(0, (.const (.int .i64 2194))), (1, (.const (.int .i64 2199))), (2, (.const (.int .i64 2)))]) none,
  .mk (some 110) (.build 99 #[(0, (.const (.int .i64 2200))), (1, (.const (.int .i64 2207))), (2, (.const (.int .i64 8)))]) none,
  .mk (some 111) (.build 99 #[(0, (.const (.int .i64 2208))), (1, (.const (.int .i64 2249))), (2, (.const (.int .i64 2)))]) none,
  .mk (some 112) (.build 99 #[(0, (.const (.int .i64 2250))), (1, (.const (.int .i64 2273))), (2, (.const (.int .i64 8)))]) none,
  .mk (some 113) (.build 99 #[(0, (.const (.int .i64 2274))), (1, (.const (.int .i64 2274))), (2, (.const (.int .i64 6)))]) none,
  .mk (some 114) (.build 99 #[(0, (.const (.int .i64 2275))), (1, (.const (.int .i64 2306))), (2, (.const (.int .i64 8)))]) none,
  .mk (some 115) (.build 99 #[(0, (.const (.int .i64 8192))), (1, (.const (.int .i64 8202))), (2, (.const (.int .i64 12)))]) none,
  .mk (some 116) (.build 99 #[(0, (.const (.int .i64 8203))), (1, (.const (.int .i64 8205))), (2, (.const (.int .i64 9)))]) none,
  .mk (some 117) (.build 99 #[(0, (.const (.int .i64 8207))), (1, (.const (.int .i64 8207))), (2, (.const (.int .i64 1)))]) none,
  .mk (some 118) (.build 99 #[(0, (.const (.int .i64 8208))), (1, (.const (.int .i64 8231))), (2, (.const (.int .i64 13)))]) none,
  .mk (some 119) (.build 99 #[(0, (.const (.int .i64 8232))), (1, (.const (.int .i64 8232))), (2, (.const (.int .i64 12)))]) none,
  .mk (some 120) (.build 99 #[(0, (.const (.int .i64 8233))), (1, (.const (.int .i64 8233))), (2, (.const (.int .i64 10)))]) none,
  .mk (some 121) (.build 99 #[(0, (.const (.int .i64 8234))), (1, (.const (.int .i64 8234))), (2, (.const (.int .i64 14)))]) none,
  .mk (some 122) (.build 99 #[(0, (.const (.int .i64 8235))), (1, (.const (.int .i64 8235))), (2, (.const (.int .i64 16)))]) none,
  .mk (some 123) (.build 99 #[(0, (.const (.int .i64 8236))), (1, (.const (.int .i64 8236))), (2, (.const (.int .i64 18)))]) none,
  .mk (some 124) (.build 99 #[(0, (.const (.int .i64 8237))), (1, (.const (.int .i64 8237))), (2, (.const (.int .i64 15)))]) none,
  .mk (some 125) (.build 99 #[(0, (.const (.int .i64 8238))), (1, (.const (.int .i64 8238))), (2, (.const (.int .i64 17)))]) none,
  .mk (some 126) (.build 99 #[(0, (.const (.int .i64 8239))), (1, (.const (.int .i64 8239))), (2, (.const (.int .i64 7)))]) none,
  .mk (some 127) (.build 99 #[(0, (.const (.int .i64 8240))), (1, (.const (.int .i64 8244))), (2, (.const (.int .i64 5)))]) none,
  .mk (some 128) (.build 99 #[(0, (.const (.int .i64 8245))), (1, (.const (.int .i64 8259))), (2, (.const (.int .i64 13)))]) none,
  .mk (some 129) (.build 99 #[(0, (.const (.int .i64 8260))), (1, (.const (.int .i64 8260))), (2, (.const (.int .i64 7)))]) none,
  .mk (some 130) (.build 99 #[(0, (.const (.int .i64 8261))), (1, (.const (.int .i64 8286))), (2, (.const (.int .i64 13)))]) none,
  .mk (some 131) (.build 99 #[(0, (.const (.int .i64 8287))), (1, (.const (.int .i64 8287))), (2, (.const (.int .i64 12)))]) none,
  .mk (some 132) (.build 99 #[(0, (.const (.int .i64 8288))), (1, (.const (.int .i64 8293))), (2, (.const (.int .i64 9)))]) none,
  .mk (some 133) (.build 99 #[(0, (.const (.int .i64 8294))), (1, (.const (.int .i64 8294))), (2, (.const (.int .i64 19)))]) none,
  .mk (some 134) (.build 99 #[(0, (.const (.int .i64 8295))), (1, (.const (.int .i64 8295))), (2, (.const (.int .i64 20)))]) none,
  .mk (some 135) (.build 99 #[(0, (.const (.int .i64 8296))), (1, (.const (.int .i64 8296))), (2, (.const (.int .i64 21)))]) none,
  .mk (some 136) (.build 99 #[(0, (.const (.int .i64 8297))), (1, (.const (.int .i64 8297))), (2, (.const (.int .i64 22)))]) none,
  .mk (some 137) (.build 99 #[(0, (.const (.int .i64 8298))), (1, (.const (.int .i64 8303))), (2, (.const (.int .i64 9)))]) none,
  .mk (some 138) (.build 99 #[(0, (.const (.int .i64 8304))), (1, (.const (.int .i64 8304))), (2, (.const (.int .i64 3)))]) none,
  .mk (some 139) (.build 99 #[(0, (.const (.int .i64 8308))), (1, (.const (.int .i64 8313))), (2, (.const (.int .i64 3)))]) none,
  .mk (some 140) (.build 99 #[(0, (.const (.int .i64 8314))), (1, (.const (.int .i64 8315))), (2, (.const (.int .i64 4)))]) none,
  .mk (some 141) (.build 99 #[(0, (.const (.int .i64 8316))), (1, (.const (.int .i64 8318))), (2, (.const (.int .i64 13)))]) none,
  .mk (some 142) (.build 99 #[(0, (.const (.int .i64 8320))), (1, (.const (.int .i64 8329))), (2, (.const (.int .i64 3)))]) none,
  .mk (some 143) (.build 99 #[(0, (.const (.int .i64 8330))), (1, (.const (.int .i64 8331))), (2, (.const (.int .i64 4)))]) none,
  .mk (some 144) (.build 99 #[(0, (.const (.int .i64 8332))), (1, (.const (.int .i64 8334))), (2, (.const (.int .i64 13)))]) none,
  .mk (some 145) (.build 99 #[(0, (.const (.int .i64 8352))), (1, (.const (.int .i64 8399))), (2, (.const (.int .i64 5)))]) none,
  .mk (some 146) (.build 99 #[(0, (.const (.int .i64 8400))), (1, (.const (.int .i64 8432))), (2, (.const (.int .i64 8)))]) none,
  .mk (some 147) (.build 99 #[(0, (.const (.int .i64 8592))), (1, (.const (.int .i64 8721))), (2, (.const (.int .i64 13)))]) none,
  .mk (some 148) (.build 99 #[(0, (.const (.int .i64 8722))), (1, (.const (.int .i64 8722))), (2, (.const (.int .i64 4)))]) none,
  .mk (some 149) (.build 99 #[(0, (.const (.int .i64 8723))), (1, (.const (.int .i64 8723))), (2, (.const (.int .i64 5)))]) none,
  .mk (some 150) (.build 99 #[(0, (.const (.int .i64 8724))), (1, (.const (.int .i64 9013))), (2, (.const (.int .i64 13)))]) none,
  .mk (some 151) (.build 99 #[(0, (.const (.int .i64 9083))), (1, (.const (.int .i64 9108))), (2, (.const (.int .i64 13)))]) none,
  .mk (some 152) (.build 99 #[(0, (.const (.int .i64 9110))), (1, (.const (.int .i64 9254))), (2, (.const (.int .i64 13)))]) none,
  .mk (some 153) (.build 99 #[(0, (.const (.int .i64 9280))), (1, (.const (.int .i64 9290))), (2, (.const (.int .i64 13)))]) none,
  .mk (some 154) (.build 99 #[(0, (.const (.int .i64 9312))), (1, (.const (.int .i64 9351))), (2, (.const (.int .i64 13)))]) none,
  .mk (some 155) (.build 99 #[(0, (.const (.int .i64 9352))), (1, (.const (.int .i64 9371))), (2, (.const (.int .i64 3)))]) none,
  .mk (some 156) (.build 99 #[(0, (.const (.int .i64 9450))), (1, (.const (.int .i64 9899))), (2, (.const (.int .i64 13)))]) none,
  .mk (some 157) (.build 99 #[(0, (.const (.int .i64 9901))), (1, (.const (.int .i64 10239))), (2, (.const (.int .i64 13)))]) none,
  .mk (some 158) (.build 99 #[(0, (.const (.int .i64 10496))), (1, (.const (.int .i64 11123))), (2, (.const (.int .i64 13)))]) none,
  .mk (some 159) (.build 99 #[(0, (.const (.int .i64 11776))), (1, (.const (.int .i64 11869))), (2, (.const (.int .i64 13)))]) none,
  .mk (some 160) (.build 99 #[(0, (.const (.int .i64 12288))), (1, (.const (.int .i64 12288))), (2, (.const (.int .i64 12)))]) none,
  .mk (some 161) (.build 99 #[(0, (.const (.int .i64 12289))), (1, (.const (.int .i64 12292))), (2, (.const (.int .i64 13)))]) none,
  .mk (some 162) (.build 99 #[(0, (.const (.int .i64 12296))), (1, (.const (.int .i64 12320))), (2, (.const (.int .i64 13)))]) none,
  .mk (some 163) (.build 99 #[(0, (.const (.int .i64 12330))), (1, (.const (.int .i64 12333))), (2, (.const (.int .i64 8)))]) none,
  .mk (some 164) (.build 99 #[(0, (.const (.int .i64 12336))), (1, (.const (.int .i64 12336))), (2, (.const (.int .i64 13)))]) none,
  .mk (some 165) (.build 99 #[(0, (.const (.int .i64 64285))), (1, (.const (.int .i64 64285))), (2, (.const (.int .i64 1)))]) none,
  .mk (some 166) (.build 99 #[(0, (.const (.int .i64 64286))), (1, (.const (.int .i64 64286))), (2, (.const (.int .i64 8)))]) none,
  .mk (some 167) (.build 99 #[(0, (.const (.int .i64 64287))), (1, (.const (.int .i64 64296))), (2, (.const (.int .i64 1)))]) none,
  .mk (some 168) (.build 99 #[(0, (.const (.int .i64 64297))), (1, (.const (.int .i64 64297))), (2, (.const (.int .i64 4)))]) none,
  .mk (some 169) (.build 99 #[(0, (.const (.int .i64 64298))), (1, (.const (.int .i64 64335))), (2, (.const (.int .i64 1)))]) none,
  .mk (some 170) (.build 99 #[(0, (.const (.int .i64 64336))), (1, (.const (.int .i64 64829))), (2, (.const (.int .i64 2)))]) none,
  .mk (some 171) (.build 99 #[(0, (.const (.int .i64 64830))), (1, (.const (.int .i64 64847))), (2, (.const (.int .i64 13)))]) none,
  .mk (some 172) (.build 99 #[(0, (.const (.int .i64 64848))), (1, (.const (.int .i64 64974))), (2, (.const (.int .i64 2)))]) none,
  .mk (some 173) (.build 99 #[(0, (.const (.int .i64 64975))), (1, (.const (.int .i64 64975))), (2, (.const (.int .i64 13)))]) none,
  .mk (some 174) (.build 99 #[(0, (.const (.int .i64 64976))), (1, (.const (.int .i64 65007))), (2, (.const (.int .i64 9)))]) none,
  .mk (some 175) (.build 99 #[(0, (.const (.int .i64 65008))), (1, (.const (.int .i64 65020))), (2, (.const (.int .i64 2)))]) none,
  .mk (some 176) (.build 99 #[(0, (.const (.int .i64 65021))), (1, (.const (.int .i64 65023))), (2, (.const (.int .i64 13)))]) none,
  .mk (some 177) (.build 99 #[(0, (.const (.int .i64 65024))), (1, (.const (.int .i64 65039))), (2, (.const (.int .i64 8)))]) none,
  .mk (some 178) (.build 99 #[(0, (.const (.int .i64 65040))), (1, (.const (.int .i64 65049))), (2, (.const (.int .i64 13)))]) none,
  .mk (some 179) (.build 99 #[(0, (.const (.int .i64 65056))), (1, (.const (.int .i64 65071))), (2, (.const (.int .i64 8)))]) none,
  .mk (some 180) (.build 99 #[(0, (.const (.int .i64 65072))), (1, (.const (.int .i64 65103))), (2, (.const (.int .i64 13)))]) none,
  .mk (some 181) (.build 99 #[(0, (.const (.int .i64 65104))), (1, (.const (.int .i64 65104))), (2, (.const (.int .i64 7)))]) none,
  .mk (some 182) (.build 99 #[(0, (.const (.int .i64 65105))), (1, (.const (.int .i64 65105))), (2, (.const (.int .i64 13)))]) none,
  .mk (some 183) (.build 99 #[(0, (.const (.int .i64 65106))), (1, (.const (.int .i64 65106))), (2, (.const (.int .i64 7)))]) none,
  .mk (some 184) (.build 99 #[(0, (.const (.int .i64 65108))), (1, (.const (.int .i64 65108))), (2, (.const (.int .i64 13)))]) none,
  .mk (some 185) (.build 99 #[(0, (.const (.int .i64 65109))), (1, (.const (.int .i64 65109))), (2, (.const (.int .i64 7)))]) none,
  .mk (some 186) (.build 99 #[(0, (.const (.int .i64 65110))), (1, (.const (.int .i64 65118))), (2, (.const (.int .i64 13)))]) none,
  .mk (some 187) (.build 99 #[(0, (.const (.int .i64 65119))), (1, (.const (.int .i64 65119))), (2, (.const (.int .i64 5)))]) none,
  .mk (some 188) (.build 99 #[(0, (.const (.int .i64 65120))), (1, (.const (.int .i64 65121))), (2, (.const (.int .i64 13)))]) none,
  .mk (some 189) (.build 99 #[(0, (.const (.int .i64 65122))), (1, (.const (.int .i64 65123))), (2, (.const (.int .i64 4)))]) none,
  .mk (some 190) (.build 99 #[(0, (.const (.int .i64 65124))), (1, (.const (.int .i64 65126))), (2, (.const (.int .i64 13)))]) none,
  .mk (some 191) (.build 99 #[(0, (.const (.int .i64 65128))), (1, (.const (.int .i64 65128))), (2, (.const (.int .i64 13)))]) none,
  .mk (some 192) (.build 99 #[(0, (.const (.int .i64 65129))), (1, (.const (.int .i64 65130))), (2, (.const (.int .i64 5)))]) none,
  .mk (some 193) (.build 99 #[(0, (.const (.int .i64 65131))), (1, (.const (.int .i64 65131))), (2, (.const (.int .i64 13)))]) none,
  .mk (some 194) (.build 99 #[(0, (.const (.int .i64 65136))), (1, (.const (.int .i64 65278))), (2, (.const (.int .i64 2)))]) none,
  .mk (some 195) (.build 99 #[(0, (.const (.int .i64 65279))), (1, (.const (.int .i64 65279))), (2, (.const (.int .i64 9)))]) none,
  .mk (some 196) (.build 99 #[(0, (.const (.int .i64 65281))), (1, (.const (.int .i64 65282))), (2, (.const (.int .i64 13)))]) none,
  .mk (some 197) (.build 99 #[(0, (.const (.int .i64 65283))), (1, (.const (.int .i64 65285))), (2, (.const (.int .i64 5)))]) none,
  .mk (some 198) (.build 99 #[(0, (.const (.int .i64 65286))), (1, (.const (.int .i64 65290))), (2, (.const (.int .i64 13)))]) none,
  .mk (some 199) (.build 99 #[(0, (.const (.int .i64 65291))), (1, (.const (.int .i64 65291))), (2, (.const (.int .i64 4)))]) none,
  .mk (some 200) (.build 99 #[(0, (.const (.int .i64 65292))), (1, (.const (.int .i64 65292))), (2, (.const (.int .i64 7)))]) none,
  .mk (some 201) (.build 99 #[(0, (.const (.int .i64 65293))), (1, (.const (.int .i64 65293))), (2, (.const (.int .i64 4)))]) none,
  .mk (some 202) (.build 99 #[(0, (.const (.int .i64 65294))), (1, (.const (.int .i64 65295))), (2, (.const (.int .i64 7)))]) none,
  .mk (some 203) (.build 99 #[(0, (.const (.int .i64 65296))), (1, (.const (.int .i64 65305))), (2, (.const (.int .i64 3)))]) none,
  .mk (some 204) (.build 99 #[(0, (.const (.int .i64 65306))), (1, (.const (.int .i64 65306))), (2, (.const (.int .i64 7)))]) none,
  .mk (some 205) (.build 99 #[(0, (.const (.int .i64 65307))), (1, (.const (.int .i64 65312))), (2, (.const (.int .i64 13)))]) none,
  .mk (some 206) (.build 99 #[(0, (.const (.int .i64 65339))), (1, (.const (.int .i64 65344))), (2, (.const (.int .i64 13)))]) none,
  .mk (some 207) (.build 99 #[(0, (.const (.int .i64 65371))), (1, (.const (.int .i64 65381))), (2, (.const (.int .i64 13)))]) none,
  .mk (some 208) (.build 99 #[(0, (.const (.int .i64 65504))), (1, (.const (.int .i64 65505))), (2, (.const (.int .i64 5)))]) none,
  .mk (some 209) (.build 99 #[(0, (.const (.int .i64 65506))), (1, (.const (.int .i64 65508))), (2, (.const (.int .i64 13)))]) none,
  .mk (some 210) (.build 99 #[(0, (.const (.int .i64 65509))), (1, (.const (.int .i64 65510))), (2, (.const (.int .i64 5)))]) none,
  .mk (some 211) (.build 99 #[(0, (.const (.int .i64 65520))), (1, (.const (.int .i64 65528))), (2, (.const (.int .i64 9)))]) none,
  .mk (some 212) (.build 99 #[(0, (.const (.int .i64 65529))), (1, (.const (.int .i64 65533))), (2, (.const (.int .i64 13)))]) none,
  .mk (some 213) (.build 99 #[(0, (.const (.int .i64 65534))), (1, (.const (.int .i64 65535))), (2, (.const (.int .i64 9)))]) none,
  .mk (some 214) (.build 99 #[(0, (.const (.int .i64 67584))), (1, (.const (.int .i64 68863))), (2, (.const (.int .i64 1)))]) none,
  .mk (some 215) (.build 99 #[(0, (.const (.int .i64 68864))), (1, (.const (.int .i64 68927))), (2, (.const (.int .i64 2)))]) none,
  .mk (some 216) (.build 99 #[(0, (.const (.int .i64 68928))), (1, (.const (.int .i64 69631))), (2, (.const (.int .i64 1)))]) none,
  .mk (some 217) (.build 99 #[(0, (.const (.int .i64 120782))), (1, (.const (.int .i64 120831))), (2, (.const (.int .i64 3)))]) none,
  .mk (some 218) (.build 99 #[(0, (.const (.int .i64 124928))), (1, (.const (.int .i64 126063))), (2, (.const (.int .i64 1)))]) none,
  .mk (some 219) (.build 99 #[(0, (.const (.int .i64 126064))), (1, (.const (.int .i64 126143))), (2, (.const (.int .i64 2)))]) none,
  .mk (some 220) (.build 99 #[(0, (.const (.int .i64 126144))), (1, (.const (.int .i64 126207))), (2, (.const (.int .i64 1)))]) none,
  .mk (some 221) (.build 99 #[(0, (.const (.int .i64 126208))), (1, (.const (.int .i64 126287))), (2, (.const (.int .i64 2)))]) none,
  .mk (some 222) (.build 99 #[(0, (.const (.int .i64 126288))), (1, (.const (.int .i64 126463))), (2, (.const (.int .i64 1)))]) none,
  .mk (some 223) (.build 99 #[(0, (.const (.int .i64 126464))), (1, (.const (.int .i64 126719))), (2, (.const (.int .i64 2)))]) none,
  .mk (some 224) (.build 99 #[(0, (.const (.int .i64 126720))), (1, (.const (.int .i64 126975))), (2, (.const (.int .i64 1)))]) none,
  .mk (some 225) (.build 99 #[(0, (.const (.int .i64 126976))), (1, (.const (.int .i64 127231))), (2, (.const (.int .i64 13)))]) none,
  .mk (some 226) (.build 99 #[(0, (.const (.int .i64 127232))), (1, (.const (.int .i64 127242))), (2, (.const (.int .i64 3)))]) none,
  .mk (some 227) (.build 99 #[(0, (.const (.int .i64 127744))), (1, (.const (.int .i64 128727))), (2, (.const (.int .i64 13)))]) none,
  .mk (some 228) (.build 99 #[(0, (.const (.int .i64 917504))), (1, (.const (.int .i64 917759))), (2, (.const (.int .i64 9)))]) none,
  .mk (some 229) (.build 99 #[(0, (.const (.int .i64 917760))), (1, (.const (.int .i64 917999))), (2, (.const (.int .i64 8)))]) none,
  .mk (some 230) (.build 99 #[(0, (.const (.int .i64 918000))), (1, (.const (.int .i64 921599))), (2, (.const (.int .i64 9)))]) none,
  .mk (some 231) (.buildSlice 57 230 #[(0, (.tmp 1)), (1, (.tmp 2)), (2, (.tmp 3)), (3, (.tmp 4)), (4, (.tmp 5)), (5, (.tmp 6)), (6, (.tmp 7)), (7, (.tmp 8)), (8, (.tmp 9)), (9, (.tmp 10)), (10, (.tmp 11)), (11, (.tmp 12)), (12, (.tmp 13)), (13, (.tmp 14)), (14, (.tmp 15)), (15, (.tmp 16)), (16, (.tmp 17)), (17, (.tmp 18)), (18, (.tmp 19)), (19, (.tmp 20)), (20, (.tmp 21)), (21, (.tmp 22)), (22, (.tmp 23)), (23, (.tmp 24)), (24, (.tmp 25)), (25, (.tmp 26)), (26, (.tmp 27)), (27, (.tmp 28)), (28, (.tmp 29)), (29, (.tmp 30)), (30, (.tmp 31)), (31, (.tmp 32)), (32, (.tmp 33)), (33, (.tmp 34)), (34, (.tmp 35)), (35, (.tmp 36)), (36, (.tmp 37)), (37, (.tmp 38)), (38, (.tmp 39)), (39, (.tmp 40)), (40, (.tmp 41)), (41, (.tmp 42)), (42, (.tmp 43)), (43, (.tmp 44)), (44, (.tmp 45)), (45, (.tmp 46)), (46, (.tmp 47)), (47, (.tmp 48)), (48, (.tmp 49)), (49, (.tmp 50)), (50, (.tmp 51)), (51, (.tmp 52)), (52, (.tmp 53)), (53, (.tmp 54)), (54, (.tmp 55)), (55, (.tmp 56)), (56, (.tmp 57)), (57, (.tmp 58)), (58, (.tmp 59)), (59, (.tmp 60)), (60, (.tmp 61)), (61, (.tmp 62)), (62, (.tmp 63)), (63, (.tmp 64)), (64, (.tmp 65)), (65, (.tmp 66)), (66, (.tmp 67)), (67, (.tmp 68)), (68, (.tmp 69)), (69, (.tmp 70)), (70, (.tmp 71)), (71, (.tmp 72)), (72, (.tmp 73)), (73, (.tmp 74)), (74, (.tmp 75)), (75, (.tmp 76)), (76, (.tmp 77)), (77, (.tmp 78)), (78, (.tmp 79)), (79, (.tmp 80)), (80, (.tmp 81)), (81, (.tmp 82)), (82, (.tmp 83)), (83, (.tmp 84)), (84, (.tmp 85)), (85, (.tmp 86)), (86, (.tmp 87)), (87, (.tmp 88)), (88, (.tmp 89)), (89, (.tmp 90)), (90, (.tmp 91)), (91, (.tmp 92)), (92, (.tmp 93)), (93, (.tmp 94)), (94, (.tmp 95)), (95, (.tmp 96)), (96, (.tmp 97)), (97, (.tmp 98)), (98, (.tmp 99)), (99, (.tmp 100)), (100, (.tmp 101)), (101, (.tmp 102)), (102, (.tmp 103)), (103, (.tmp 104)), (104, (.tmp 105)), (105, (.tmp 106)), (106, (.tmp 107)), (107, (.tmp 108)), (108, (.tmp 109)), (109, (.tmp 110)), (110, (.tmp 111)), (111, (.tmp 112)), (112, (.tmp 113)), (113, (.tmp 114)), (114, (.tmp 115)), (115, (.tmp 116)), (116, (.tmp 117)), (117, (.tmp 118)), (118, (.tmp 119)), (119, (.tmp 120)), (120, (.tmp 121)), (121, (.tmp 122)), (122, (.tmp 123)), (123, (.tmp 124)), (124, (.tmp 125)), (125, (.tmp 126)), (126, (.tmp 127)), (127, (.tmp 128)), (128, (.tmp 129)), (129, (.tmp 130)), (130, (.tmp 131)), (131, (.tmp 132)), (132, (.tmp 133)), (133, (.tmp 134)), (134, (.tmp 135)), (135, (.tmp 136)), (136, (.tmp 137)), (137, (.tmp 138)), (138, (.tmp 139)), (139, (.tmp 140)), (140, (.tmp 141)), (141, (.tmp 142)), (142, (.tmp 143)), (143, (.tmp 144)), (144, (.tmp 145)), (145, (.tmp 146)), (146, (.tmp 147)), (147, (.tmp 148)), (148, (.tmp 149)), (149, (.tmp 150)), (150, (.tmp 151)), (151, (.tmp 152)), (152, (.tmp 153)), (153, (.tmp 154)), (154, (.tmp 155)), (155, (.tmp 156)), (156, (.tmp 157)), (157, (.tmp 158)), (158, (.tmp 159)), (159, (.tmp 160)), (160, (.tmp 161)), (161, (.tmp 162)), (162, (.tmp 163)), (163, (.tmp 164)), (164, (.tmp 165)), (165, (.tmp 166)), (166, (.tmp 167)), (167, (.tmp 168)), (168, (.tmp 169)), (169, (.tmp 170)), (170, (.tmp 171)), (171, (.tmp 172)), (172, (.tmp 173)), (173, (.tmp 174)), (174, (.tmp 175)), (175, (.tmp 176)), (176, (.tmp 177)), (177, (.tmp 178)), (178, (.tmp 179)), (179, (.tmp 180)), (180, (.tmp 181)), (181, (.tmp 182)), (182, (.tmp 183)), (183, (.tmp 184)), (184, (.tmp 185)), (185, (.tmp 186)), (186, (.tmp 187)), (187, (.tmp 188)), (188, (.tmp 189)), (189, (.tmp 190)), (190, (.tmp 191)), (191, (.tmp 192)), (192, (.tmp 193)), (193, (.tmp 194)), (194, (.tmp 195)), (195, (.tmp 196)), (196, (.tmp 197)), (197, (.tmp 198)), (198, (.tmp 199)), (199, (.tmp 200)), (200, (.tmp 201)), (201, (.tmp 202)), (202, (.tmp 203)), (203, (.tmp 204)), (204, (.tmp 205)), (205, (.tmp 206)), (206, (.tmp 207)), (207, (.tmp 208)), (208, (.tmp 209)), (209, (.tmp 210)), (210, (.tmp 211)), (211, (.tmp 212)), (212, (.tmp 213)), (213, (.tmp 214)), (214, (.tmp 215)), (215, (.tmp 216)), (216, (.tmp 217)), (217, (.tmp 218)), (218, (.tmp 219)), (219, (.tmp 220)), (220, (.tmp 221)), (221, (.tmp 222)), (222, (.tmp 223)), (223, (.tmp 224)), (224, (.tmp 225)), (225, (.tmp 226)), (226, (.tmp 227)), (227, (.tmp 228)), (228, (.tmp 229)), (229, (.tmp 230))]) none,
  .mk (some 0) (.assign (.tmp 231)) none]
def c22 : PC := (.seq (.reg false r22_0) (.seq (.reg false r22_1) .ret))
theorem e22 (hl : args.length = 0) (s : pwp Tryz.prog [] c22 (fin Tryz.prog [.tmp 0] h K) (slots0 (olds args)) h) : CanP Tryz.prog 22 args h K :=
  can_of2 (n := 232) mixed Tryz.func22 rfl (by kernel_rfl) (by rw [hl]; kernel_rfl) rfl (by kernel_rfl) s
/-! ### naskh.api.JoinRanges: function 23 -/
def r23_0 : List PS := [.mk (some 0) (.assign (.const (.slice none 0 0))) none]
def r23_1 : List PS := [.mk (some 1) (.build 99 #[(0, (.const (.int .i64 768))), (1, (.const (.int .i64 879))), (2, (.const (.int .i64 1)))]) none,
  .mk (some 2) (.build 99 #[(0, (.const (.int .i64 1155))), (1, (.const (.int .i64 1161))), (2, (.const (.int .i64 1)))]) none,
  .mk (some 3) (.build 99 #[(0, (.const (.int .i64 1425))), (1, (.const (.int .i64 1469))), (2, (.const (.int .i64 1)))]) none,
  .mk (some 4) (.build 99 #[(0, (.const (.int .i64 1471))), (1, (.const (.int .i64 1471))), (2, (.const (.int .i64 1)))]) none,
  .mk (some 5) (.build 99 #[(0, (.const (.int .i64 1473))), (1, (.const (.int .i64 1474))), (2, (.const (.int .i64 1)))]) none,
  .mk (some 6) (.build 99 #[(0, (.const (.int .i64 1476))), (1, (.const (.int .i64 1477))), (2, (.const (.int .i64 1)))]) none,
  .mk (some 7) (.build 99 #[(0, (.const (.int .i64 1479))), (1, (.const (.int .i64 1479))), (2, (.const (.int .i64 1)))]) none,
  .mk (some 8) (.build 99 #[(0, (.const (.int .i64 1552))), (1, (.const (.int .i64 1562))), (2, (.const (.int .i64 1)))]) none,
  .mk (some 9) (.build 99 #[(0, (.const (.int .i64 1564))), (1, (.const (.int .i64 1564))), (2, (.const (.int .i64 1)))]) none,
  .mk (some 10) (.build 99 #[(0, (.const (.int .i64 1568))), (1, (.const (.int .i64 1568))), (2, (.const (.int .i64 3)))]) none,
  .mk (some 11) (.build 99 #[(0, (.const (.int .i64 1570))), (1, (.const (.int .i64 1573))), (2, (.const (.int .i64 2)))]) none,
  .mk (some 12) (.build 99 #[(0, (.const (.int .i64 1574))), (1, (.const (.int .i64 1574))), (2, (.const (.int .i64 3)))]) none,
  .mk (some 13) (.build 99 #[(0, (.const (.int .i64 1575))), (1, (.const (.int .i64 1575))), (2, (.const (.int .i64 2)))]) none,
  .mk (some 14) (.build 99 #[(0, (.const (.int .i64 1576))), (1, (.const (.int .i64 1576))), (2, (.const (.int .i64 3)))]) none,
  .mk (some 15) (.build 99 #[(0, (.const (.int .i64 1577))), (1, (.const (.int .i64 1577))), (2, (.const (.int .i64 2)))]) none,
  .mk (some 16) (.build 99 #[(0, (.const (.int .i64 1578))), (1, (.const (.int .i64 1582))), (2, (.const (.int .i64 3)))]) none,
  .mk (some 17) (.build 99 #[(0, (.const (.int .i64 1583))), (1, (.const (.int .i64 1586))), (2, (.const (.int .i64 2)))]) none,
  .mk (some 18) (.build 99 #[(0, (.const (.int .i64 1587))), (1, (.const (.int .i64 1599))), (2, (.const (.int .i64 3)))]) none,
  .mk (some 19) (.build 99 #[(0, (.const (.int .i64 1600))), (1, (.const (.int .i64 1600))), (2, (.const (.int .i64 5)))]) none,
  .mk (some 20) (.build 99 #[(0, (.const (.int .i64 1601))), (1, (.const (.int .i64 1607))), (2, (.const (.int .i64 3)))]) none,
  .mk (some 21) (.build 99 #[(0, (.const (.int .i64 1608))), (1, (.const (.int .i64 1608))), (2, (.const (.int .i64 2)))]) none,
  .mk (some 22) (.build 99 #[(0, (.const (.int .i64 1609))), (1, (.const (.int .i64 1610))), (2, (.const (.int .i64 3)))]) none,
  .mk (some 23) (.build 99 #[(0, (.const (.int .i64 1611))), (1, (.const (.int .i64 1631))), (2, (.const (.int .i64 1)))]) none,
  .mk (some 24) (.build 99 #[(0, (.const (.int .i64 1646))), (1, (.const (.int .i64 1647))), (2, (.const (.int .i64 3)))]) none,
  .mk (some 25) (.build 99 #[(0, (.const (.int .i64 1648))), (1, (.const (.int .i64 1648))), (2, (.const (.int .i64 1)))]) none,
  .mk (some 26) (.build 99 #[(0, (.const (.int .i64 1649))), (1, (.const (.int .i64 1651))), (2, (.const (.int .i64 2)))]) none,
  .mk (some 27) (.build 99 #[(0, (.const (.int .i64 1653))), (1, (.const (.int .i64 1655))), (2, (.const (.int .i64 2)))]) none,
  .mk (some 28) (.build 99 #[(0, (.const (.int .i64 1656))), (1, (.const (.int .i64 1671))), (2, (.const (.int .i64 3)))]) none,
  .mk (some 29) (.build 99 #[(0, (.const (.int .i64 1672))), (1, (.const (.int .i64 1689))), (2, (.const (.int .i64 2)))]) none,
  .mk (some 30) (.build 99 #[(0, (.const (.int .i64 1690))), (1, (.const (.int .i64 1727))), (2, (.const (.int .i64 3)))]) none,
  .mk (some 31) (.build 99 #[(0, (.const (.int .i64 1728))), (1, (.const (.int .i64 1728))), (2, (.const (.int .i64 2)))]) none,
  .mk (some 32) (.build 99 #[(0, (.const (.int .i64 1729))), (1, (.const (.int .i64 1730))), (2, (.const (.int .i64 3)))]) none,
  .mk (some 33) (.build 99 #[(0, (.const (.int .i64 1731))), (1, (.const (.int .i64 1739))), (2, (.const (.int .i64 2)))]) none,
  .mk (some 34) (.build 99 #[(0, (.const (.int .i64 1740))), (1, (.const (.int .i64 1740))), (2, (.const (.int .i64 3)))]) none,
  .mk (some 35) (.build 99 #[(0, (.const (.int .i64 1741))), (1, (.const (.int .i64 1741))), (2, (.const (.int .i64 2)))]) none,
  .mk (some 36) (.build 99 #[(0, (.const (.int .i64 1742))), (1, (.const (.int .i64 1742))), (2, (.const (.int .i64 3)))]) none,
  .mk (some 37) (.build 99 #[(0, (.const (.int .i64 1743))), (1, (.const (.int .i64 1743))), (2, (.const (.int .i64 2)))]) none,
  .mk (some 38) (.build 99 #[(0, (.const (.int .i64 1744))), (1, (.const (.int .i64 1745))), (2, (.const (.int .i64 3)))]) none,
  .mk (some 39) (.build 99 #[(0, (.const (.int .i64 1746))), (1, (.const (.int .i64 1747))), (2, (.const (.int .i64 2)))]) none,
  .mk (some 40) (.build 99 #[(0, (.const (.int .i64 1749))), (1, (.const (.int .i64 1749))), (2, (.const (.int .i64 2)))]) none,
  .mk (some 41) (.build 99 #[(0, (.const (.int .i64 1750))), (1, (.const (.int .i64 1756))), (2, (.const (.int .i64 1)))]) none,
  .mk (some 42) (.build 99 #[(0, (.const (.int .i64 1759))), (1, (.const (.int .i64 1764))), (2, (.const (.int .i64 1)))]) none,
  .mk (some 43) (.build 99 #[(0, (.const (.int .i64 1767))), (1, (.const (.int .i64 1768))), (2, (.const (.int .i64 1)))]) none,
  .mk (some 44) (.build 99 #[(0, (.const (.int .i64 1770))), (1, (.const (.int .i64 1773))), (2, (.const (.int .i64 1)))]) none,
  .mk (some 45) (.build 99 #[(0, (.const (.int .i64 1774))), (1, (.const (.int .i64 1775))), (2, (.const (.int .i64 2)))]) none,
  .mk (some 46) (.build 99 #[(0, (.const (.int .i64 1786))), (1, (.const (.int .i64 1788))), (2, (.const (.int .i64 3)))]) none,
  .mk (some 47) (.build 99 #[(0, (.const (.int .i64 1791))), (1, (.const (.int .i64 1791))), (2, (.const (.int .i64 3)))]) none,
  .mk (some 48) (.build 99 #[(0, (.const (.int .i64 1840))), (1, (.const (.int .i64 1866))), (2, (.const (.int .i64 1)))]) none,
  .mk (some 49) (.build 99 #[(0, (.const (.int .i64 1958))), (1, (.const (.int .i64 1968))), (2, (.const (.int .i64 1)))]) none,
  .mk (some 50) (.build 99 #[(0, (.const (.int .i64 1994))), (1, (.const (.int .i64 2026))), (2, (.const (.int .i64 3)))]) none,
  .mk (some 51) (.build 99 #[(0, (.const (.int .i64 2027))), (1, (.const (.int .i64 2035))), (2, (.const (.int .i64 1)))]) none,
  .mk (some 52) (.build 99 #[(0, (.const (.int .i64 2042))), (1, (.const (.int .i64 2042))), (2, (.const (.int .i64 5)))]) none,
  .mk (some 53) (.build 99 #[(0, (.const (.int .i64 2200))), (1, (.const (.int .i64 2207))), (2, (.const (.int .i64 1)))]) none,
  .mk (some 54) (.build 99 #[(0, (.const (.int .i64 2250))), (1, (.const (.int .i64 2273))), (2, (.const (.int .i64 1)))]) none,
  .mk (some 55) (.build 99 #[(0, (.const (.int .i64 2275))), (1, (.const (.int .i64 2306))), (2, (.const (.int .i64 1)))]) none,
  .mk (some 56) (.build 99 #[(0, (.const (.int .i64 8203))), (1, (.const (.int .i64 8203))), (2, (.const (.int .i64 1)))]) none,
  .mk (some 57) (.build 99 #[(0, (.const (.int .i64 8205))), (1, (.const (.int .i64 8205))), (2, (.const (.int .i64 5)))]) none,
  .mk (some 58) (.build 99 #[(0, (.const (.int .i64 8206))), (1, (.const (.int .i64 8207))), (2, (.const (.int .i64 1)))]) none,
  .mk (some 59) (.build 99 #[(0, (.const (.int .i64 8234))), (1, (.const (.int .i64 8238))), (2, (.const (.int .i64 1)))]) none,
  .mk (some 60) (.build 99 #[(0, (.const (.int .i64 8288))), (1, (.const (.int .i64 8292))), (2, (.const (.int .i64 1)))]) none,
  .mk (some 61) (.build 99 #[(0, (.const (.int .i64 8298))), (1, (.const (.int .i64 8303))), (2, (.const (.int .i64 1)))]) none,
  .mk (some 62) (.build 99 #[(0, (.const (.int .i64 8400))), (1, (.const (.int .i64 8432))), (2, (.const (.int .i64 1)))]) none,
  .mk (some 63) (.build 99 #[(0, (.const (.int .i64 43072))), (1, (.const (.int .i64 43121))), (2, (.const (.int .i64 3)))]) none,
  .mk (some 64) (.build 99 #[(0, (.const (.int .i64 43122))), (1, (.const (.int .i64 43122))), (2, (.const (.int .i64 4)))]) none,
  .mk (some 65) (.build 99 #[(0, (.const (.int .i64 65024))), (1, (.const (.int .i64 65039))), (2, (.const (.int .i64 1)))]) none,
  .mk (some 66) (.build 99 #[(0, (.const (.int .i64 65056))), (1, (.const (.int .i64 65071))), (2, (.const (.int .i64 1)))]) none,
  .mk (some 67) (.build 99 #[(0, (.const (.int .i64 65279))), (1, (.const (.int .i64 65279))), (2, (.const (.int .i64 1)))]) none,
  .mk (some 68) (.build 99 #[(0, (.const (.int .i64 917760))), (1, (.const (.int .i64 917999))), (2, (.const (.int .i64 1)))]) none,
  .mk (some 69) (.buildSlice 57 68 #[(0, (.tmp 1)), (1, (.tmp 2)), (2, (.tmp 3)), (3, (.tmp 4)), (4, (.tmp 5)), (5, (.tmp 6)), (6, (.tmp 7)), (7, (.tmp 8)), (8, (.tmp 9)), (9, (.tmp 10)), (10, (.tmp 11)), (11, (.tmp 12)), (12, (.tmp 13)), (13, (.tmp 14)), (14, (.tmp 15)), (15, (.tmp 16)), (16, (.tmp 17)), (17, (.tmp 18)), (18, (.tmp 19)), (19, (.tmp 20)), (20, (.tmp 21)), (21, (.tmp 22)), (22, (.tmp 23)), (23, (.tmp 24)), (24, (.tmp 25)), (25, (.tmp 26)), (26, (.tmp 27)), (27, (.tmp 28)), (28, (.tmp 29)), (29, (.tmp 30)), (30, (.tmp 31)), (31, (.tmp 32)), (32, (.tmp 33)), (33, (.tmp 34)), (34, (.tmp 35)), (35, (.tmp 36)), (36, (.tmp 37)), (37, (.tmp 38)), (38, (.tmp 39)), (39, (.tmp 40)), (40, (.tmp 41)), (41, (.tmp 42)), (42, (.tmp 43)), (43, (.tmp 44)), (44, (.tmp 45)), (45, (.tmp 46)), (46, (.tmp 47)), (47, (.tmp 48)), (48, (.tmp 49)), (49, (.tmp 50)), (50, (.tmp 51)), (51, (.tmp 52)), (52, (.tmp 53)), (53, (.tmp 54)), (54, (.tmp 55)), (55, (.tmp 56)), (56, (.tmp 57)), (57, (.tmp 58)), (58, (.tmp 59)), (59, (.tmp 60)), (60, (.tmp 61)), (61, (.tmp 62)), (62, (.tmp 63)), (63, (.tmp 64)), (64, (.tmp 65)), (65, (.tmp 66)), (66, (.tmp 67)), (67, (.tmp 68))]) none,
  .mk (some 0) (.assign (.tmp 69)) none]
def c23 : PC := (.seq (.reg false r23_0) (.seq (.reg false r23_1) .ret))
theorem e23 (hl : args.length = 0) (s : pwp Tryz.prog [] c23 (fin Tryz.prog [.tmp 0] h K) (slots0 (olds args)) h) : CanP Tryz.prog 23 args h K :=
  can_of2 (n := 70) mixed Tryz.func23 rfl (by kernel_rfl) (by rw [hl]; kernel_rfl) rfl (by kernel_rfl) s
/-! ### naskh.props.New: function 8 -/
def r8_0 : List PS := [.mk (some 0) (.assign (.const (.pointer none))) none]
def r8_1 : List PS := [.mk (some 6) (.call ⟨(.value (.func 22)), #[], #[]⟩) none,
  .mk (some 7) (.call ⟨(.value (.func 21)), #[(.tmp 6), (.const (.int .i64 0))], #[57, 3]⟩) none,
  .mk (some 5) (.move (.tmp 7)) none,
  .mk (some 8) (.extract (.tmp 5) 0) none,
  .mk (some 9) (.extract (.tmp 5) 1) none,
  .mk (some 1) (.assign (.tmp 8)) none,
  .mk (some 2) (.assign (.tmp 9)) none]
def r8_2 : List PS := [.mk (some 11) (.call ⟨(.value (.func 23)), #[], #[]⟩) none,
  .mk (some 12) (.call ⟨(.value (.func 21)), #[(.tmp 11), (.const (.int .i64 0))], #[57, 3]⟩) none,
  .mk (some 10) (.move (.tmp 12)) none,
  .mk (some 13) (.extract (.tmp 10) 0) none,
  .mk (some 14) (.extract (.tmp 10) 1) none,
  .mk (some 3) (.assign (.tmp 13)) none,
  .mk (some 4) (.assign (.tmp 14)) none]
def r8_3 : List PS := [.mk (some 15) (.move (.tmp 2)) none,
  .mk (some 16) (.binOp .neq 54 (.tmp 15) (.const (.int .i64 0)) 54) none,
  .mk (some 17) (.move (.tmp 16)) none,
  .mk (some 18) (.move (.tmp 4)) (some (17, false)),
  .mk (some 19) (.binOp .neq 54 (.tmp 18) (.const (.int .i64 0)) 54) (some (17, false)),
  .mk (some 20) (.pick (.tmp 17) (.const (.bool true)) (.tmp 19)) none]
def r8_4 : List PS := [.mk (some 0) (.assign (.const (.pointer none))) none]
def r8_5 : List PS := [.mk (some 21) (.move (.tmp 1)) none,
  .mk (some 22) (.move (.tmp 3)) none,
  .mk (some 23) (.build 60 #[(0, (.tmp 21)), (1, (.tmp 22))]) none,
  .mk (some 24) (.build 62 #[(0, (.tmp 23))]) none,
  .mk (some 25) (.box 62 (.tmp 24)) none,
  .mk (some 0) (.assign (.tmp 25)) none]
def c8 : PC := (.seq (.reg false r8_0) (.seq (.reg false r8_1) (.seq (.reg false r8_2) (.seq (.seq (.reg false r8_3) (.cond (.tmp 20) (.seq (.reg false r8_4) .ret) .skip)) (.seq (.reg false r8_5) .ret)))))
theorem e8 (hl : args.length = 0) (s : pwp Tryz.prog [] c8 (fin Tryz.prog [.tmp 0] h K) (slots0 (olds args)) h) : CanP Tryz.prog 8 args h K :=
  can_of2 (n := 26) mixed Tryz.func8 rfl (by kernel_rfl) (by rw [hl]; kernel_rfl) rfl (by kernel_rfl) s
/-! ### naskh.api.Combining: function 24 -/
def r24_0 : List PS := [.mk (some 0) (.assign (.const (.slice none 0 0))) none]
def r24_1 : List PS := [.mk (some 1) (.build 99 #[(0, (.const (.int .i64 768))), (1, (.const (.int .i64 788))), (2, (.const (.int .i64 230)))]) none,
  .mk (some 2) (.build 99 #[(0, (.const (.int .i64 789))), (1, (.const (.int .i64 789))), (2, (.const (.int .i64 232)))]) none,
  .mk (some 3) (.build 99 #[(0, (.const (.int .i64 790))), (1, (.const (.int .i64 793))), (2, (.const (.int .i64 220)))]) none,
  .mk (some 4) (.build 99 #[(0, (.const (.int .i64 794))), (1, (.const (.int .i64 794))), (2, (.const (.int .i64 232)))]) none,
  .mk (some 5) (.build 99 #[(0, (.const (.int .i64 795))), (1, (.const (.int .i64 795))), (2, (.const (.int .i64 216)))]) none,
  .mk (some 6) (.build 99 #[(0, (.const (.int .i64 796))), (1, (.const (.int .i64 800))), (2, (.const (.int .i64 220)))]) none,
  .mk (some 7) (.build 99 #[(0, (.const (.int .i64 801))), (1, (.const (.int .i64 802))), (2, (.const (.int .i64 202)))]) none,
  .mk (some 8) (.build 99 #[(0, (.const (.int .i64 803))), (1, (.const (.int .i64 806))), (2, (.const (.int .i64 220)))]) none,
  .mk (some 9) (.build 99 #[(0, (.const (.int .i64 807))), (1, (.const (.int .i64 808))), (2, (.const (.int .i64 202)))]) none,
  .mk (some 10) (.build 99 #[(0, (.const (.int .i64 809))), (1, (.const (.int .i64 819))), (2, (.const (.int .i64 220)))]) none,
  .mk (some 11) (.build 99 #[(0, (.const (.int .i64 820))), (1, (.const (.int .i64 824))), (2, (.const (.int .i64 1)))]) none,
  .mk (some 12) (.build 99 #[(0, (.const (.int .i64 825))), (1, (.const (.int .i64 828))), (2, (.const (.int .i64 220)))]) none,
  .mk (some 13) (.build 99 #[(0, (.const (.int .i64 829))), (1, (.const (.int .i64 836))), (2, (.const (.int .i64 230)))]) none,
  .mk (some 14) (.build 99 #[(0, (.const (.int .i64 837))), (1, (.const (.int .i64 837))), (2, (.const (.int .i64 240)))]) none,
  .mk (some 15) (.build 99 #[(0, (.const (.int .i64 838))), (1, (.const (.int .i64 838))), (2, (.const (.int .i64 230)))]) none,
  .mk (some 16) (.build 99 #[(0, (.const (.int .i64 839))), (1, (.const (.int .i64 841))), (2, (.const (.int .i64 220)))]) none,
  .mk (some 17) (.build 99 #[(0, (.const (.int .i64 842))), (1, (.const (.int .i64 844))), (2, (.const (.int .i64 230)))]) none,
  .mk (some 18) (.build 99 #[(0, (.const (.int .i64 845))), (1, (.const (.int .i64 846))), (2, (.const (.int .i64 220)))]) none,
  .mk (some 19) (.build 99 #[(0, (.const (.int .i64 848))), (1, (.const (.int .i64 850))), (2, (.const (.int .i64 230)))]) none,
  .mk (some 20) (.build 99 #[(0, (.const (.int .i64 851))), (1, (.const (.int .i64 854))), (2, (.const (.int .i64 220)))]) none,
  .mk (some 21) (.build 99 #[(0, (.const (.int .i64 855))), (1, (.const (.int .i64 855))), (2, (.const (.int .i64 230)))]) none,
  .mk (some 22) (.build 99 #[(0, (.const (.int .i64 856))), (1, (.const (.int .i64 856))), (2, (.const (.int .i64 232)))]) none,
  .mk (some 23) (.build 99 #[(0, (.const (.int .i64 857))), (1, (.const (.int .i64 858))), (2, (.const (.int .i64 220)))]) none,
  .mk (some 24) (.build 99 #[(0, (.const (.int .i64 859))), (1, (.const (.int .i64 859))), (2, (.const (.int .i64 230)))]) none,
  .mk (some 25) (.build 99 #[(0, (.const (.int .i64 860))), (1, (.const (.int .i64 860))), (2, (.const (.int .i64 233)))]) none,
  .mk (some 26) (.build 99 #[(0, (.const (.int .i64 861))), (1, (.const (.int .i64 862))), (2, (.const (.int .i64 234)))]) none,
  .mk (some 27) (.build 99 #[(0, (.const (.int .i64 863))), (1, (.const (.int .i64 863))), (2, (.const (.int .i64 233)))]) none,
  .mk (some 28) (.build 99 #[(0, (.const (.int .i64 864))), (1, (.const (.int .i64 865))), (2, (.const (.int .i64 234)))]) none,
  .mk (some 29) (.build 99 #[(0, (.const (.int .i64 866))), (1, (.const (.int .i64 866))), (2, (.const (.int .i64 233)))]) none,
  .mk (some 30) (.build 99 #[(0, (.const (.int .i64 867))), (1, (.const (.int .i64 879))), (2, (.const (.int .i64 230)))]) none,
  .mk (some 31) (.build 99 #[(0, (.const (.int .i64 1425))), (1, (.const (.int .i64 1425))), (2, (.const (.int .i64 220)))]) none,
  .mk (some 32) (.build 99 #[(0, (.const (.int .i64 1426))), (1, (.const (.int .i64 1429))), (2, (.const (.int .i64 230)))]) none,
  .mk (some 33) (.build 99 #[(0, (.const (.int .i64 1430))), (1, (.const (.int .i64 1430))), (2, (.const (.int .i64 220)))]) none,
  .mk (some 34) (.build 99 #[(0, (.const (.int .i64 1431))), (1, (.const (.int .i64 1433))), (2, (.const (.int .i64 230)))]) none,
  .mk (some 35) (.build 99 #[(0, (.const (.int .i64 1434))), (1, (.const (.int .i64 1434))), (2, (.const (.int .i64 222)))]) none,
  .mk (some 36) (.build 99 #[(0, (.const (.int .i64 1435))), (1, (.const (.int .i64 1435))), (2, (.const (.int .i64 220)))]) none,
  .mk (some 37) (.build 99 #[(0, (.const (.int .i64 1436))), (1, (.const (.int .i64 1441))), (2, (.const (.int .i64 230)))]) none,
  .mk (some 38) (.build 99 #[(0, (.const (.int .i64 1442))), (1, (.const (.int .i64 1447))), (2, (.const (.int .i64 220)))]) none,
  .mk (some 39) (.build 99 #[(0, (.const (.int .i64 1448))), (1, (.const (.int .i64 1449))), (2, (.const (.int .i64 230)))]) none,
  .mk (some 40) (.build 99 #[(0, (.const (.int .i64 1450))), (1, (.const (.int .i64 1450))), (2, (.const (.int .i64 220)))]) none,
  .mk (some 41) (.build 99 #[(0, (.const (.int .i64 1451))), (1, (.const (.int .i64 1452))), (2, (.const (.int .i64 230)))]) none,
  .mk (some 42) (.build 99 #[(0, (.const (.int .i64 1453))), (1, (.const (.int .i64 1453))), (2, (.const (.int .i64 222)))]) none,
  .mk (some 43) (.build 99 #[(0, (.const (.int .i64 1454))), (1, (.const (.int .i64 1454))), (2, (.const (.int .i64 228)))]) none,
  .mk (some 44) (.build 99 #[(0, (.const (.int .i64 1455))), (1, (.const (.int .i64 1455))), (2, (.const (.int .i64 230)))]) none,
  .mk (some 45) (.build 99 #[(0, (.const (.int .i64 1456))), (1, (.const (.int .i64 1456))), (2, (.const (.int .i64 10)))]) none,
  .mk (some 46) (.build 99 #[(0, (.const (.int .i64 1457))), (1, (.const (.int .i64 1457))), (2, (.const (.int .i64 11)))]) none,
  .mk (some 47) (.build 99 #[(0, (.const (.int .i64 1458))), (1, (.const (.int .i64 1458))), (2, (.const (.int .i64 12)))]) none,
  .mk (some 48) (.build 99 #[(0, (.const (.int .i64 1459))), (1, (.const (.int .i64 1459))), (2, (.const (.int .i64 13)))]) none,
  .mk (some 49) (.build 99 #[(0, (.const (.int .i64 1460))), (1, (.const (.int .i64 1460))), (2, (.const (.int .i64 14)))]) none,
  .mk (some 50) (.build 99 #[(0, (.const (.int .i64 1461))), (1, (.const (.int .i64 1461))), (2, (.const (.int .i64 15)))]) none,
  .mk (some 51) (.build 99 #[(0, (.const (.int .i64 1462))), (1, (.const (.int .i64 1462))), (2, (.const (.int .i64 16)))]) none,
  .mk (some 52) (.build 99 #[(0, (.const (.int .i64 1463))), (1, (.const (.int .i64 1463))), (2, (.const (.int .i64 17)))]) none,
  .mk (some 53) (.build 99 #[(0, (.const (.int .i64 1464))), (1, (.const (.int .i64 1464))), (2, (.const (.int .i64 18)))]) none,
  .mk (some 54) (.build 99 #[(0, (.const (.int .i64 1465))), (1, (.const (.int .i64 1466))), (2, (.const (.int .i64 19)))]) none,
  .mk (some 55) (.build 99 #[(0, (.const (.int .i64 1467))), (1, (.const (.int .i64 1467))), (2, (.const (.int .i64 20)))]) none,
  .mk (some 56) (.build 99 #[(0, (.const (.int .i64 1468))), (1, (.const (.int .i64 1468))), (2, (.const (.int .i64 21)))]) none,
  .mk (some 57) (.build 99 #[(0, (.const (.int .i64 1469))), (1, (.const (.int .i64 1469))), (2, (.const (.int .i64 22)))]) none,
  .mk (some 58) (.build 99 #[(0, (.const (.int .i64 1471))), (1, (.const (.int .i64 1471))), (2, (.const (.int .i64 23)))]) none,
  .mk (some 59) (.build 99 #[(0, (.const (.int .i64 1473))), (1, (.const (.int .i64 1473))), (2, (.const (.int .i64 24)))]) none,
  .mk (some 60) (.build 99 #[(0, (.const (.int .i64 1474))), (1, (.const (.int .i64 1474))), (2, (.const (.int .i64 25)))]) none,
  .mk (some 61) (.build 99 #[(0, (.const (.int .i64 1476))), (1, (.const (.int .i64 1476))), (2, (.const (.int .i64 230)))]) none,
  .mk (some 62) (.build 99 #[(0, (.const (.int .i64 1477))), (1, (.const (.int .i64 1477))), (2, (.const (.int .i64 220)))]) none,
  .mk (some 63) (.build 99 #[(0, (.const (.int .i64 1479))), (1, (.const (.int .i64 1479))), (2, (.const (.int .i64 18)))]) none,
  .mk (some 64) (.build 99 #[(0, (.const (.int .i64 1552))), (1, (.const (.int .i64 1559))), (2, (.const (.int .i64 230)))]) none,
  .mk (some 65) (.build 99 #[(0, (.const (.int .i64 1560))), (1, (.const (.int .i64 1560))), (2, (.const (.int .i64 30)))]) none,
  .mk (some 66) (.build 99 #[(0, (.const (.int .i64 1561))), (1, (.const (.int .i64 1561))), (2, (.const (.int .i64 31)))]) none,
  .mk (some 67) (.build 99 #[(0, (.const (.int .i64 1562))), (1, (.const (.int .i64 1562))), (2, (.const (.int .i64 32)))]) none,
  .mk (some 68) (.build 99 #[(0, (.const (.int .i64 1611))), (1, (.const (.int .i64 1611))), (2, (.const (.int .i64 27)))]) none,
  .mk (some 69) (.build 99 #[(0, (.const (.int .i64 1612))), (1, (.const (.int .i64 1612))), (2, (.const (.int .i64 28)))]) none,
  .mk (some 70) (.build 99 #[(0, (.const (.int .i64 1613))), (1, (.const (.int .i64 1613))), (2, (.const (.int .i64 29)))]) none,
  .mk (some 71) (.build 99 #[(0, (.const (.int .i64 1614))), (1, (.const (.int .i64 1614))), (2, (.const (.int .i64 30)))]) none,
  .mk (some 72) (.build 99 #[(0, (.const (.int .i64 1615))), (1, (.const (.int .i64 1615))), (2, (.const (.int .i64 31)))]) none,
  .mk (some 73) (.build 99 #[(0, (.const (.int .i64 1616))), (1, (.const (.int .i64 1616))), (2, (.const (.int .i64 32)))]) none,
  .mk (some 74) (.build 99 #[(0, (.const (.int .i64 1617))), (1, (.const (.int .i64 1617))), (2, (.const (.int .i64 33)))]) none,
  .mk (some 75) (.build 99 #[(0, (.const (.int .i64 1618))), (1, (.const (.int .i64 1618))), (2, (.const (.int .i64 34)))]) none,
  .mk (some 76) (.build 99 #[(0, (.const (.int .i64 1619))), (1, (.const (.int .i64 1620))), (2, (.const (.int .i64 230)))]) none,
  .mk (some 77) (.build 99 #[(0, (.const (.int .i64 1621))), (1, (.const (.int .i64 1622))), (2, (.const (.int .i64 220)))]) none,
  .mk (some 78) (.build 99 #[(0, (.const (.int .i64 1623))), (1, (.const (.int .i64 1627))), (2, (.const (.int .i64 230)))]) none,
  .mk (some 79) (.build 99 #[(0, (.const (.int .i64 1628))), (1, (.const (.int .i64 1628))), (2, (.const (.int .i64 220)))]) none,
  .mk (some 80) (.build 99 #[(0, (.const (.int .i64 1629))), (1, (.const (.int .i64 1630))), (2, (.const (.int .i64 230)))]) none,
  .mk (some 81) (.build 99 #[(0, (.const (.int .i64 1631))), (1, (.const (.int .i64 1631))), (2, (.const (.int .i64 220)))]) none,
  .mk (some 82) (.build 99 #[(0, (.const (.int .i64 1648))), (1, (.const (.int .i64 1648))), (2, (.const (.int .i64 35)))]) none,
  .mk (some 83) (.build 99 #[(0, (.const (.int .i64 1750))), (1, (.const (.int .i64 1756))), (2, (.const (.int .i64 230)))]) none,
  .mk (some 84) (.build 99 #[(0, (.const (.int .i64 1759))), (1, (.const (.int .i64 1762))), (2, (.const (.int .i64 230)))]) none,
  .mk (some 85) (.build 99 #[(0, (.const (.int .i64 1763))), (1, (.const (.int .i64 1763))), (2, (.const (.int .i64 220)))]) none,
  .mk (some 86) (.build 99 #[(0, (.const (.int .i64 1764))), (1, (.const (.int .i64 1764))), (2, (.const (.int .i64 230)))]) none,
  .mk (some 87) (.build 99 #[(0, (.const (.int .i64 1767))), (1, (.const (.int .i64 1768))), (2, (.const (.int .i64 230)))]) none,
  .mk (some 88) (.build 99 #[(0, (.const (.int .i64 1770))), (1, (.const (.int .i64 1770))), (2, (.const (.int .i64 220)))]) none,
  .mk (some 89) (.build 99 #[(0, (.const (.int .i64 1771))), (1, (.const (.int .i64 1772))), (2, (.const (.int .i64 230)))]) none,
  .mk (some 90) (.build 99 #[(0, (.const (.int .i64 1773))), (1, (.const (.int .i64 1773))), (2, (.const (.int .i64 220)))]) none,
  .mk (some 91) (.build 99 #[(0, (.const (.int .i64 1809))), (1, (.const (.int .i64 1809))), (2, (.const (.int .i64 36)))]) none,
  .mk (some 92) (.build 99 #[(0, (.const (.int .i64 1840))), (1, (.const (.int .i64 1840))), (2, (.const (.int .i64 230)))]) none,
  .mk (some 93) (.build 99 #[(0, (.const (.int .i64 1841))), (1, (.const (.int .i64 1841))), (2, (.const (.int .i64 220)))]) none,
  .mk (some 94) (.build 99 #[(0, (.const (.int .i64 1842))), (1, (.const (.int .i64 1843))), (2, (.const (.int .i64 230)))]) none,
  .mk (some 95) (.build 99 #[(0, (.const (.int .i64 1844))), (1, (.const (.int .i64 1844))), (2, (.const (.int .i64 220)))]) none,
  .mk (some 96) (.build 99 #[(0, (.const (.int .i64 1845))), (1, (.const (.int .i64 1846))), (2, (.const (.int .i64 230)))]) none,
  .mk (some 97) (.build 99 #[(0, (.const (.int .i64 1847))), (1, (.const (.int .i64 1849))), (2, (.const (.int .i64 220)))]) none,
  .mk (some 98) (.build 99 #[(0, (.const (.int .i64 1850))), (1, (.const (.int .i64 1850))), (2, (.const (.int .i64 230)))]) none,
  .mk (some 99) (.build 99 #[(0, (.const (.int .i64 1851))), (1, (.const (.int .i64 1852))), (2, (.const (.int .i64 220)))]) none,
  .mk (some 100) (.build 99 #[(0, (.const (.int .i64 1853))), (1, (.const (.int .i64 1853))), (2, (.const (.int .i64 230)))]) none,
  .mk (some 101) (.build 99 #[(0, (.const (.int .i64 1854))), (1, (.const (.int .i64 1854))), (2, (.const (.int .i64 220)))]) none,
  .mk (some 102) (.build 99 #[(0, (.const (.int .i64 1855))), (1, (.const (.int .i64 1857))), (2, (.const (.int .i64 230)))]) none,
  .mk (some 103) (.build 99 #[(0, (.const (.int .i64 1858))), (1, (.const (.int .i64 1858))), (2, (.const (.int .i64 220)))]) none,
  .mk (some 104) (.build 99 #[(0, (.const (.int .i64 1859))), (1, (.const (.int .i64 1859))), (2, (.const (.int .i64 230)))]) none,
  .mk (some 105) (.build 99 #[(0, (.const (.int .i64 1860))), (1, (.const (.int .i64 1860))), (2, (.const (.int .i64 220)))]) none,
  .mk (some 106) (.build 99 #[(0, (.const (.int .i64 1861))), (1, (.const (.int .i64 1861))), (2, (.const (.int .i64 230)))]) none,
  .mk (some 107) (.build 99 #[(0, (.const (.int .i64 1862))), (1, (.const (.int .i64 1862))), (2, (.const (.int .i64 220)))]) none,
  .mk (some 108) (.build 99 #[(0, (.const (.int .i64 1863))), (1, (.const (.int .i64 1863))), (2, (.const (.int .i64 230)))]) none,
  .mk (some 109) (.build 99 #[(0, (.const (.int .i64 1864))), (1, (.const (.int .i64 1864))), (2, (.const (.int .i64 220)))]) none,
  .mk (some 110) (.build 99 #[(0, (.const (.int .i64 1865))), (1, (.const (.int .i64 1866))), (2, (.const (.int .i64 230)))]) none,
  .mk (some 111) (.build 99 #[(0, (.const (.int .i64 2259))), (1, (.const (.int .i64 2259))), (2, (.const (.int .i64 220)))]) none,
  .mk (some 112) (.build 99 #[(0, (.const (.int .i64 2260))), (1, (.const (.int .i64 2273))), (2, (.const (.int .i64 230)))]) none,
  .mk (some 113) (.build 99 #[(0, (.const (.int .i64 2275))), (1, (.const (.int .i64 2275))), (2, (.const (.int .i64 220)))]) none,
  .mk (some 114) (.build 99 #[(0, (.const (.int .i64 2276))), (1, (.const (.int .i64 2277))), (2, (.const (.int .i64 230)))]) none,
  .mk (some 115) (.build 99 #[(0, (.const (.int .i64 2278))), (1, (.const (.int .i64 2278))), (2, (.const (.int .i64 220)))]) none,
  .mk (some 116) (.build 99 #[(0, (.const (.int .i64 2279))), (1, (.const (.int .i64 2280))), (2, (.const (.int .i64 230)))]) none,
  .mk (some 117) (.build 99 #[(0, (.const (.int .i64 2281))), (1, (.const (.int .i64 2281))), (2, (.const (.int .i64 220)))]) none,
  .mk (some 118) (.build 99 #[(0, (.const (.int .i64 2282))), (1, (.const (.int .i64 2284))), (2, (.const (.int .i64 230)))]) none,
  .mk (some 119) (.build 99 #[(0, (.const (.int .i64 2285))), (1, (.const (.int .i64 2287))), (2, (.const (.int .i64 220)))]) none,
  .mk (some 120) (.build 99 #[(0, (.const (.int .i64 2288))), (1, (.const (.int .i64 2288))), (2, (.const (.int .i64 27)))]) none,
  .mk (some 121) (.build 99 #[(0, (.const (.int .i64 2289))), (1, (.const (.int .i64 2289))), (2, (.const (.int .i64 28)))]) none,
  .mk (some 122) (.build 99 #[(0, (.const (.int .i64 2290))), (1, (.const (.int .i64 2290))), (2, (.const (.int .i64 29)))]) none,
  .mk (some 123) (.build 99 #[(0, (.const (.int .i64 2291))), (1, (.const (.int .i64 2293))), (2, (.const (.int .i64 230)))]) none,
  .mk (some 124) (.build 99 #[(0, (.const (.int .i64 2294))), (1, (.const (.int .i64 2294))), (2, (.const (.int .i64 220)))]) none,
  .mk (some 125) (.build 99 #[(0, (.const (.int .i64 2295))), (1, (.const (.int .i64 2296))), (2, (.const (.int .i64 230)))]) none,
  .mk (some 126) (.build 99 #[(0, (.const (.int .i64 2297))), (1, (.const (.int .i64 2298))), (2, (.const (.int .i64 220)))]) none,
  .mk (some 127) (.build 99 #[(0, (.const (.int .i64 2299))), (1, (.const (.int .i64 2303))), (2, (.const (.int .i64 230)))]) none,
  .mk (some 128) (.build 99 #[(0, (.const (.int .i64 8400))), (1, (.const (.int .i64 8401))), (2, (.const (.int .i64 230)))]) none,
  .mk (some 129) (.build 99 #[(0, (.const (.int .i64 64286))), (1, (.const (.int .i64 64286))), (2, (.const (.int .i64 26)))]) none,
  .mk (some 130) (.build 99 #[(0, (.const (.int .i64 65056))), (1, (.const (.int .i64 65062))), (2, (.const (.int .i64 230)))]) none,
  .mk (some 131) (.build 99 #[(0, (.const (.int .i64 65063))), (1, (.const (.int .i64 65069))), (2, (.const (.int .i64 220)))]) none,
  .mk (some 132) (.build 99 #[(0, (.const (.int .i64 65070))), (1, (.const (.int .i64 65071))), (2, (.const (.int .i64 230)))]) none,
  .mk (some 133) (.buildSlice 57 132 #[(0, (.tmp 1)), (1, (.tmp 2)), (2, (.tmp 3)), (3, (.tmp 4)), (4, (.tmp 5)), (5, (.tmp 6)), (6, (.tmp 7)), (7, (.tmp 8)), (8, (.tmp 9)), (9, (.tmp 10)), (10, (.tmp 11)), (11, (.tmp 12)), (12, (.tmp 13)), (13, (.tmp 14)), (14, (.tmp 15)), (15, (.tmp 16)), (16, (.tmp 17)), (17, (.tmp 18)), (18, (.tmp 19)), (19, (.tmp 20)), (20, (.tmp 21)), (21, (.tmp 22)), (22, (.tmp 23)), (23, (.tmp 24)), (24, (.tmp 25)), (25, (.tmp 26)), (26, (.tmp 27)), (27, (.tmp 28)), (28, (.tmp 29)), (29, (.tmp 30)), (30, (.tmp 31)), (31, (.tmp 32)), (32, (.tmp 33)), (33, (.tmp 34)), (34, (.tmp 35)), (35, (.tmp 36)), (36, (.tmp 37)), (37, (.tmp 38)), (38, (.tmp 39)), (39, (.tmp 40)), (40, (.tmp 41)), (41, (.tmp 42)), (42, (.tmp 43)), (43, (.tmp 44)), (44, (.tmp 45)), (45, (.tmp 46)), (46, (.tmp 47)), (47, (.tmp 48)), (48, (.tmp 49)), (49, (.tmp 50)), (50, (.tmp 51)), (51, (.tmp 52)), (52, (.tmp 53)), (53, (.tmp 54)), (54, (.tmp 55)), (55, (.tmp 56)), (56, (.tmp 57)), (57, (.tmp 58)), (58, (.tmp 59)), (59, (.tmp 60)), (60, (.tmp 61)), (61, (.tmp 62)), (62, (.tmp 63)), (63, (.tmp 64)), (64, (.tmp 65)), (65, (.tmp 66)), (66, (.tmp 67)), (67, (.tmp 68)), (68, (.tmp 69)), (69, (.tmp 70)), (70, (.tmp 71)), (71, (.tmp 72)), (72, (.tmp 73)), (73, (.tmp 74)), (74, (.tmp 75)), (75, (.tmp 76)), (76, (.tmp 77)), (77, (.tmp 78)), (78, (.tmp 79)), (79, (.tmp 80)), (80, (.tmp 81)), (81, (.tmp 82)), (82, (.tmp 83)), (83, (.tmp 84)), (84, (.tmp 85)), (85, (.tmp 86)), (86, (.tmp 87)), (87, (.tmp 88)), (88, (.tmp 89)), (89, (.tmp 90)), (90, (.tmp 91)), (91, (.tmp 92)), (92, (.tmp 93)), (93, (.tmp 94)), (94, (.tmp 95)), (95, (.tmp 96)), (96, (.tmp 97)), (97, (.tmp 98)), (98, (.tmp 99)), (99, (.tmp 100)), (100, (.tmp 101)), (101, (.tmp 102)), (102, (.tmp 103)), (103, (.tmp 104)), (104, (.tmp 105)), (105, (.tmp 106)), (106, (.tmp 107)), (107, (.tmp 108)), (108, (.tmp 109)), (109, (.tmp 110)), (110, (.tmp 111)), (111, (.tmp 112)), (112, (.tmp 113)), (113, (.tmp 114)), (114, (.tmp 115)), (115, (.tmp 116)), (116, (.tmp 117)), (117, (.tmp 118)), (118, (.tmp 119)), (119, (.tmp 120)), (120, (.tmp 121)), (121, (.tmp 122)), (122, (.tmp 123)), (123, (.tmp 124)), (124, (.tmp 125)), (125, (.tmp 126)), (126, (.tmp 127)), (127, (.tmp 128)), (128, (.tmp 129)), (129, (.tmp 130)), (130, (.tmp 131)), (131, (.tmp 132))]) none,
  .mk (some 0) (.assign (.tmp 133)) none]
def c24 : PC := (.seq (.reg false r24_0) (.seq (.reg false r24_1) .ret))
theorem e24 (hl : args.length = 0) (s : pwp Tryz.prog [] c24 (fin Tryz.prog [.tmp 0] h K) (slots0 (olds args)) h) : CanP Tryz.prog 24 args h K :=
  can_of2 (n := 134) mixed Tryz.func24 rfl (by kernel_rfl) (by rw [hl]; kernel_rfl) rfl (by kernel_rfl) s
end Go.Proofs.YtcgaphmndnmfdaaGreat
