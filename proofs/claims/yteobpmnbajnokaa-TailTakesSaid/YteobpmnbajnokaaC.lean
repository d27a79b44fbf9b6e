/-
  The functions that the statements of this seat reach, told in short, and facts on their types. Printed by this project's own program.
  Conditions: none.
-/
import Derived.Test.YteobpmnbajnokaaPmO
import Derived.Test.YteobpmnbajnokaaProg
import Derived.KernelRfl
namespace Go.Proofs.Yteobpmnbajnokaa
open Go.Pm
set_option maxRecDepth 100000
set_option linter.unusedVariables false
theorem mixed : Try.prog.follows .mixedOrders = true := by kernel_rfl
theorem tag3 : tag Try.prog 3 = some false := by kernel_rfl
theorem tsz3 : tsz Try.prog 3 = some 1 := by kernel_rfl
theorem und3 : und Try.prog 3 = true := by kernel_rfl
theorem ik3 : ik Try.prog 3 = some .i64 := by kernel_rfl
theorem kd3 : kd Try.prog 3 = none := by kernel_rfl
theorem esz3 : esz Try.prog 3 = none := by kernel_rfl
theorem zc3 : zc Try.prog 3 = some [.int .i64 0] := by kernel_rfl
theorem ars3 : ars Try.prog 3 = none := by kernel_rfl
theorem tag4 : tag Try.prog 4 = some false := by kernel_rfl
theorem tsz4 : tsz Try.prog 4 = some 1 := by kernel_rfl
theorem und4 : und Try.prog 4 = true := by kernel_rfl
theorem ik4 : ik Try.prog 4 = none := by kernel_rfl
theorem kd4 : kd Try.prog 4 = some 3 := by kernel_rfl
theorem esz4 : esz Try.prog 4 = none := by kernel_rfl
theorem zc4 : zc Try.prog 4 = some [.bool false] := by kernel_rfl
theorem ars4 : ars Try.prog 4 = none := by kernel_rfl
theorem tag22 : tag Try.prog 22 = some false := by kernel_rfl
theorem tsz22 : tsz Try.prog 22 = some 1 := by kernel_rfl
theorem und22 : und Try.prog 22 = true := by kernel_rfl
theorem ik22 : ik Try.prog 22 = none := by kernel_rfl
theorem kd22 : kd Try.prog 22 = some 1 := by kernel_rfl
theorem esz22 : esz Try.prog 22 = some 1 := by kernel_rfl
theorem elt22 : elt Try.prog 22 = some 3 := by kernel_rfl
theorem zc22 : zc Try.prog 22 = some [.nils] := by kernel_rfl
theorem ars22 : ars Try.prog 22 = none := by kernel_rfl
theorem eli22 : eli Try.prog 22 = some (1, 8, [.int .i64 0]) := by kernel_rfl
theorem tag35 : tag Try.prog 35 = some false := by kernel_rfl
theorem tsz35 : tsz Try.prog 35 = some 1 := by kernel_rfl
theorem und35 : und Try.prog 35 = true := by kernel_rfl
theorem ik35 : ik Try.prog 35 = none := by kernel_rfl
theorem kd35 : kd Try.prog 35 = some 1 := by kernel_rfl
theorem esz35 : esz Try.prog 35 = some 5 := by kernel_rfl
theorem elt35 : elt Try.prog 35 = some 40 := by kernel_rfl
theorem zc35 : zc Try.prog 35 = some [.nils] := by kernel_rfl
theorem ars35 : ars Try.prog 35 = none := by kernel_rfl
theorem eli35 : eli Try.prog 35 = some (5, 40, [.int .i64 0, .int .i64 0, .int .i64 0, .int .i64 0, .int .i64 0]) := by kernel_rfl
theorem tag38 : tag Try.prog 38 = some true := by kernel_rfl
theorem tsz38 : tsz Try.prog 38 = some 4 := by kernel_rfl
theorem und38 : und Try.prog 38 = true := by kernel_rfl
theorem ik38 : ik Try.prog 38 = none := by kernel_rfl
theorem kd38 : kd Try.prog 38 = none := by kernel_rfl
theorem esz38 : esz Try.prog 38 = none := by kernel_rfl
theorem zc38 : zc Try.prog 38 = some [.int .i64 0, .int .i64 0, .int .i64 0, .int .i64 0] := by kernel_rfl
theorem ars38 : ars Try.prog 38 = some (4, 1, false) := by kernel_rfl
theorem plc38 : plc Try.prog 38 = some fun i => some (i * 1, 1) := by kernel_rfl
theorem tag40 : tag Try.prog 40 = some true := by kernel_rfl
theorem tsz40 : tsz Try.prog 40 = some 5 := by kernel_rfl
theorem und40 : und Try.prog 40 = true := by kernel_rfl
theorem ik40 : ik Try.prog 40 = none := by kernel_rfl
theorem kd40 : kd Try.prog 40 = none := by kernel_rfl
theorem esz40 : esz Try.prog 40 = none := by kernel_rfl
theorem zc40 : zc Try.prog 40 = some [.int .i64 0, .int .i64 0, .int .i64 0, .int .i64 0, .int .i64 0] := by kernel_rfl
theorem ars40 : ars Try.prog 40 = none := by kernel_rfl
theorem fld40_0 : fld Try.prog 40 0 = some (0, false, 1) := by kernel_rfl
theorem fld40_1 : fld Try.prog 40 1 = some (1, true, 4) := by kernel_rfl
theorem plc40 : plc Try.prog 40 = some fun i => [(0, 1), (1, 4)][i]? := by kernel_rfl
theorem tag41 : tag Try.prog 41 = some false := by kernel_rfl
theorem tsz41 : tsz Try.prog 41 = some 1 := by kernel_rfl
theorem und41 : und Try.prog 41 = true := by kernel_rfl
theorem ik41 : ik Try.prog 41 = none := by kernel_rfl
theorem kd41 : kd Try.prog 41 = none := by kernel_rfl
theorem esz41 : esz Try.prog 41 = none := by kernel_rfl
theorem zc41 : zc Try.prog 41 = some [.nilf] := by kernel_rfl
theorem ars41 : ars Try.prog 41 = none := by kernel_rfl
theorem tag42 : tag Try.prog 42 = some false := by kernel_rfl
theorem tsz42 : tsz Try.prog 42 = some 1 := by kernel_rfl
theorem und42 : und Try.prog 42 = true := by kernel_rfl
theorem ik42 : ik Try.prog 42 = some .u64 := by kernel_rfl
theorem kd42 : kd Try.prog 42 = none := by kernel_rfl
theorem esz42 : esz Try.prog 42 = none := by kernel_rfl
theorem zc42 : zc Try.prog 42 = some [.int .u64 0] := by kernel_rfl
theorem ars42 : ars Try.prog 42 = none := by kernel_rfl
theorem tag44 : tag Try.prog 44 = some true := by kernel_rfl
theorem tsz44 : tsz Try.prog 44 = some 2 := by kernel_rfl
theorem und44 : und Try.prog 44 = true := by kernel_rfl
theorem ik44 : ik Try.prog 44 = none := by kernel_rfl
theorem kd44 : kd Try.prog 44 = some 12 := by kernel_rfl
theorem esz44 : esz Try.prog 44 = none := by kernel_rfl
theorem zc44 : zc Try.prog 44 = some [.int .i64 0, .int .i64 0] := by kernel_rfl
theorem ars44 : ars Try.prog 44 = none := by kernel_rfl
theorem fld44_0 : fld Try.prog 44 0 = some (0, false, 1) := by kernel_rfl
theorem fld44_1 : fld Try.prog 44 1 = some (1, false, 1) := by kernel_rfl
theorem plc44 : plc Try.prog 44 = some fun i => [(0, 1), (1, 1)][i]? := by kernel_rfl
theorem ft : (tag Try.prog 3 = some false) ∧
    (tsz Try.prog 3 = some 1) ∧
    (und Try.prog 3 = true) ∧
    (ik Try.prog 3 = some .i64) ∧
    (kd Try.prog 3 = none) ∧
    (esz Try.prog 3 = none) ∧
    (zc Try.prog 3 = some [.int .i64 0]) ∧
    (ars Try.prog 3 = none) ∧
    (tag Try.prog 4 = some false) ∧
    (tsz Try.prog 4 = some 1) ∧
    (und Try.prog 4 = true) ∧
    (ik Try.prog 4 = none) ∧
    (kd Try.prog 4 = some 3) ∧
    (esz Try.prog 4 = none) ∧
    (zc Try.prog 4 = some [.bool false]) ∧
    (ars Try.prog 4 = none) ∧
    (tag Try.prog 22 = some false) ∧
    (tsz Try.prog 22 = some 1) ∧
    (und Try.prog 22 = true) ∧
    (ik Try.prog 22 = none) ∧
    (kd Try.prog 22 = some 1) ∧
    (esz Try.prog 22 = some 1) ∧
    (elt Try.prog 22 = some 3) ∧
    (zc Try.prog 22 = some [.nils]) ∧
    (ars Try.prog 22 = none) ∧
    (eli Try.prog 22 = some (1, 8, [.int .i64 0])) ∧
    (tag Try.prog 35 = some false) ∧
    (tsz Try.prog 35 = some 1) ∧
    (und Try.prog 35 = true) ∧
    (ik Try.prog 35 = none) ∧
    (kd Try.prog 35 = some 1) ∧
    (esz Try.prog 35 = some 5) ∧
    (elt Try.prog 35 = some 40) ∧
    (zc Try.prog 35 = some [.nils]) ∧
    (ars Try.prog 35 = none) ∧
    (eli Try.prog 35 = some (5, 40, [.int .i64 0, .int .i64 0, .int .i64 0, .int .i64 0, .int .i64 0])) ∧
    (tag Try.prog 38 = some true) ∧
    (tsz Try.prog 38 = some 4) ∧
    (und Try.prog 38 = true) ∧
    (ik Try.prog 38 = none) ∧
    (kd Try.prog 38 = none) ∧
    (esz Try.prog 38 = none) ∧
    (zc Try.prog 38 = some [.int .i64 0, .int .i64 0, .int .i64 0, .int .i64 0]) ∧
    (ars Try.prog 38 = some (4, 1, false)) ∧
    (plc Try.prog 38 = some fun i => some (i * 1, 1)) ∧
    (tag Try.prog 40 = some true) ∧
    (tsz Try.prog 40 = some 5) ∧
    (und Try.prog 40 = true) ∧
    (ik Try.prog 40 = none) ∧
    (kd Try.prog 40 = none) ∧
    (esz Try.prog 40 = none) ∧
    (zc Try.prog 40 = some [.int .i64 0, .int .i64 0, .int .i64 0, .int .i64 0, .int .i64 0]) ∧
    (ars Try.prog 40 = none) ∧
    (fld Try.prog 40 0 = some (0, false, 1)) ∧
    (fld Try.prog 40 1 = some (1, true, 4)) ∧
    (plc Try.prog 40 = some fun i => [(0, 1), (1, 4)][i]?) ∧
    (tag Try.prog 41 = some false) ∧
    (tsz Try.prog 41 = some 1) ∧
    (und Try.prog 41 = true) ∧
    (ik Try.prog 41 = none) ∧
    (kd Try.prog 41 = none) ∧
    (esz Try.prog 41 = none) ∧
    (zc Try.prog 41 = some [.nilf]) ∧
    (ars Try.prog 41 = none) ∧
    (tag Try.prog 42 = some false) ∧
    (tsz Try.prog 42 = some 1) ∧
    (und Try.prog 42 = true) ∧
    (ik Try.prog 42 = some .u64) ∧
    (kd Try.prog 42 = none) ∧
    (esz Try.prog 42 = none) ∧
    (zc Try.prog 42 = some [.int .u64 0]) ∧
    (ars Try.prog 42 = none) ∧
    (tag Try.prog 44 = some true) ∧
    (tsz Try.prog 44 = some 2) ∧
    (und Try.prog 44 = true) ∧
    (ik Try.prog 44 = none) ∧
    (kd Try.prog 44 = some 12) ∧
    (esz Try.prog 44 = none) ∧
    (zc Try.prog 44 = some [.int .i64 0, .int .i64 0]) ∧
    (ars Try.prog 44 = none) ∧
    (fld Try.prog 44 0 = some (0, false, 1)) ∧
    (fld Try.prog 44 1 = some (1, false, 1)) ∧
    (plc Try.prog 44 = some fun i => [(0, 1), (1, 1)][i]?) :=
  ⟨tag3, tsz3, und3, ik3, kd3, esz3, zc3, ars3, tag4, tsz4, und4, ik4, kd4, esz4, zc4, ars4, tag22, tsz22, und22, ik22, kd22, esz22, elt22, zc22, ars22, eli22, tag35, tsz35, und35, ik35, kd35, esz35, elt35, zc35, ars35, eli35, tag38, tsz38, und38, ik38, kd38, esz38, zc38, ars38, plc38, tag40, tsz40, und40, ik40, kd40, esz40, zc40, ars40, fld40_0, fld40_1, plc40, tag41, tsz41, und41, ik41, kd41, esz41, zc41, ars41, tag42, tsz42, und42, ik42, kd42, esz42, zc42, ars42, tag44, tsz44, und44, ik44, kd44, esz44, zc44, ars44, fld44_0, fld44_1, plc44⟩
/-! ### naskh.tail.Seen: function 9 -/
def r9_0 : List PS := [.mk (some 2) (.assign (.const (.bool false))) none]
def r9_1 : List PS := [.mk (some 3) (.move (.tmp 0)) none,
  .mk (some 4) (.binOp .leq 3 (.const (.int .i64 1587)) (.tmp 3) 3) none,
  .mk (some 5) (.move (.tmp 4)) none,
  .mk (some 6) (.move (.tmp 0)) (some (5, true)),
  .mk (some 7) (.binOp .leq 3 (.tmp 6) (.const (.int .i64 1590)) 3) (some (5, true)),
  .mk (some 8) (.pick (.tmp 5) (.tmp 7) (.const (.bool false))) none,
  .mk (some 2) (.assign (.tmp 8)) none]
def c9 : PC := (.seq (.reg false r9_0) (.seq (.reg false r9_1) .ret))
theorem e9 {args : List PV} {h : Heap} {K : PV → Heap → Prop} (hl : args.length = 1) (s : pwp Try.prog [] c9 (fin Try.prog [.tmp 2] h K) (slots0 (olds args)) h) : CanP Try.prog 9 args h K :=
  can_of2 (n := 9) mixed Try.func9 rfl (by kernel_rfl) (by rw [hl]; kernel_rfl) rfl (by kernel_rfl) s
/-! ### naskh.tail.before: function 14 -/
def r14_0 : List PS := [.mk (some 2) (.assign (.const (.int .i64 0))) none,
  .mk (some 3) (.assign (.const (.bool false))) none]
def r14_1 : List PS := [.mk (some 4) (.move (.tmp 0)) none]
def r14_2 : List PS := [.mk (some 6) (.binOp .eql 3 (.tmp 4) (.const (.int .i64 1)) 3) none,
  .mk (some 5) (.assign (.tmp 6)) none]
def r14_3 : List PS := [.mk (some 2) (.assign (.const (.int .i64 3))) none,
  .mk (some 3) (.assign (.const (.bool true))) none]
def r14_4 : List PS := [.mk (some 8) (.binOp .eql 3 (.tmp 4) (.const (.int .i64 2)) 3) none,
  .mk (some 7) (.assign (.tmp 8)) none]
def r14_5 : List PS := [.mk (some 2) (.assign (.const (.int .i64 4))) none,
  .mk (some 3) (.assign (.const (.bool true))) none]
def r14_6 : List PS := [.mk (some 2) (.assign (.const (.int .i64 0))) none,
  .mk (some 3) (.assign (.const (.bool false))) none]
def c14 : PC := (.seq (.reg false r14_0) (.seq (.seq (.reg false r14_1) (.block 0 (.seq (.reg false r14_2) (.cond (.tmp 5) (.seq (.reg false r14_3) .ret) (.seq (.reg false r14_4) (.cond (.tmp 7) (.seq (.reg false r14_5) .ret) .skip)))))) (.seq (.reg false r14_6) .ret)))
theorem e14 {args : List PV} {h : Heap} {K : PV → Heap → Prop} (hl : args.length = 1) (s : pwp Try.prog [] c14 (fin Try.prog [.tmp 2, .tmp 3] h K) (slots0 (olds args)) h) : CanP Try.prog 14 args h K :=
  can_of2 (n := 9) mixed Try.func14 rfl (by kernel_rfl) (by rw [hl]; kernel_rfl) rfl (by kernel_rfl) s
/-! ### naskh.api.Letters: function 19 -/
def r19_0 : List PS := [.mk (some 0) (.assign (.const (.slice none 0 0))) none]
def r19_1 : List PS := [.mk (some 1) (.build 38 #[(0, (.const (.int .i64 65152))), (1, (.const (.int .i64 0))), (2, (.const (.int .i64 0))), (3, (.const (.int .i64 0)))]) none,
  .mk (some 2) (.build 40 #[(0, (.const (.int .i64 1569))), (1, (.tmp 1))]) none,
  .mk (some 3) (.build 38 #[(0, (.const (.int .i64 65153))), (1, (.const (.int .i64 65154))), (2, (.const (.int .i64 0))), (3, (.const (.int .i64 0)))]) none,
  .mk (some 4) (.build 40 #[(0, (.const (.int .i64 1570))), (1, (.tmp 3))]) none,
  .mk (some 5) (.build 38 #[(0, (.const (.int .i64 65155))), (1, (.const (.int .i64 65156))), (2, (.const (.int .i64 0))), (3, (.const (.int .i64 0)))]) none,
  .mk (some 6) (.build 40 #[(0, (.const (.int .i64 1571))), (1, (.tmp 5))]) none,
  .mk (some 7) (.build 38 #[(0, (.const (.int .i64 65157))), (1, (.const (.int .i64 65158))), (2, (.const (.int .i64 0))), (3, (.const (.int .i64 0)))]) none,
  .mk (some 8) (.build 40 #[(0, (.const (.int .i64 1572))), (1, (.tmp 7))]) none,
  .mk (some 9) (.build 38 #[(0, (.const (.int .i64 65159))), (1, (.const (.int .i64 65160))), (2, (.const (.int .i64 0))), (3, (.const (.int .i64 0)))]) none,
  .mk (some 10) (.build 40 #[(0, (.const (.int .i64 1573))), (1, (.tmp 9))]) none,
  .mk (some 11) (.build 38 #[(0, (.const (.int .i64 65161))), (1, (.const (.int .i64 65162))), (2, (.const (.int .i64 65163))), (3, (.const (.int .i64 65164)))]) none,
  .mk (some 12) (.build 40 #[(0, (.const (.int .i64 1574))), (1, (.tmp 11))]) none,
  .mk (some 13) (.build 38 #[(0, (.const (.int .i64 65165))), (1, (.const (.int .i64 65166))), (2, (.const (.int .i64 0))), (3, (.const (.int .i64 0)))]) none,
  .mk (some 14) (.build 40 #[(0, (.const (.int .i64 1575))), (1, (.tmp 13))]) none,
  .mk (some 15) (.build 38 #[(0, (.const (.int .i64 65167))), (1, (.const (.int .i64 65168))), (2, (.const (.int .i64 65169))), (3, (.const (.int .i64 65170)))]) none,
  .mk (some 16) (.build 40 #[(0, (.const (.int .i64 1576))), (1, (.tmp 15))]) none,
  .mk (some 17) (.build 38 #[(0, (.const (.int .i64 65171))), (1, (.const (.int .i64 65172))), (2, (.const (.int .i64 0))), (3, (.const (.int .i64 0)))]) none,
  .mk (some 18) (.build 40 #[(0, (.const (.int .i64 1577))), (1, (.tmp 17))]) none,
  .mk (some 19) (.build 38 #[(0, (.const (.int .i64 65173))), (1, (.const (.int .i64 65174))), (2, (.const (.int .i64 65175))), (3, (.const (.int .i64 65176)))]) none,
  .mk (some 20) (.build 40 #[(0, (.const (.int .i64 1578))), (1, (.tmp 19))]) none,
  .mk (some 21) (.build 38 #[(0, (.const (.int .i64 65177))), (1, (.const (.int .i64 65178))), (2, (.const (.int .i64 65179))), (3, (.const (.int .i64 65180)))]) none,
  .mk (some 22) (.build 40 #[(0, (.const (.int .i64 1579))), (1, (.tmp 21))]) none,
  .mk (some 23) (.build 38 #[(0, (.const (.int .i64 65181))), (1, (.const (.int .i64 65182))), (2, (.const (.int .i64 65183))), (3, (.const (.int .i64 65184)))]) none,
  .mk (some 24) (.build 40 #[(0, (.const (.int .i64 1580))), (1, (.tmp 23))]) none,
  .mk (some 25) (.build 38 #[(0, (.const (.int .i64 65185))), (1, (.const (.int .i64 65186))), (2, (.const (.int .i64 65187))), (3, (.const (.int .i64 65188)))]) none,
  .mk (some 26) (.build 40 #[(0, (.const (.int .i64 1581))), (1, (.tmp 25))]) none,
  .mk (some 27) (.build 38 #[(0, (.const (.int .i64 65189))), (1, (.const (.int .i64 65190))), (2, (.const (.int .i64 65191))), (3, (.const (.int .i64 65192)))]) none,
  .mk (some 28) (.build 40 #[(0, (.const (.int .i64 1582))), (1, (.tmp 27))]) none,
  .mk (some 29) (.build 38 #[(0, (.const (.int .i64 65193))), (1, (.const (.int .i64 65194))), (2, (.const (.int .i64 0))), (3, (.const (.int .i64 0)))]) none,
  .mk (some 30) (.build 40 #[(0, (.const (.int .i64 1583))), (1, (.tmp 29))]) none,
  .mk (some 31) (.build 38 #[(0, (.const (.int .i64 65195))), (1, (.const (.int .i64 65196))), (2, (.const (.int .i64 0))), (3, (.const (.int .i64 0)))]) none,
  .mk (some 32) (.build 40 #[(0, (.const (.int .i64 1584))), (1, (.tmp 31))]) none,
  .mk (some 33) (.build 38 #[(0, (.const (.int .i64 65197))), (1, (.const (.int .i64 65198))), (2, (.const (.int .i64 0))), (3, (.const (.int .i64 0)))]) none,
  .mk (some 34) (.build 40 #[(0, (.const (.int .i64 1585))), (1, (.tmp 33))]) none,
  .mk (some 35) (.build 38 #[(0, (.const (.int .i64 65199))), (1, (.const (.int .i64 65200))), (2, (.const (.int .i64 0))), (3, (.const (.int .i64 0)))]) none,
  .mk (some 36) (.build 40 #[(0, (.const (.int .i64 1586))), (1, (.tmp 35))]) none,
  .mk (some 37) (.build 38 #[(0, (.const (.int .i64 65201))), (1, (.const (.int .i64 65202))), (2, (.const (.int .i64 65203))), (3, (.const (.int .i64 65204)))]) none,
  .mk (some 38) (.build 40 #[(0, (.const (.int .i64 1587))), (1, (.tmp 37))]) none,
  .mk (some 39) (.build 38 #[(0, (.const (.int .i64 65205))), (1, (.const (.int .i64 65206))), (2, (.const (.int .i64 65207))), (3, (.const (.int .i64 65208)))]) none,
  .mk (some 40) (.build 40 #[(0, (.const (.int .i64 1588))), (1, (.tmp 39))]) none,
  .mk (some 41) (.build 38 #[(0, (.const (.int .i64 65209))), (1, (.const (.int .i64 65210))), (2, (.const (.int .i64 65211))), (3, (.const (.int .i64 65212)))]) none,
  .mk (some 42) (.build 40 #[(0, (.const (.int .i64 1589))), (1, (.tmp 41))]) none,
  .mk (some 43) (.build 38 #[(0, (.const (.int .i64 65213))), (1, (.const (.int .i64 65214))), (2, (.const (.int .i64 65215))), (3, (.const (.int .i64 65216)))]) none,
  .mk (some 44) (.build 40 #[(0, (.const (.int .i64 1590))), (1, (.tmp 43))]) none,
  .mk (some 45) (.build 38 #[(0, (.const (.int .i64 65217))), (1, (.const (.int .i64 65218))), (2, (.const (.int .i64 65219))), (3, (.const (.int .i64 65220)))]) none,
  .mk (some 46) (.build 40 #[(0, (.const (.int .i64 1591))), (1, (.tmp 45))]) none,
  .mk (some 47) (.build 38 #[(0, (.const (.int .i64 65221))), (1, (.const (.int .i64 65222))), (2, (.const (.int .i64 65223))), (3, (.const (.int .i64 65224)))]) none,
  .mk (some 48) (.build 40 #[(0, (.const (.int .i64 1592))), (1, (.tmp 47))]) none,
  .mk (some 49) (.build 38 #[(0, (.const (.int .i64 65225))), (1, (.const (.int .i64 65226))), (2, (.const (.int .i64 65227))), (3, (.const (.int .i64 65228)))]) none,
  .mk (some 50) (.build 40 #[(0, (.const (.int .i64 1593))), (1, (.tmp 49))]) none,
  .mk (some 51) (.build 38 #[(0, (.const (.int .i64 65229))), (1, (.const (.int .i64 65230))), (2, (.const (.int .i64 65231))), (3, (.const (.int .i64 65232)))]) none,
  .mk (some 52) (.build 40 #[(0, (.const (.int .i64 1594))), (1, (.tmp 51))]) none,
  .mk (some 53) (.build 38 #[(0, (.const (.int .i64 65233))), (1, (.const (.int .i64 65234))), (2, (.const (.int .i64 65235))), (3, (.const (.int .i64 65236)))]) none,
  .mk (some 54) (.build 40 #[(0, (.const (.int .i64 1601))), (1, (.tmp 53))]) none,
  .mk (some 55) (.build 38 #[(0, (.const (.int .i64 65237))), (1, (.const (.int .i64 65238))), (2, (.const (.int .i64 65239))), (3, (.const (.int .i64 65240)))]) none,
  .mk (some 56) (.build 40 #[(0, (.const (.int .i64 1602))), (1, (.tmp 55))]) none,
  .mk (some 57) (.build 38 #[(0, (.const (.int .i64 65241))), (1, (.const (.int .i64 65242))), (2, (.const (.int .i64 65243))), (3, (.const (.int .i64 65244)))]) none,
  .mk (some 58) (.build 40 #[(0, (.const (.int .i64 1603))), (1, (.tmp 57))]) none,
  .mk (some 59) (.build 38 #[(0, (.const (.int .i64 65245))), (1, (.const (.int .i64 65246))), (2, (.const (.int .i64 65247))), (3, (.const (.int .i64 65248)))]) none,
  .mk (some 60) (.build 40 #[(0, (.const (.int .i64 1604))), (1, (.tmp 59))]) none,
  .mk (some 61) (.build 38 #[(0, (.const (.int .i64 65249))), (1, (.const (.int .i64 65250))), (2, (.const (.int .i64 65251))), (3, (.const (.int .i64 65252)))]) none,
  .mk (some 62) (.build 40 #[(0, (.const (.int .i64 1605))), (1, (.tmp 61))]) none,
  .mk (some 63) (.build 38 #[(0, (.const (.int .i64 65253))), (1, (.const (.int .i64 65254))), (2, (.const (.int .i64 65255))), (3, (.const (.int .i64 65256)))]) none,
  .mk (some 64) (.build 40 #[(0, (.const (.int .i64 1606))), (1, (.tmp 63))]) none,
  .mk (some 65) (.build 38 #[(0, (.const (.int .i64 65257))), (1, (.const (.int .i64 65258))), (2, (.const (.int .i64 65259))), (3, (.const (.int .i64 65260)))]) none,
  .mk (some 66) (.build 40 #[(0, (.const (.int .i64 1607))), (1, (.tmp 65))]) none,
  .mk (some 67) (.build 38 #[(0, (.const (.int .i64 65261))), (1, (.const (.int .i64 65262))), (2, (.const (.int .i64 0))), (3, (.const (.int .i64 0)))]) none,
  .mk (some 68) (.build 40 #[(0, (.const (.int .i64 1608))), (1, (.tmp 67))]) none,
  .mk (some 69) (.build 38 #[(0, (.const (.int .i64 65263))), (1, (.const (.int .i64 65264))), (2, (.const (.int .i64 64488))), (3, (.const (.int .i64 64489)))]) none,
  .mk (some 70) (.build 40 #[(0, (.const (.int .i64 1609))), (1, (.tmp 69))]) none,
  .mk (some 71) (.build 38 #[(0, (.const (.int .i64 65265))), (1, (.const (.int .i64 65266))), (2, (.const (.int .i64 65267))), (3, (.const (.int .i64 65268)))]) none,
  .mk (some 72) (.build 40 #[(0, (.const (.int .i64 1610))), (1, (.tmp 71))]) none,
  .mk (some 73) (.build 38 #[(0, (.const (.int .i64 64336))), (1, (.const (.int .i64 64337))), (2, (.const (.int .i64 0))), (3, (.const (.int .i64 0)))]) none,
  .mk (some 74) (.build 40 #[(0, (.const (.int .i64 1649))), (1, (.tmp 73))]) none,
  .mk (some 75) (.build 38 #[(0, (.const (.int .i64 64477))), (1, (.const (.int .i64 0))), (2, (.const (.int .i64 0))), (3, (.const (.int .i64 0)))]) none,
  .mk (some 76) (.build 40 #[(0, (.const (.int .i64 1655))), (1, (.tmp 75))]) none,
  .mk (some 77) (.build 38 #[(0, (.const (.int .i64 64358))), (1, (.const (.int .i64 64359))), (2, (.const (.int .i64 64360))), (3, (.const (.int .i64 64361)))]) none,
  .mk (some 78) (.build 40 #[(0, (.const (.int .i64 1657))), (1, (.tmp 77))]) none,
  .mk (some 79) (.build 38 #[(0, (.const (.int .i64 64350))), (1, (.const (.int .i64 64351))), (2, (.const (.int .i64 64352))), (3, (.const (.int .i64 64353)))]) none,
  .mk (some 80) (.build 40 #[(0, (.const (.int .i64 1658))), (1, (.tmp 79))]) none,
  .mk (some 81) (.build 38 #[(0, (.const (.int .i64 64338))), (1, (.const (.int .i64 64339))), (2, (.const (.int .i64 64340))), (3, (.const (.int .i64 64341)))]) none,
  .mk (some 82) (.build 40 #[(0, (.const (.int .i64 1659))), (1, (.tmp 81))]) none,
  .mk (some 83) (.build 38 #[(0, (.const (.int .i64 64342))), (1, (.const (.int .i64 64343))), (2, (.const (.int .i64 64344))), (3, (.const (.int .i64 64345)))]) none,
  .mk (some 84) (.build 40 #[(0, (.const (.int .i64 1662))), (1, (.tmp 83))]) none,
  .mk (some 85) (.build 38 #[(0, (.const (.int .i64 64354))), (1, (.const (.int .i64 64355))), (2, (.const (.int .i64 64356))), (3, (.const (.int .i64 64357)))]) none,
  .mk (some 86) (.build 40 #[(0, (.const (.int .i64 1663))), (1, (.tmp 85))]) none,
  .mk (some 87) (.build 38 #[(0, (.const (.int .i64 64346))), (1, (.const (.int .i64 64347))), (2, (.const (.int .i64 64348))), (3, (.const (.int .i64 64349)))]) none,
  .mk (some 88) (.build 40 #[(0, (.const (.int .i64 1664))), (1, (.tmp 87))]) none,
  .mk (some 89) (.build 38 #[(0, (.const (.int .i64 64374))), (1, (.const (.int .i64 64375))), (2, (.const (.int .i64 64376))), (3, (.const (.int .i64 64377)))]) none,
  .mk (some 90) (.build 40 #[(0, (.const (.int .i64 1667))), (1, (.tmp 89))]) none,
  .mk (some 91) (.build 38 #[(0, (.const (.int .i64 64370))), (1, (.const (.int .i64 64371))), (2, (.const (.int .i64 64372))), (3, (.const (.int .i64 64373)))]) none,
  .mk (some 92) (.build 40 #[(0, (.const (.int .i64 1668))), (1, (.tmp 91))]) none,
  .mk (some 93) (.build 38 #[(0, (.const (.int .i64 64378))), (1, (.const (.int .i64 64379))), (2, (.const (.int .i64 64380))), (3, (.const (.int .i64 64381)))]) none,
  .mk (some 94) (.build 40 #[(0, (.const (.int .i64 1670))), (1, (.tmp 93))]) none,
  .mk (some 95) (.build 38 #[(0, (.const (.int .i64 64382))), (1, (.const (.int .i64 64383))), (2, (.const (.int .i64 64384))), (3, (.const (.int .i64 64385)))]) none,
  .mk (some 96) (.build 40 #[(0, (.const (.int .i64 1671))), (1, (.tmp 95))]) none,
  .mk (some 97) (.build 38 #[(0, (.const (.int .i64 64392))), (1, (.const (.int .i64 64393))), (2, (.const (.int .i64 0))), (3, (.const (.int .i64 0)))]) none,
  .mk (some 98) (.build 40 #[(0, (.const (.int .i64 1672))), (1, (.tmp 97))]) none,
  .mk (some 99) (.build 38 #[(0, (.const (.int .i64 64388))), (1, (.const (.int .i64 64389))), (2, (.const (.int .i64 0))), (3, (.const (.int .i64 0)))]) none,
  .mk (some 100) (.build 40 #[(0, (.const (.int .i64 1676))), (1, (.tmp 99))]) none,
  .mk (some 101) (.build 38 #[(0, (.const (.int .i64 64386))), (1, (.const (.int .i64 64387))), (2, (.const (.int .i64 0))), (3, (.const (.int .i64 0)))]) none,
  .mk (some 102) (.build 40 #[(0, (.const (.int .i64 1677))), (1, (.tmp 101))]) none,
  .mk (some 103) (.build 38 #[(0, (.const (.int .i64 64390))), (1, (.const (.int .i64 64391))), (2, (.const (.int .i64 0))), (3, (.const (.int .i64 0)))]) none,
  .mk (some 104) (.build 40 #[(0, (.const (.int .i64 1678))), (1, (.tmp 103))]) none,
  .mk (some 105) (.build 38 #[(0, (.const (.int .i64 64396))), (1, (.const (.int .i64 64397))), (2, (.const (.int .i64 0))), (3, (.const (.int .i64 0)))]) none,
  .mk (some 106) (.build 40 #[(0, (.const (.int .i64 1681))), (1, (.tmp 105))]) none,
  .mk (some 107) (.build 38 #[(0, (.const (.int .i64 64394))), (1, (.const (.int .i64 64395))), (2, (.const (.int .i64 0))), (3, (.const (.int .i64 0)))]) none,
  .mk (some 108) (.build 40 #[(0, (.const (.int .i64 1688))), (1, (.tmp 107))]) none,
  .mk (some 109) (.build 38 #[(0, (.const (.int .i64 64362))), (1, (.const (.int .i64 64363))), (2, (.const (.int .i64 64364))), (3, (.const (.int .i64 64365)))]) none,
  .mk (some 110) (.build 40 #[(0, (.const (.int .i64 1700))), (1, (.tmp 109))]) none,
  .mk (some 111) (.build 38 #[(0, (.const (.int .i64 64366))), (1, (.const (.int .i64 64367))), (2, (.const (.int .i64 64368))), (3, (.const (.int .i64 64369)))]) none,
  .mk (some 112) (.build 40 #[(0, (.const (.int .i64 1702))), (1, (.tmp 111))]) none,
  .mk (some 113) (.build 38 #[(0, (.const (.int .i64 64398))), (1, (.const (.int .i64 64399))), (2, (.const (.int .i64 64400))), (3, (.const (.int .i64 64401)))]) none,
  .mk (some 114) (.build 40 #[(0, (.const (.int .i64 1705))), (1, (.tmp 113))]) none,
  .mk (some 115) (.build 38 #[(0, (.const (.int .i64 64467))), (1, (.const (.int .i64 64468))), (2, (.const (.int .i64 64469))), (3, (.const (.int .i64 64470)))]) none,
  .mk (some 116) (.build 40 #[(0, (.const (.int .i64 1709))), (1, (.tmp 115))]) none,
  .mk (some 117) (.build 38 #[(0, (.const (.int .i64 64402))), (1, (.const (.int .i64 64403))), (2, (.const (.int .i64 64404))), (3, (.const (.int .i64 64405)))]) none,
  .mk (some 118) (.build 40 #[(0, (.const (.int .i64 1711))), (1, (.tmp 117))]) none,
  .mk (some 119) (.build 38 #[(0, (.const (.int .i64 64410))), (1, (.const (.int .i64 64411))), (2, (.const (.int .i64 64412))), (3, (.const (.int .i64 64413)))]) none,
  .mk (some 120) (.build 40 #[(0, (.const (.int .i64 1713))), (1, (.tmp 119))]) none,
  .mk (some 121) (.build 38 #[(0, (.const (.int .i64 64406))), (1, (.const (.int .i64 64407))), (2, (.const (.int .i64 64408))), (3, (.const (.int .i64 64409)))]) none,
  .mk (some 122) (.build 40 #[(0, (.const (.int .i64 1715))), (1, (.tmp 121))]) none,
  .mk (some 123) (.build 38 #[(0, (.const (.int .i64 64414))), (1, (.const (.int .i64 64415))), (2, (.const (.int .i64 0))), (3, (.const (.int .i64 0)))]) none,
  .mk (some 124) (.build 40 #[(0, (.const (.int .i64 1722))), (1, (.tmp 123))]) none,
  .mk (some 125) (.build 38 #[(0, (.const (.int .i64 64416))), (1, (.const (.int .i64 64417))), (2, (.const (.int .i64 64418))), (3, (.const (.int .i64 64419)))]) none,
  .mk (some 126) (.build 40 #[(0, (.const (.int .i64 1723))), (1, (.tmp 125))]) none,
  .mk (some 127) (.build 38 #[(0, (.const (.int .i64 64426))), (1, (.const (.int .i64 64427))), (2, (.const (.int .i64 64428))), (3, (.const (.int .i64 64429)))]) none,
  .mk (some 128) (.build 40 #[(0, (.const (.int .i64 1726))), (1, (.tmp 127))]) none,
  .mk (some 129) (.build 38 #[(0, (.const (.int .i64 64420))), (1, (.const (.int .i64 64421))), (2, (.const (.int .i64 0))), (3, (.const (.int .i64 0)))]) none,
  .mk (some 130) (.build 40 #[(0, (.const (.int .i64 1728))), (1, (.tmp 129))]) none,
  .mk (some 131) (.build 38 #[(0, (.const (.int .i64 64422))), (1, (.const (.int .i64 64423))), (2, (.const (.int .i64 64424))), (3, (.const (.int .i64 64425)))]) none,
  .mk (some 132) (.build 40 #[(0, (.const (.int .i64 1729))), (1, (.tmp 131))]) none,
  .mk (some 133) (.build 38 #[(0, (.const (.int .i64 64480))), (1, (.const (.int .i64 64481))), (2, (.const (.int .i64 0))), (3, (.const (.int .i64 0)))]) none,
  .mk (some 134) (.build 40 #[(0, (.const (.int .i64 1733))), (1, (.tmp 133))]) none,
  .mk (some 135) (.build 38 #[(0, (.const (.int .i64 64473))), (1, (.const (.int .i64 64474))), (2, (.const (.int .i64 0))), (3, (.const (.int .i64 0)))]) none,
  .mk (some 136) (.build 40 #[(0, (.const (.int .i64 1734))), (1, (.tmp 135))]) none,
  .mk (some 137) (.build 38 #[(0, (.const (.int .i64 64471))), (1, (.const (.int .i64 64472))), (2, (.const (.int .i64 0))), (3, (.const (.int .i64 0)))]) none,
  .mk (some 138) (.build 40 #[(0, (.const (.int .i64 1735))), (1, (.tmp 137))]) none,
  .mk (some 139) (.build 38 #[(0, (.const (.int .i64 64475))), (1, (.const (.int .i64 64476))), (2, (.const (.int .i64 0))), (3, (.const (.int .i64 0)))]) none,
  .mk (some 140) (.build 40 #[(0, (.const (.int .i64 1736))), (1, (.tmp 139))]) none,
  .mk (some 141) (.build 38 #[(0, (.const (.int .i64 64482))), (1, (.const (.int .i64 64483))), (2, (.const (.int .i64 0))), (3, (.const (.int .i64 0)))]) none,
  .mk (some 142) (.build 40 #[(0, (.const (.int .i64 1737))), (1, (.tmp 141))]) none,
  .mk (some 143) (.build 38 #[(0, (.const (.int .i64 64478))), (1, (.const (.int .i64 64479))), (2, (.const (.int .i64 0))), (3, (.const (.int .i64 0)))]) none,
  .mk (some 144) (.build 40 #[(0, (.const (.int .i64 1739))), (1, (.tmp 143))]) none,
  .mk (some 145) (.build 38 #[(0, (.const (.int .i64 64508))), (1, (.const (.int .i64 64509))), (2, (.const (.int .i64 64510))), (3, (.const (.int .i64 64511)))]) none,
  .mk (some 146) (.build 40 #[(0, (.const (.int .i64 1740))), (1, (.tmp 145))]) none,
  .mk (some 147) (.build 38 #[(0, (.const (.int .i64 64484))), (1, (.const (.int .i64 64485))), (2, (.const (.int .i64 64486))), (3, (.const (.int .i64 64487)))]) none,
  .mk (some 148) (.build 40 #[(0, (.const (.int .i64 1744))), (1, (.tmp 147))]) none,
  .mk (some 149) (.build 38 #[(0, (.const (.int .i64 64430))), (1, (.const (.int .i64 64431))), (2, (.const (.int .i64 0))), (3, (.const (.int .i64 0)))]) none,
  .mk (some 150) (.build 40 #[(0, (.const (.int .i64 1746))), (1, (.tmp 149))]) none,
  .mk (some 151) (.build 38 #[(0, (.const (.int .i64 64432))), (1, (.const (.int .i64 64433))), (2, (.const (.int .i64 0))), (3, (.const (.int .i64 0)))]) none,
  .mk (some 152) (.build 40 #[(0, (.const (.int .i64 1747))), (1, (.tmp 151))]) none,
  .mk (some 153) (.buildSlice 35 76 #[(0, (.tmp 2)), (1, (.tmp 4)), (2, (.tmp 6)), (3, (.tmp 8)), (4, (.tmp 10)), (5, (.tmp 12)), (6, (.tmp 14)), (7, (.tmp 16)), (8, (.tmp 18)), (9, (.tmp 20)), (10, (.tmp 22)), (11, (.tmp 24)), (12, (.tmp 26)), (13, (.tmp 28)), (14, (.tmp 30)), (15, (.tmp 32)), (16, (.tmp 34)), (17, (.tmp 36)), (18, (.tmp 38)), (19, (.tmp 40)), (20, (.tmp 42)), (21, (.tmp 44)), (22, (.tmp 46)), (23, (.tmp 48)), (24, (.tmp 50)), (25, (.tmp 52)), (26, (.tmp 54)), (27, (.tmp 56)), (28, (.tmp 58)), (29, (.tmp 60)), (30, (.tmp 62)), (31, (.tmp 64)), (32, (.tmp 66)), (33, (.tmp 68)), (34, (.tmp 70)), (35, (.tmp 72)), (36, (.tmp 74)), (37, (.tmp 76)), (38, (.tmp 78)), (39, (.tmp 80)), (40, (.tmp 82)), (41, (.tmp 84)), (42, (.tmp 86)), (43, (.tmp 88)), (44, (.tmp 90)), (45, (.tmp 92)), (46, (.tmp 94)), (47, (.tmp 96)), (48, (.tmp 98)), (49, (.tmp 100)), (50, (.tmp 102)), (51, (.tmp 104)), (52, (.tmp 106)), (53, (.tmp 108)), (54, (.tmp 110)), (55, (.tmp 112)), (56, (.tmp 114)), (57, (.tmp 116)), (58, (.tmp 118)), (59, (.tmp 120)), (60, (.tmp 122)), (61, (.tmp 124)), (62, (.tmp 126)), (63, (.tmp 128)), (64, (.tmp 130)), (65, (.tmp 132)), (66, (.tmp 134)), (67, (.tmp 136)), (68, (.tmp 138)), (69, (.tmp 140)), (70, (.tmp 142)), (71, (.tmp 144)), (72, (.tmp 146)), (73, (.tmp 148)), (74, (.tmp 150)), (75, (.tmp 152))]) none,
  .mk (some 0) (.assign (.tmp 153)) none]
def c19 : PC := (.seq (.reg false r19_0) (.seq (.reg false r19_1) .ret))
theorem e19 {args : List PV} {h : Heap} {K : PV → Heap → Prop} (hl : args.length = 0) (s : pwp Try.prog [] c19 (fin Try.prog [.tmp 0] h K) (slots0 (olds args)) h) : CanP Try.prog 19 args h K :=
  can_of2 (n := 154) mixed Try.func19 rfl (by kernel_rfl) (by rw [hl]; kernel_rfl) rfl (by kernel_rfl) s
/-! ### slices.BinarySearchFunc[[]naskh.api.Letter,naskh.api.Letter,int]: function 20 -/
def r20_0 : List PS := [.mk (some 6) (.assign (.const (.int .i64 0))) none,
  .mk (some 7) (.assign (.const (.bool false))) none]
def r20_1 : List PS := [.mk (some 12) (.move (.tmp 0)) none,
  .mk (some 13) (.call ⟨(.builtin .len), #[(.tmp 12)], #[35]⟩) none,
  .mk (some 8) (.assign (.tmp 13)) none]
def r20_2 : List PS := [.mk (some 14) (.move (.tmp 8)) none,
  .mk (some 9) (.assign (.const (.int .i64 0))) none,
  .mk (some 10) (.assign (.tmp 14)) none]
def r20_3 : List PS := [.mk (some 15) (.move (.tmp 9)) none,
  .mk (some 16) (.move (.tmp 10)) none,
  .mk (some 17) (.binOp .lss 3 (.tmp 15) (.tmp 16) 3) none]
def r20_4 : List PS := [.mk (some 18) (.move (.tmp 9)) none,
  .mk (some 19) (.move (.tmp 10)) none,
  .mk (some 20) (.binOp .add 3 (.tmp 18) (.tmp 19) 3) none,
  .mk (some 21) (.convert 3 42 (.tmp 20)) none,
  .mk (some 22) (.binOp .shr 42 (.tmp 21) (.const (.int .u64 1)) 42) none,
  .mk (some 23) (.convert 42 3 (.tmp 22)) none,
  .mk (some 11) (.assign (.tmp 23)) none]
def r20_5 : List PS := [.mk (some 24) (.move (.tmp 2)) none,
  .mk (some 25) (.move (.tmp 0)) none,
  .mk (some 26) (.move (.tmp 11)) none,
  .mk (some 27) (.indexAddr 35 (.tmp 25) (.tmp 26)) none,
  .mk (some 28) (.load 40 (.tmp 27)) none,
  .mk (some 29) (.move (.tmp 1)) none,
  .mk (some 30) (.call ⟨(.value (.tmp 24)), #[(.tmp 28), (.tmp 29)], #[40, 3]⟩) none,
  .mk (some 31) (.binOp .lss 3 (.tmp 30) (.const (.int .i64 0)) 3) none]
def r20_6 : List PS := [.mk (some 32) (.move (.tmp 11)) none,
  .mk (some 33) (.binOp .add 3 (.tmp 32) (.const (.int .i64 1)) 3) none,
  .mk (some 9) (.assign (.tmp 33)) none]
def r20_7 : List PS := [.mk (some 34) (.move (.tmp 11)) none,
  .mk (some 10) (.assign (.tmp 34)) none]
def r20_8 : List PS := [.mk (some 35) (.move (.tmp 9)) none,
  .mk (some 36) (.move (.tmp 9)) none,
  .mk (some 37) (.move (.tmp 8)) none,
  .mk (some 38) (.binOp .lss 3 (.tmp 36) (.tmp 37) 3) none,
  .mk (some 39) (.move (.tmp 38)) none,
  .mk (some 40) (.move (.tmp 2)) (some (39, true)),
  .mk (some 41) (.move (.tmp 0)) (some (39, true)),
  .mk (some 42) (.move (.tmp 9)) (some (39, true)),
  .mk (some 43) (.indexAddr 35 (.tmp 41) (.tmp 42)) (some (39, true)),
  .mk (some 44) (.load 40 (.tmp 43)) (some (39, true)),
  .mk (some 45) (.move (.tmp 1)) (some (39, true)),
  .mk (some 46) (.call ⟨(.value (.tmp 40)), #[(.tmp 44), (.tmp 45)], #[40, 3]⟩) (some (39, true)),
  .mk (some 47) (.binOp .eql 3 (.tmp 46) (.const (.int .i64 0)) 3) (some (39, true)),
  .mk (some 48) (.pick (.tmp 39) (.tmp 47) (.const (.bool false))) none,
  .mk (some 6) (.assign (.tmp 35)) none,
  .mk (some 7) (.assign (.tmp 48)) none]
def c20 : PC := (.seq (.reg false r20_0) (.seq (.reg false r20_1) (.seq (.reg false r20_2) (.seq (.block 0 (.loop (.seq (.seq (.reg false r20_3) (.cond (.tmp 17) .skip (.exit 0))) (.block 1 (.seq (.reg false r20_4) (.seq (.reg false r20_5) (.cond (.tmp 31) (.reg false r20_6) (.reg false r20_7)))))))) (.seq (.reg false r20_8) .ret)))))
theorem e20 {args : List PV} {h : Heap} {K : PV → Heap → Prop} (hl : args.length = 3) (s : pwp Try.prog [] c20 (fin Try.prog [.tmp 6, .tmp 7] h K) (slots0 (olds args)) h) : CanP Try.prog 20 args h K :=
  can_of2 (n := 49) mixed Try.func20 rfl (by kernel_rfl) (by rw [hl]; kernel_rfl) rfl (by kernel_rfl) s
/-! ### naskh.forms.Form$1: function 21 -/
def r21_0 : List PS := [.mk (some 2) (.box 40 (.tmp 0)) none,
  .mk (some 4) (.assign (.const (.int .i64 0))) none]
def r21_1 : List PS := [.mk (some 5) (.fieldAddr 40 (.tmp 2) 0) none,
  .mk (some 6) (.load 3 (.tmp 5)) none,
  .mk (some 7) (.move (.tmp 1)) none,
  .mk (some 8) (.call ⟨(.builtin .max), #[(.tmp 7), (.const (.int .i64 0))], #[3, 3]⟩) none,
  .mk (some 9) (.binOp .sub 3 (.tmp 6) (.tmp 8) 3) none,
  .mk (some 4) (.assign (.tmp 9)) none]
def c21 : PC := (.seq (.reg false r21_0) (.seq (.reg false r21_1) .ret))
theorem e21 {args : List PV} {h : Heap} {K : PV → Heap → Prop} (hl : args.length = 2) (s : pwp Try.prog [] c21 (fin Try.prog [.tmp 4] h K) (slots0 (olds args)) h) : CanP Try.prog 21 args h K :=
  can_of2 (n := 10) mixed Try.func21 rfl (by kernel_rfl) (by rw [hl]; kernel_rfl) rfl (by kernel_rfl) s
/-! ### naskh.forms.Form: function 15 -/
def r15_0 : List PS := [.mk (some 4) (.assign (.const (.int .i64 0))) none,
  .mk (some 5) (.assign (.const (.bool false))) none]
def r15_1 : List PS := [.mk (some 10) (.move (.tmp 1)) none,
  .mk (some 11) (.binOp .lss 3 (.tmp 10) (.const (.int .i64 1)) 3) none,
  .mk (some 12) (.move (.tmp 11)) none,
  .mk (some 13) (.move (.tmp 1)) (some (12, false)),
  .mk (some 14) (.binOp .gtr 3 (.tmp 13) (.const (.int .i64 4)) 3) (some (12, false)),
  .mk (some 15) (.pick (.tmp 12) (.const (.bool true)) (.tmp 14)) none]
def r15_2 : List PS := [.mk (some 4) (.assign (.const (.int .i64 0))) none,
  .mk (some 5) (.assign (.const (.bool false))) none]
def r15_3 : List PS := [.mk (some 16) (.call ⟨(.value (.func 19)), #[], #[]⟩) none,
  .mk (some 6) (.assign (.tmp 16)) none]
def r15_4 : List PS := [.mk (some 18) (.move (.tmp 6)) none,
  .mk (some 19) (.move (.tmp 0)) none,
  .mk (some 20) (.call ⟨(.value (.func 20)), #[(.tmp 18), (.tmp 19), (.func 21)], #[35, 3, 41]⟩) none,
  .mk (some 17) (.move (.tmp 20)) none,
  .mk (some 21) (.extract (.tmp 17) 0) none,
  .mk (some 22) (.extract (.tmp 17) 1) none,
  .mk (some 7) (.assign (.tmp 21)) none,
  .mk (some 8) (.assign (.tmp 22)) none]
def r15_5 : List PS := [.mk (some 23) (.move (.tmp 8)) none,
  .mk (some 24) (.unOp .not 4 (.tmp 23)) none,
  .mk (some 25) (.move (.tmp 24)) none,
  .mk (some 26) (.move (.tmp 6)) (some (25, false)),
  .mk (some 27) (.move (.tmp 7)) (some (25, false)),
  .mk (some 28) (.indexAddr 35 (.tmp 26) (.tmp 27)) (some (25, false)),
  .mk (some 29) (.fieldAddr 40 (.tmp 28) 0) (some (25, false)),
  .mk (some 30) (.load 3 (.tmp 29)) (some (25, false)),
  .mk (some 31) (.move (.tmp 0)) (some (25, false)),
  .mk (some 32) (.binOp .neq 3 (.tmp 30) (.tmp 31) 3) (some (25, false)),
  .mk (some 33) (.pick (.tmp 25) (.const (.bool true)) (.tmp 32)) none]
def r15_6 : List PS := [.mk (some 4) (.assign (.const (.int .i64 0))) none,
  .mk (some 5) (.assign (.const (.bool false))) none]
def r15_7 : List PS := [.mk (some 34) (.move (.tmp 6)) none,
  .mk (some 35) (.move (.tmp 7)) none,
  .mk (some 36) (.move (.tmp 1)) none,
  .mk (some 37) (.binOp .sub 3 (.tmp 36) (.const (.int .i64 1)) 3) none,
  .mk (some 38) (.indexAddr 35 (.tmp 34) (.tmp 35)) none,
  .mk (some 39) (.fieldAddr 40 (.tmp 38) 1) none,
  .mk (some 40) (.indexAddr 38 (.tmp 39) (.tmp 37)) none,
  .mk (some 41) (.load 3 (.tmp 40)) none,
  .mk (some 9) (.assign (.tmp 41)) none]
def r15_8 : List PS := [.mk (some 42) (.move (.tmp 9)) none,
  .mk (some 43) (.move (.tmp 9)) none,
  .mk (some 44) (.binOp .neq 3 (.tmp 43) (.const (.int .i64 0)) 3) none,
  .mk (some 4) (.assign (.tmp 42)) none,
  .mk (some 5) (.assign (.tmp 44)) none]
def c15 : PC := (.seq (.reg false r15_0) (.seq (.seq (.reg false r15_1) (.cond (.tmp 15) (.seq (.reg false r15_2) .ret) .skip)) (.seq (.reg false r15_3) (.seq (.reg false r15_4) (.seq (.seq (.reg false r15_5) (.cond (.tmp 33) (.seq (.reg false r15_6) .ret) .skip)) (.seq (.reg false r15_7) (.seq (.reg false r15_8) .ret)))))))
theorem e15 {args : List PV} {h : Heap} {K : PV → Heap → Prop} (hl : args.length = 2) (s : pwp Try.prog [] c15 (fin Try.prog [.tmp 4, .tmp 5] h K) (slots0 (olds args)) h) : CanP Try.prog 15 args h K :=
  can_of2 (n := 45) mixed Try.func15 rfl (by kernel_rfl) (by rw [hl]; kernel_rfl) rfl (by kernel_rfl) s
/-! ### naskh.tail.Tail: function 6 -/
def r6_0 : List PS := [.mk (some 8) (.assign (.const (.slice none 0 0))) none,
  .mk (some 9) (.assign (.const (.bool false))) none]
def r6_1 : List PS := [.mk (some 15) (.move (.tmp 1)) none,
  .mk (some 16) (.call ⟨(.value (.func 14)), #[(.tmp 15)], #[3]⟩) none,
  .mk (some 14) (.move (.tmp 16)) none,
  .mk (some 17) (.extract (.tmp 14) 0) none,
  .mk (some 18) (.extract (.tmp 14) 1) none,
  .mk (some 10) (.assign (.tmp 17)) none,
  .mk (some 11) (.assign (.tmp 18)) none]
def r6_2 : List PS := [.mk (some 20) (.move (.tmp 11)) none,
  .mk (some 21) (.unOp .not 4 (.tmp 20)) none,
  .mk (some 19) (.assign (.tmp 21)) none]
def r6_3 : List PS := [.mk (some 8) (.assign (.const (.slice none 0 0))) none,
  .mk (some 9) (.assign (.const (.bool false))) none]
def r6_4 : List PS := [.mk (some 23) (.move (.tmp 2)) none,
  .mk (some 24) (.move (.tmp 23)) none,
  .mk (some 25) (.move (.tmp 0)) (some (24, true)),
  .mk (some 26) (.call ⟨(.value (.func 9)), #[(.tmp 25)], #[3]⟩) (some (24, true)),
  .mk (some 27) (.pick (.tmp 24) (.tmp 26) (.const (.bool false))) none,
  .mk (some 22) (.assign (.tmp 27)) none]
def r6_5 : List PS := [.mk (some 29) (.move (.tmp 0)) none,
  .mk (some 30) (.move (.tmp 10)) none,
  .mk (some 31) (.call ⟨(.value (.func 15)), #[(.tmp 29), (.tmp 30)], #[3, 3]⟩) none,
  .mk (some 28) (.move (.tmp 31)) none,
  .mk (some 32) (.extract (.tmp 28) 0) none,
  .mk (some 33) (.extract (.tmp 28) 1) none,
  .mk (some 12) (.assign (.tmp 32)) none,
  .mk (some 13) (.assign (.tmp 33)) none]
def r6_6 : List PS := [.mk (some 34) (.move (.tmp 12)) none,
  .mk (some 35) (.buildSlice 22 2 #[(0, (.tmp 34)), (1, (.const (.int .i64 65139)))]) none,
  .mk (some 8) (.assign (.tmp 35)) none,
  .mk (some 9) (.assign (.const (.bool true))) none]
def r6_7 : List PS := [.mk (some 37) (.move (.tmp 3)) none,
  .mk (some 38) (.move (.tmp 37)) none,
  .mk (some 39) (.move (.tmp 0)) (some (38, true)),
  .mk (some 40) (.binOp .eql 3 (.tmp 39) (.const (.int .i64 1574)) 3) (some (38, true)),
  .mk (some 41) (.pick (.tmp 38) (.tmp 40) (.const (.bool false))) none,
  .mk (some 36) (.assign (.tmp 41)) none]
def r6_8 : List PS := [.mk (some 42) (.move (.tmp 1)) none,
  .mk (some 43) (.binOp .add 3 (.const (.int .i64 65263)) (.tmp 42) 3) none,
  .mk (some 44) (.binOp .sub 3 (.tmp 43) (.const (.int .i64 1)) 3) none,
  .mk (some 45) (.buildSlice 22 2 #[(0, (.tmp 44)), (1, (.const (.int .i64 65152)))]) none,
  .mk (some 8) (.assign (.tmp 45)) none,
  .mk (some 9) (.assign (.const (.bool true))) none]
def r6_9 : List PS := [.mk (some 8) (.assign (.const (.slice none 0 0))) none,
  .mk (some 9) (.assign (.const (.bool false))) none]
def c6 : PC := (.seq (.reg false r6_0) (.seq (.reg false r6_1) (.seq (.block 0 (.seq (.reg false r6_2) (.cond (.tmp 19) (.seq (.reg false r6_3) .ret) (.seq (.reg false r6_4) (.cond (.tmp 22) (.seq (.reg false r6_5) (.seq (.reg false r6_6) .ret)) (.seq (.reg false r6_7) (.cond (.tmp 36) (.seq (.reg false r6_8) .ret) .skip))))))) (.seq (.reg false r6_9) .ret))))
theorem e6 {args : List PV} {h : Heap} {K : PV → Heap → Prop} (hl : args.length = 4) (s : pwp Try.prog [] c6 (fin Try.prog [.tmp 8, .tmp 9] h K) (slots0 (olds args)) h) : CanP Try.prog 6 args h K :=
  can_of2 (n := 46) mixed Try.func6 rfl (by kernel_rfl) (by rw [hl]; kernel_rfl) rfl (by kernel_rfl) s
/-! ### naskh.naskhref16.Seen: function 10 -/
def r10_0 : List PS := [.mk (some 2) (.assign (.const (.bool false))) none]
def r10_1 : List PS := [.mk (some 3) (.move (.tmp 0)) none,
  .mk (some 4) (.binOp .geq 3 (.tmp 3) (.const (.int .i64 1587)) 3) none,
  .mk (some 5) (.move (.tmp 4)) none,
  .mk (some 6) (.move (.tmp 0)) (some (5, true)),
  .mk (some 7) (.binOp .leq 3 (.tmp 6) (.const (.int .i64 1590)) 3) (some (5, true)),
  .mk (some 8) (.pick (.tmp 5) (.tmp 7) (.const (.bool false))) none,
  .mk (some 2) (.assign (.tmp 8)) none]
def c10 : PC := (.seq (.reg false r10_0) (.seq (.reg false r10_1) .ret))
theorem e10 {args : List PV} {h : Heap} {K : PV → Heap → Prop} (hl : args.length = 1) (s : pwp Try.prog [] c10 (fin Try.prog [.tmp 2] h K) (slots0 (olds args)) h) : CanP Try.prog 10 args h K :=
  can_of2 (n := 9) mixed Try.func10 rfl (by kernel_rfl) (by rw [hl]; kernel_rfl) rfl (by kernel_rfl) s
/-! ### naskh.naskhref09.Form: function 16 -/
def r16_0 : List PS := [.mk (some 4) (.assign (.const (.int .i64 0))) none,
  .mk (some 5) (.assign (.const (.bool false))) none]
def r16_1 : List PS := [.mk (some 8) (.call ⟨(.value (.func 19)), #[], #[]⟩) none,
  .mk (some 6) (.assign (.tmp 8)) none]
def r16_2 : List PS := [.mk (some 7) (.assign (.const (.int .i64 0))) none]
def r16_3 : List PS := [.mk (some 9) (.move (.tmp 7)) none,
  .mk (some 10) (.move (.tmp 6)) none,
  .mk (some 11) (.call ⟨(.builtin .len), #[(.tmp 10)], #[35]⟩) none,
  .mk (some 12) (.binOp .lss 3 (.tmp 9) (.tmp 11) 3) none]
def r16_4 : List PS := [.mk (some 15) (.move (.tmp 6)) none,
  .mk (some 16) (.move (.tmp 7)) none,
  .mk (some 17) (.indexAddr 35 (.tmp 15) (.tmp 16)) none,
  .mk (some 18) (.fieldAddr 40 (.tmp 17) 0) none,
  .mk (some 19) (.load 3 (.tmp 18)) none,
  .mk (some 20) (.move (.tmp 0)) none,
  .mk (some 21) (.binOp .eql 3 (.tmp 19) (.tmp 20) 3) none,
  .mk (some 22) (.move (.tmp 21)) none,
  .mk (some 23) (.move (.tmp 1)) (some (22, true)),
  .mk (some 24) (.binOp .geq 3 (.tmp 23) (.const (.int .i64 1)) 3) (some (22, true)),
  .mk (some 25) (.pick (.tmp 22) (.tmp 24) (.const (.bool false))) none,
  .mk (some 26) (.move (.tmp 25)) none,
  .mk (some 27) (.move (.tmp 1)) (some (26, true)),
  .mk (some 28) (.binOp .leq 3 (.tmp 27) (.const (.int .i64 4)) 3) (some (26, true)),
  .mk (some 29) (.pick (.tmp 26) (.tmp 28) (.const (.bool false))) none,
  .mk (some 30) (.move (.tmp 29)) none,
  .mk (some 31) (.move (.tmp 6)) (some (30, true)),
  .mk (some 32) (.move (.tmp 7)) (some (30, true)),
  .mk (some 33) (.move (.tmp 1)) (some (30, true)),
  .mk (some 34) (.binOp .sub 3 (.tmp 33) (.const (.int .i64 1)) 3) (some (30, true)),
  .mk (some 35) (.indexAddr 35 (.tmp 31) (.tmp 32)) (some (30, true)),
  .mk (some 36) (.fieldAddr 40 (.tmp 35) 1) (some (30, true)),
  .mk (some 37) (.indexAddr 38 (.tmp 36) (.tmp 34)) (some (30, true)),
  .mk (some 38) (.load 3 (.tmp 37)) (some (30, true)),
  .mk (some 39) (.binOp .neq 3 (.tmp 38) (.const (.int .i64 0)) 3) (some (30, true)),
  .mk (some 40) (.pick (.tmp 30) (.tmp 39) (.const (.bool false))) none]
def r16_5 : List PS := [.mk (some 41) (.move (.tmp 6)) none,
  .mk (some 42) (.move (.tmp 7)) none,
  .mk (some 43) (.move (.tmp 1)) none,
  .mk (some 44) (.binOp .sub 3 (.tmp 43) (.const (.int .i64 1)) 3) none,
  .mk (some 45) (.indexAddr 35 (.tmp 41) (.tmp 42)) none,
  .mk (some 46) (.fieldAddr 40 (.tmp 45) 1) none,
  .mk (some 47) (.indexAddr 38 (.tmp 46) (.tmp 44)) none,
  .mk (some 48) (.load 3 (.tmp 47)) none,
  .mk (some 4) (.assign (.tmp 48)) none,
  .mk (some 5) (.assign (.const (.bool true))) none]
def r16_6 : List PS := [.mk (some 13) (.move (.tmp 7)) none,
  .mk (some 14) (.binOp .add 3 (.tmp 13) (.const (.int .i64 1)) 3) none,
  .mk (some 7) (.assign (.tmp 14)) none]
def r16_7 : List PS := [.mk (some 4) (.assign (.const (.int .i64 0))) none,
  .mk (some 5) (.assign (.const (.bool false))) none]
def c16 : PC := (.seq (.reg false r16_0) (.seq (.reg false r16_1) (.seq (.seq (.reg false r16_2) (.block 0 (.loop (.seq (.seq (.reg false r16_3) (.cond (.tmp 12) .skip (.exit 0))) (.seq (.block 1 (.seq (.reg false r16_4) (.cond (.tmp 40) (.seq (.reg false r16_5) .ret) .skip))) (.reg false r16_6)))))) (.seq (.reg false r16_7) .ret))))
theorem e16 {args : List PV} {h : Heap} {K : PV → Heap → Prop} (hl : args.length = 2) (s : pwp Try.prog [] c16 (fin Try.prog [.tmp 4, .tmp 5] h K) (slots0 (olds args)) h) : CanP Try.prog 16 args h K :=
  can_of2 (n := 49) mixed Try.func16 rfl (by kernel_rfl) (by rw [hl]; kernel_rfl) rfl (by kernel_rfl) s
/-! ### naskh.naskhref16.Tail: function 7 -/
def r7_0 : List PS := [.mk (some 8) (.assign (.const (.slice none 0 0))) none,
  .mk (some 9) (.assign (.const (.bool false))) none]
def r7_1 : List PS := [.mk (some 13) (.move (.tmp 1)) none,
  .mk (some 14) (.binOp .eql 3 (.tmp 13) (.const (.int .i64 1)) 3) none,
  .mk (some 10) (.assign (.tmp 14)) none]
def r7_2 : List PS := [.mk (some 15) (.move (.tmp 10)) none,
  .mk (some 16) (.unOp .not 4 (.tmp 15)) none,
  .mk (some 17) (.move (.tmp 16)) none,
  .mk (some 18) (.move (.tmp 1)) (some (17, true)),
  .mk (some 19) (.binOp .neq 3 (.tmp 18) (.const (.int .i64 2)) 3) (some (17, true)),
  .mk (some 20) (.pick (.tmp 17) (.tmp 19) (.const (.bool false))) none]
def r7_3 : List PS := [.mk (some 8) (.assign (.const (.slice none 0 0))) none,
  .mk (some 9) (.assign (.const (.bool false))) none]
def r7_4 : List PS := [.mk (some 21) (.move (.tmp 2)) none,
  .mk (some 22) (.move (.tmp 21)) none,
  .mk (some 23) (.move (.tmp 0)) (some (22, true)),
  .mk (some 24) (.call ⟨(.value (.func 10)), #[(.tmp 23)], #[3]⟩) (some (22, true)),
  .mk (some 25) (.pick (.tmp 22) (.tmp 24) (.const (.bool false))) none]
def r7_5 : List PS := [.mk (some 27) (.move (.tmp 0)) none,
  .mk (some 28) (.call ⟨(.value (.func 16)), #[(.tmp 27), (.const (.int .i64 4))], #[3, 3]⟩) none,
  .mk (some 26) (.move (.tmp 28)) none,
  .mk (some 29) (.extract (.tmp 26) 0) none,
  .mk (some 30) (.extract (.tmp 26) 1) none,
  .mk (some 11) (.assign (.tmp 29)) none,
  .mk (some 12) (.assign (.tmp 30)) none]
def r7_6 : List PS := [.mk (some 31) (.move (.tmp 10)) none]
def r7_7 : List PS := [.mk (some 33) (.move (.tmp 0)) none,
  .mk (some 34) (.call ⟨(.value (.func 16)), #[(.tmp 33), (.const (.int .i64 3))], #[3, 3]⟩) none,
  .mk (some 32) (.move (.tmp 34)) none,
  .mk (some 35) (.extract (.tmp 32) 0) none,
  .mk (some 36) (.extract (.tmp 32) 1) none,
  .mk (some 11) (.assign (.tmp 35)) none]
def r7_8 : List PS := [.mk (some 37) (.move (.tmp 11)) none,
  .mk (some 38) (.buildSlice 22 2 #[(0, (.tmp 37)), (1, (.const (.int .i64 65139)))]) none,
  .mk (some 8) (.assign (.tmp 38)) none,
  .mk (some 9) (.assign (.const (.bool true))) none]
def r7_9 : List PS := [.mk (some 39) (.move (.tmp 3)) none,
  .mk (some 40) (.move (.tmp 39)) none,
  .mk (some 41) (.move (.tmp 0)) (some (40, true)),
  .mk (some 42) (.binOp .eql 3 (.tmp 41) (.const (.int .i64 1574)) 3) (some (40, true)),
  .mk (some 43) (.pick (.tmp 40) (.tmp 42) (.const (.bool false))) none]
def r7_10 : List PS := [.mk (some 44) (.move (.tmp 10)) none]
def r7_11 : List PS := [.mk (some 45) (.buildSlice 22 2 #[(0, (.const (.int .i64 65263))), (1, (.const (.int .i64 65152)))]) none,
  .mk (some 8) (.assign (.tmp 45)) none,
  .mk (some 9) (.assign (.const (.bool true))) none]
def r7_12 : List PS := [.mk (some 46) (.buildSlice 22 2 #[(0, (.const (.int .i64 65264))), (1, (.const (.int .i64 65152)))]) none,
  .mk (some 8) (.assign (.tmp 46)) none,
  .mk (some 9) (.assign (.const (.bool true))) none]
def r7_13 : List PS := [.mk (some 8) (.assign (.const (.slice none 0 0))) none,
  .mk (some 9) (.assign (.const (.bool false))) none]
def c7 : PC := (.seq (.reg false r7_0) (.seq (.reg false r7_1) (.seq (.seq (.reg false r7_2) (.cond (.tmp 20) (.seq (.reg false r7_3) .ret) .skip)) (.seq (.seq (.reg false r7_4) (.cond (.tmp 25) (.seq (.reg false r7_5) (.seq (.seq (.reg false r7_6) (.cond (.tmp 31) (.reg false r7_7) .skip)) (.seq (.reg false r7_8) .ret))) .skip)) (.seq (.seq (.reg false r7_9) (.cond (.tmp 43) (.seq (.seq (.reg false r7_10) (.cond (.tmp 44) (.seq (.reg false r7_11) .ret) .skip)) (.seq (.reg false r7_12) .ret)) .skip)) (.seq (.reg false r7_13) .ret))))))
theorem e7 {args : List PV} {h : Heap} {K : PV → Heap → Prop} (hl : args.length = 4) (s : pwp Try.prog [] c7 (fin Try.prog [.tmp 8, .tmp 9] h K) (slots0 (olds args)) h) : CanP Try.prog 7 args h K :=
  can_of2 (n := 47) mixed Try.func7 rfl (by kernel_rfl) (by rw [hl]; kernel_rfl) rfl (by kernel_rfl) s
/-! ### slices.Equal[[]int,int]: function 8 -/
def r8_0 : List PS := [.mk (some 4) (.assign (.const (.bool false))) none]
def r8_1 : List PS := [.mk (some 6) (.move (.tmp 0)) none,
  .mk (some 7) (.call ⟨(.builtin .len), #[(.tmp 6)], #[22]⟩) none,
  .mk (some 8) (.move (.tmp 1)) none,
  .mk (some 9) (.call ⟨(.builtin .len), #[(.tmp 8)], #[22]⟩) none,
  .mk (some 10) (.binOp .neq 3 (.tmp 7) (.tmp 9) 3) none]
def r8_2 : List PS := [.mk (some 4) (.assign (.const (.bool false))) none]
def r8_3 : List PS := [.mk (some 11) (.move (.tmp 0)) none,
  .mk (some 12) (.call ⟨(.builtin .len), #[(.tmp 11)], #[22]⟩) none,
  .mk (some 13) (.move (.const (.int .i64 0))) none]
def r8_4 : List PS := [.mk (some 14) (.binOp .lss 3 (.tmp 13) (.tmp 12) 3) none]
def r8_5 : List PS := [.mk (some 15) (.move (.tmp 13)) none,
  .mk (some 5) (.assign (.tmp 15)) none]
def r8_6 : List PS := [.mk (some 16) (.move (.tmp 0)) none,
  .mk (some 17) (.move (.tmp 5)) none,
  .mk (some 18) (.indexAddr 22 (.tmp 16) (.tmp 17)) none,
  .mk (some 19) (.load 3 (.tmp 18)) none,
  .mk (some 20) (.move (.tmp 1)) none,
  .mk (some 21) (.move (.tmp 5)) none,
  .mk (some 22) (.indexAddr 22 (.tmp 20) (.tmp 21)) none,
  .mk (some 23) (.load 3 (.tmp 22)) none,
  .mk (some 24) (.binOp .neq 3 (.tmp 19) (.tmp 23) 3) none]
def r8_7 : List PS := [.mk (some 4) (.assign (.const (.bool false))) none]
def r8_8 : List PS := [.mk (some 25) (.binOp .add 3 (.tmp 13) (.const (.int .i64 1)) 3) none,
  .mk (some 13) (.move (.tmp 25)) none]
def r8_9 : List PS := [.mk (some 4) (.assign (.const (.bool true))) none]
def c8 : PC := (.seq (.reg false r8_0) (.seq (.seq (.reg false r8_1) (.cond (.tmp 10) (.seq (.reg false r8_2) .ret) .skip)) (.seq (.seq (.reg false r8_3) (.block 0 (.loop (.seq (.reg false r8_4) (.seq (.cond (.tmp 14) .skip (.exit 0)) (.seq (.block 1 (.seq (.reg false r8_5) (.seq (.reg true r8_6) (.cond (.tmp 24) (.seq (.reg false r8_7) .ret) .skip)))) (.reg false r8_8))))))) (.seq (.reg false r8_9) .ret))))
theorem e8 {args : List PV} {h : Heap} {K : PV → Heap → Prop} (hl : args.length = 2) (s : pwp Try.prog [] c8 (fin Try.prog [.tmp 4] h K) (slots0 (olds args)) h) : CanP Try.prog 8 args h K :=
  can_of2 (n := 26) mixed Try.func8 rfl (by kernel_rfl) (by rw [hl]; kernel_rfl) rfl (by kernel_rfl) s
/-! ### naskh.forms.of: function 23 -/
def r23_0 : List PS := [.mk (some 2) (.alloc 44) none,
  .mk (some 3) (.assign (.const (.bool false))) none]
def r23_1 : List PS := [.mk (some 8) (.call ⟨(.value (.func 19)), #[], #[]⟩) none,
  .mk (some 9) (.call ⟨(.builtin .len), #[(.tmp 8)], #[35]⟩) none,
  .mk (some 10) (.move (.const (.int .i64 0))) none]
def r23_2 : List PS := [.mk (some 11) (.binOp .lss 3 (.tmp 10) (.tmp 9) 3) none]
def r23_3 : List PS := [.mk (some 12) (.indexAddr 35 (.tmp 8) (.tmp 10)) none,
  .mk (some 13) (.load 40 (.tmp 12)) none,
  .mk (some 5) (.alloc 40) none,
  .mk none (.store 40 (.tmp 5) (.tmp 13)) none,
  .frz 5]
def r23_4 : List PS := [.mk (some 14) (.fieldAddr 40 (.tmp 5) 1) none,
  .mk (some 15) (.load 38 (.tmp 14)) none,
  .mk (some 16) (.move (.const (.int .i64 0))) none]
def r23_5 : List PS := [.mk (some 17) (.binOp .lss 3 (.tmp 16) (.const (.int .i64 4)) 3) none]
def r23_6 : List PS := [.mk (some 18) (.move (.tmp 16)) none,
  .mk (some 19) (.index 38 (.tmp 15) (.tmp 16)) none,
  .mk (some 6) (.assign (.tmp 18)) none,
  .mk (some 7) (.assign (.tmp 19)) none]
def r23_7 : List PS := [.mk (some 20) (.move (.tmp 7)) none,
  .mk (some 21) (.binOp .neq 3 (.tmp 20) (.const (.int .i64 0)) 3) none,
  .mk (some 22) (.move (.tmp 21)) none,
  .mk (some 23) (.move (.tmp 7)) (some (22, true)),
  .mk (some 24) (.move (.tmp 0)) (some (22, true)),
  .mk (some 25) (.binOp .eql 3 (.tmp 23) (.tmp 24) 3) (some (22, true)),
  .mk (some 26) (.pick (.tmp 22) (.tmp 25) (.const (.bool false))) none]
def r23_8 : List PS := [.mk (some 27) (.fieldAddr 40 (.tmp 5) 0) none,
  .mk (some 28) (.load 3 (.tmp 27)) none,
  .mk (some 29) (.move (.tmp 6)) none,
  .mk (some 30) (.binOp .add 3 (.tmp 29) (.const (.int .i64 1)) 3) none,
  .mk (some 31) (.build 44 #[(0, (.tmp 28)), (1, (.tmp 30))]) none,
  .mk none (.store 44 (.tmp 2) (.tmp 31)) none,
  .mk (some 3) (.assign (.const (.bool true))) none]
def r23_9 : List PS := [.mk (some 32) (.binOp .add 3 (.tmp 16) (.const (.int .i64 1)) 3) none,
  .mk (some 16) (.move (.tmp 32)) none]
def r23_10 : List PS := [.mk (some 33) (.binOp .add 3 (.tmp 10) (.const (.int .i64 1)) 3) none,
  .mk (some 10) (.move (.tmp 33)) none]
def r23_11 : List PS := [.mk (some 34) (.build 44 #[]) none,
  .mk none (.store 44 (.tmp 2) (.tmp 34)) none,
  .mk (some 3) (.assign (.const (.bool false))) none]
def c23 : PC := (.seq (.reg false r23_0) (.seq (.seq (.reg false r23_1) (.block 0 (.loop (.seq (.reg false r23_2) (.seq (.cond (.tmp 11) .skip (.exit 0)) (.seq (.block 1 (.seq (.reg false r23_3) (.seq (.reg false r23_4) (.block 2 (.loop (.seq (.reg false r23_5) (.seq (.cond (.tmp 17) .skip (.exit 2)) (.seq (.block 3 (.seq (.reg false r23_6) (.seq (.reg false r23_7) (.cond (.tmp 26) (.seq (.reg false r23_8) .ret) .skip)))) (.reg false r23_9))))))))) (.reg false r23_10))))))) (.seq (.reg false r23_11) .ret)))
theorem e23 {args : List PV} {h : Heap} {K : PV → Heap → Prop} (hl : args.length = 1) (s : pwp Try.prog [2, 5] c23 (fin Try.prog [.cell 2 44, .tmp 3] h K) (slots0 (olds args)) h) : CanP Try.prog 23 args h K :=
  can_of2 (n := 35) mixed Try.func23 rfl (by kernel_rfl) (by rw [hl]; kernel_rfl) rfl (by kernel_rfl) s
/-! ### naskh.forms.Base: function 22 -/
def r22_0 : List PS := [.mk (some 2) (.assign (.const (.int .i64 0))) none,
  .mk (some 3) (.assign (.const (.int .i64 0))) none,
  .mk (some 4) (.assign (.const (.bool false))) none]
def r22_1 : List PS := [.mk (some 8) (.move (.tmp 0)) none,
  .mk (some 9) (.call ⟨(.value (.func 23)), #[(.tmp 8)], #[3]⟩) none,
  .mk (some 7) (.move (.tmp 9)) none,
  .mk (some 10) (.extract (.tmp 7) 0) none,
  .mk (some 11) (.extract (.tmp 7) 1) none,
  .mk (some 5) (.alloc 44) none,
  .mk none (.store 44 (.tmp 5) (.tmp 10)) none,
  .frz 5,
  .mk (some 6) (.assign (.tmp 11)) none]
def r22_2 : List PS := [.mk (some 12) (.fieldAddr 44 (.tmp 5) 0) none,
  .mk (some 13) (.load 3 (.tmp 12)) none,
  .mk (some 14) (.fieldAddr 44 (.tmp 5) 1) none,
  .mk (some 15) (.load 3 (.tmp 14)) none,
  .mk (some 16) (.move (.tmp 6)) none,
  .mk (some 2) (.assign (.tmp 13)) none,
  .mk (some 3) (.assign (.tmp 15)) none,
  .mk (some 4) (.assign (.tmp 16)) none]
def c22 : PC := (.seq (.reg false r22_0) (.seq (.reg false r22_1) (.seq (.reg true r22_2) .ret)))
theorem e22 {args : List PV} {h : Heap} {K : PV → Heap → Prop} (hl : args.length = 1) (s : pwp Try.prog [5] c22 (fin Try.prog [.tmp 2, .tmp 3, .tmp 4] h K) (slots0 (olds args)) h) : CanP Try.prog 22 args h K :=
  can_of2 (n := 17) mixed Try.func22 rfl (by kernel_rfl) (by rw [hl]; kernel_rfl) rfl (by kernel_rfl) s
/-! ### naskh.tail.tailed: function 17 -/
def r17_0 : List PS := [.mk (some 2) (.assign (.const (.int .i64 0))) none,
  .mk (some 3) (.assign (.const (.bool false))) none]
def r17_1 : List PS := [.mk (some 8) (.move (.tmp 0)) none,
  .mk (some 9) (.call ⟨(.value (.func 22)), #[(.tmp 8)], #[3]⟩) none,
  .mk (some 7) (.move (.tmp 9)) none,
  .mk (some 10) (.extract (.tmp 7) 0) none,
  .mk (some 11) (.extract (.tmp 7) 1) none,
  .mk (some 12) (.extract (.tmp 7) 2) none,
  .mk (some 4) (.assign (.tmp 10)) none,
  .mk (some 5) (.assign (.tmp 11)) none,
  .mk (some 6) (.assign (.tmp 12)) none]
def r17_2 : List PS := [.mk (some 13) (.move (.tmp 6)) none,
  .mk (some 14) (.unOp .not 4 (.tmp 13)) none,
  .mk (some 15) (.move (.tmp 14)) none,
  .mk (some 16) (.move (.tmp 4)) (some (15, false)),
  .mk (some 17) (.call ⟨(.value (.func 9)), #[(.tmp 16)], #[3]⟩) (some (15, false)),
  .mk (some 18) (.unOp .not 4 (.tmp 17)) (some (15, false)),
  .mk (some 19) (.pick (.tmp 15) (.const (.bool true)) (.tmp 18)) none]
def r17_3 : List PS := [.mk (some 2) (.assign (.const (.int .i64 0))) none,
  .mk (some 3) (.assign (.const (.bool false))) none]
def r17_4 : List PS := [.mk (some 20) (.move (.tmp 5)) none]
def r17_5 : List PS := [.mk (some 22) (.binOp .eql 3 (.tmp 20) (.const (.int .i64 3)) 3) none,
  .mk (some 21) (.assign (.tmp 22)) none]
def r17_6 : List PS := [.mk (some 23) (.binOp .eql 3 (.tmp 20) (.const (.int .i64 4)) 3) none,
  .mk (some 21) (.assign (.tmp 23)) none]
def r17_7 : List PS := [.mk (some 24) (.move (.tmp 4)) none,
  .mk (some 2) (.assign (.tmp 24)) none,
  .mk (some 3) (.assign (.const (.bool true))) none]
def r17_8 : List PS := [.mk (some 2) (.assign (.const (.int .i64 0))) none,
  .mk (some 3) (.assign (.const (.bool false))) none]
def c17 : PC := (.seq (.reg false r17_0) (.seq (.reg false r17_1) (.seq (.seq (.reg false r17_2) (.cond (.tmp 19) (.seq (.reg false r17_3) .ret) .skip)) (.seq (.seq (.reg false r17_4) (.block 0 (.seq (.seq (.reg false r17_5) (.cond (.tmp 21) .skip (.reg false r17_6))) (.cond (.tmp 21) (.seq (.reg false r17_7) .ret) .skip)))) (.seq (.reg false r17_8) .ret)))))
theorem e17 {args : List PV} {h : Heap} {K : PV → Heap → Prop} (hl : args.length = 1) (s : pwp Try.prog [] c17 (fin Try.prog [.tmp 2, .tmp 3] h K) (slots0 (olds args)) h) : CanP Try.prog 17 args h K :=
  can_of2 (n := 25) mixed Try.func17 rfl (by kernel_rfl) (by rw [hl]; kernel_rfl) rfl (by kernel_rfl) s
/-! ### naskh.tail.Back: function 12 -/
def r12_0 : List PS := [.mk (some 8) (.assign (.const (.int .i64 0))) none,
  .mk (some 9) (.assign (.const (.bool false))) none]
def r12_1 : List PS := [.mk (some 12) (.move (.tmp 1)) none]
def r12_2 : List PS := [.mk (some 14) (.binOp .eql 3 (.tmp 12) (.const (.int .i64 65139)) 3) none,
  .mk (some 13) (.assign (.tmp 14)) none]
def r12_3 : List PS := [.mk (some 16) (.move (.tmp 0)) none,
  .mk (some 17) (.call ⟨(.value (.func 17)), #[(.tmp 16)], #[3]⟩) none,
  .mk (some 15) (.move (.tmp 17)) none,
  .mk (some 18) (.extract (.tmp 15) 0) none,
  .mk (some 19) (.extract (.tmp 15) 1) none,
  .mk (some 10) (.assign (.tmp 18)) none,
  .mk (some 11) (.assign (.tmp 19)) none]
def r12_4 : List PS := [.mk (some 20) (.move (.tmp 11)) none,
  .mk (some 21) (.move (.tmp 20)) none,
  .mk (some 22) (.move (.tmp 2)) (some (21, true)),
  .mk (some 23) (.pick (.tmp 21) (.tmp 22) (.const (.bool false))) none]
def r12_5 : List PS := [.mk (some 24) (.move (.tmp 10)) none,
  .mk (some 8) (.assign (.tmp 24)) none,
  .mk (some 9) (.assign (.const (.bool true))) none]
def r12_6 : List PS := [.mk (some 26) (.binOp .eql 3 (.tmp 12) (.const (.int .i64 65152)) 3) none,
  .mk (some 25) (.assign (.tmp 26)) none]
def r12_7 : List PS := [.mk (some 27) (.move (.tmp 3)) none,
  .mk (some 28) (.move (.tmp 27)) none,
  .mk (some 29) (.move (.tmp 0)) (some (28, true)),
  .mk (some 30) (.binOp .eql 3 (.tmp 29) (.const (.int .i64 65263)) 3) (some (28, true)),
  .mk (some 31) (.move (.tmp 30)) (some (28, true)),
  .mk (some 32) (.move (.tmp 0)) (some (31, false)),
  .mk (some 33) (.binOp .eql 3 (.tmp 32) (.const (.int .i64 65264)) 3) (some (31, false)),
  .mk (some 34) (.pick (.tmp 31) (.const (.bool true)) (.tmp 33)) (some (28, true)),
  .mk (some 35) (.pick (.tmp 28) (.tmp 34) (.const (.bool false))) none]
def r12_8 : List PS := [.mk (some 8) (.assign (.const (.int .i64 1574))) none,
  .mk (some 9) (.assign (.const (.bool true))) none]
def r12_9 : List PS := [.mk (some 8) (.assign (.const (.int .i64 0))) none,
  .mk (some 9) (.assign (.const (.bool false))) none]
def c12 : PC := (.seq (.reg false r12_0) (.seq (.seq (.reg false r12_1) (.block 0 (.seq (.reg false r12_2) (.cond (.tmp 13) (.seq (.reg false r12_3) (.seq (.reg false r12_4) (.cond (.tmp 23) (.seq (.reg false r12_5) .ret) .skip))) (.seq (.reg false r12_6) (.cond (.tmp 25) (.seq (.reg false r12_7) (.cond (.tmp 35) (.seq (.reg false r12_8) .ret) .skip)) .skip)))))) (.seq (.reg false r12_9) .ret)))
theorem e12 {args : List PV} {h : Heap} {K : PV → Heap → Prop} (hl : args.length = 4) (s : pwp Try.prog [] c12 (fin Try.prog [.tmp 8, .tmp 9] h K) (slots0 (olds args)) h) : CanP Try.prog 12 args h K :=
  can_of2 (n := 36) mixed Try.func12 rfl (by kernel_rfl) (by rw [hl]; kernel_rfl) rfl (by kernel_rfl) s
/-! ### naskh.naskhlaw16.awake: function 11 -/
def r11_0 : List PS := [.mk (some 0) (.assign (.const (.bool false))) none]
def r11_1 : List PS := [.mk (some 6) (.call ⟨(.value (.func 6)), #[(.const (.int .i64 1587)), (.const (.int .i64 1)), (.const (.bool true)), (.const (.bool false))], #[3, 3, 4, 4]⟩) none,
  .mk (some 5) (.move (.tmp 6)) none,
  .mk (some 7) (.extract (.tmp 5) 0) none,
  .mk (some 8) (.extract (.tmp 5) 1) none,
  .mk (some 1) (.assign (.tmp 7)) none,
  .mk (some 2) (.assign (.tmp 8)) none]
def r11_2 : List PS := [.mk (some 10) (.call ⟨(.value (.func 12)), #[(.const (.int .i64 65203)), (.const (.int .i64 65139)), (.const (.bool true)), (.const (.bool false))], #[3, 3, 4, 4]⟩) none,
  .mk (some 9) (.move (.tmp 10)) none,
  .mk (some 11) (.extract (.tmp 9) 0) none,
  .mk (some 12) (.extract (.tmp 9) 1) none,
  .mk (some 3) (.assign (.tmp 11)) none,
  .mk (some 4) (.assign (.tmp 12)) none]
def r11_3 : List PS := [.mk (some 13) (.move (.tmp 2)) none,
  .mk (some 14) (.move (.tmp 13)) none,
  .mk (some 15) (.move (.tmp 1)) (some (14, true)),
  .mk (some 16) (.buildSlice 22 2 #[(0, (.const (.int .i64 65203))), (1, (.const (.int .i64 65139)))]) (some (14, true)),
  .mk (some 17) (.call ⟨(.value (.func 8)), #[(.tmp 15), (.tmp 16)], #[22, 22]⟩) (some (14, true)),
  .mk (some 18) (.pick (.tmp 14) (.tmp 17) (.const (.bool false))) none,
  .mk (some 19) (.move (.tmp 18)) none,
  .mk (some 20) (.move (.tmp 4)) (some (19, true)),
  .mk (some 21) (.pick (.tmp 19) (.tmp 20) (.const (.bool false))) none,
  .mk (some 22) (.move (.tmp 21)) none,
  .mk (some 23) (.move (.tmp 3)) (some (22, true)),
  .mk (some 24) (.binOp .eql 3 (.tmp 23) (.const (.int .i64 1587)) 3) (some (22, true)),
  .mk (some 25) (.pick (.tmp 22) (.tmp 24) (.const (.bool false))) none,
  .mk (some 26) (.move (.tmp 25)) none,
  .mk (some 27) (.call ⟨(.value (.func 9)), #[(.const (.int .i64 1590))], #[3]⟩) (some (26, true)),
  .mk (some 28) (.pick (.tmp 26) (.tmp 27) (.const (.bool false))) none,
  .mk (some 0) (.assign (.tmp 28)) none]
def c11 : PC := (.seq (.reg false r11_0) (.seq (.reg false r11_1) (.seq (.reg false r11_2) (.seq (.reg false r11_3) .ret))))
theorem e11 {args : List PV} {h : Heap} {K : PV → Heap → Prop} (hl : args.length = 0) (s : pwp Try.prog [] c11 (fin Try.prog [.tmp 0] h K) (slots0 (olds args)) h) : CanP Try.prog 11 args h K :=
  can_of2 (n := 29) mixed Try.func11 rfl (by kernel_rfl) (by rw [hl]; kernel_rfl) rfl (by kernel_rfl) s
/-! ### naskh.naskhlaw16.TailGives: function 3 -/
def r3_0 : List PS := [.mk (some 8) (.assign (.const (.bool false))) none]
def r3_1 : List PS := [.mk (some 14) (.move (.tmp 0)) none,
  .mk (some 15) (.move (.tmp 1)) none,
  .mk (some 16) (.move (.tmp 2)) none,
  .mk (some 17) (.move (.tmp 3)) none,
  .mk (some 18) (.call ⟨(.value (.func 6)), #[(.tmp 14), (.tmp 15), (.tmp 16), (.tmp 17)], #[3, 3, 4, 4]⟩) none,
  .mk (some 13) (.move (.tmp 18)) none,
  .mk (some 19) (.extract (.tmp 13) 0) none,
  .mk (some 20) (.extract (.tmp 13) 1) none,
  .mk (some 9) (.assign (.tmp 19)) none,
  .mk (some 10) (.assign (.tmp 20)) none]
def r3_2 : List PS := [.mk (some 22) (.move (.tmp 0)) none,
  .mk (some 23) (.move (.tmp 1)) none,
  .mk (some 24) (.move (.tmp 2)) none,
  .mk (some 25) (.move (.tmp 3)) none,
  .mk (some 26) (.call ⟨(.value (.func 7)), #[(.tmp 22), (.tmp 23), (.tmp 24), (.tmp 25)], #[3, 3, 4, 4]⟩) none,
  .mk (some 21) (.move (.tmp 26)) none,
  .mk (some 27) (.extract (.tmp 21) 0) none,
  .mk (some 28) (.extract (.tmp 21) 1) none,
  .mk (some 11) (.assign (.tmp 27)) none,
  .mk (some 12) (.assign (.tmp 28)) none]
def r3_3 : List PS := [.mk (some 29) (.move (.tmp 9)) none,
  .mk (some 30) (.move (.tmp 11)) none,
  .mk (some 31) (.call ⟨(.value (.func 8)), #[(.tmp 29), (.tmp 30)], #[22, 22]⟩) none,
  .mk (some 32) (.move (.tmp 31)) none,
  .mk (some 33) (.move (.tmp 10)) (some (32, true)),
  .mk (some 34) (.move (.tmp 12)) (some (32, true)),
  .mk (some 35) (.binOp .eql 4 (.tmp 33) (.tmp 34) 4) (some (32, true)),
  .mk (some 36) (.pick (.tmp 32) (.tmp 35) (.const (.bool false))) none,
  .mk (some 37) (.move (.tmp 36)) none,
  .mk (some 38) (.move (.tmp 0)) (some (37, true)),
  .mk (some 39) (.call ⟨(.value (.func 9)), #[(.tmp 38)], #[3]⟩) (some (37, true)),
  .mk (some 40) (.move (.tmp 0)) (some (37, true)),
  .mk (some 41) (.call ⟨(.value (.func 10)), #[(.tmp 40)], #[3]⟩) (some (37, true)),
  .mk (some 42) (.binOp .eql 4 (.tmp 39) (.tmp 41) 4) (some (37, true)),
  .mk (some 43) (.pick (.tmp 37) (.tmp 42) (.const (.bool false))) none,
  .mk (some 44) (.move (.tmp 43)) none,
  .mk (some 45) (.call ⟨(.value (.func 11)), #[], #[]⟩) (some (44, true)),
  .mk (some 46) (.pick (.tmp 44) (.tmp 45) (.const (.bool false))) none,
  .mk (some 8) (.assign (.tmp 46)) none]
def c3 : PC := (.seq (.reg false r3_0) (.seq (.reg false r3_1) (.seq (.reg false r3_2) (.seq (.reg false r3_3) .ret))))
theorem e3 {args : List PV} {h : Heap} {K : PV → Heap → Prop} (hl : args.length = 4) (s : pwp Try.prog [] c3 (fin Try.prog [.tmp 8] h K) (slots0 (olds args)) h) : CanP Try.prog 3 args h K :=
  can_of2 (n := 47) mixed Try.func3 rfl (by kernel_rfl) (by rw [hl]; kernel_rfl) rfl (by kernel_rfl) s
/-! ### naskh.naskhref09.Base: function 18 -/
def r18_0 : List PS := [.mk (some 2) (.assign (.const (.int .i64 0))) none,
  .mk (some 3) (.assign (.const (.int .i64 0))) none,
  .mk (some 4) (.assign (.const (.bool false))) none]
def r18_1 : List PS := [.mk (some 8) (.call ⟨(.value (.func 19)), #[], #[]⟩) none,
  .mk (some 5) (.assign (.tmp 8)) none]
def r18_2 : List PS := [.mk (some 6) (.assign (.const (.int .i64 0))) none]
def r18_3 : List PS := [.mk (some 9) (.move (.tmp 6)) none,
  .mk (some 10) (.move (.tmp 5)) none,
  .mk (some 11) (.call ⟨(.builtin .len), #[(.tmp 10)], #[35]⟩) none,
  .mk (some 12) (.binOp .lss 3 (.tmp 9) (.tmp 11) 3) none]
def r18_4 : List PS := [.mk (some 7) (.assign (.const (.int .i64 0))) none]
def r18_5 : List PS := [.mk (some 15) (.move (.tmp 7)) none,
  .mk (some 16) (.binOp .lss 3 (.tmp 15) (.const (.int .i64 4)) 3) none]
def r18_6 : List PS := [.mk (some 19) (.move (.tmp 0)) none,
  .mk (some 20) (.binOp .neq 3 (.tmp 19) (.const (.int .i64 0)) 3) none,
  .mk (some 21) (.move (.tmp 20)) none,
  .mk (some 22) (.move (.tmp 5)) (some (21, true)),
  .mk (some 23) (.move (.tmp 6)) (some (21, true)),
  .mk (some 24) (.move (.tmp 7)) (some (21, true)),
  .mk (some 25) (.indexAddr 35 (.tmp 22) (.tmp 23)) (some (21, true)),
  .mk (some 26) (.fieldAddr 40 (.tmp 25) 1) (some (21, true)),
  .mk (some 27) (.indexAddr 38 (.tmp 26) (.tmp 24)) (some (21, true)),
  .mk (some 28) (.load 3 (.tmp 27)) (some (21, true)),
  .mk (some 29) (.move (.tmp 0)) (some (21, true)),
  .mk (some 30) (.binOp .eql 3 (.tmp 28) (.tmp 29) 3) (some (21, true)),
  .mk (some 31) (.pick (.tmp 21) (.tmp 30) (.const (.bool false))) none]
def r18_7 : List PS := [.mk (some 32) (.move (.tmp 5)) none,
  .mk (some 33) (.move (.tmp 6)) none,
  .mk (some 34) (.indexAddr 35 (.tmp 32) (.tmp 33)) none,
  .mk (some 35) (.fieldAddr 40 (.tmp 34) 0) none,
  .mk (some 36) (.load 3 (.tmp 35)) none,
  .mk (some 37) (.move (.tmp 7)) none,
  .mk (some 38) (.binOp .add 3 (.tmp 37) (.const (.int .i64 1)) 3) none,
  .mk (some 2) (.assign (.tmp 36)) none,
  .mk (some 3) (.assign (.tmp 38)) none,
  .mk (some 4) (.assign (.const (.bool true))) none]
def r18_8 : List PS := [.mk (some 17) (.move (.tmp 7)) none,
  .mk (some 18) (.binOp .add 3 (.tmp 17) (.const (.int .i64 1)) 3) none,
  .mk (some 7) (.assign (.tmp 18)) none]
def r18_9 : List PS := [.mk (some 13) (.move (.tmp 6)) none,
  .mk (some 14) (.binOp .add 3 (.tmp 13) (.const (.int .i64 1)) 3) none,
  .mk (some 6) (.assign (.tmp 14)) none]
def r18_10 : List PS := [.mk (some 2) (.assign (.const (.int .i64 0))) none,
  .mk (some 3) (.assign (.const (.int .i64 0))) none,
  .mk (some 4) (.assign (.const (.bool false))) none]
def c18 : PC := (.seq (.reg false r18_0) (.seq (.reg false r18_1) (.seq (.seq (.reg false r18_2) (.block 0 (.loop (.seq (.seq (.reg false r18_3) (.cond (.tmp 12) .skip (.exit 0))) (.seq (.block 1 (.seq (.reg false r18_4) (.block 2 (.loop (.seq (.seq (.reg false r18_5) (.cond (.tmp 16) .skip (.exit 2))) (.seq (.block 3 (.seq (.reg false r18_6) (.cond (.tmp 31) (.seq (.reg false r18_7) .ret) .skip))) (.reg false r18_8))))))) (.reg false r18_9)))))) (.seq (.reg false r18_10) .ret))))
theorem e18 {args : List PV} {h : Heap} {K : PV → Heap → Prop} (hl : args.length = 1) (s : pwp Try.prog [] c18 (fin Try.prog [.tmp 2, .tmp 3, .tmp 4] h K) (slots0 (olds args)) h) : CanP Try.prog 18 args h K :=
  can_of2 (n := 39) mixed Try.func18 rfl (by kernel_rfl) (by rw [hl]; kernel_rfl) rfl (by kernel_rfl) s
/-! ### naskh.naskhref16.Back: function 13 -/
def r13_0 : List PS := [.mk (some 8) (.assign (.const (.int .i64 0))) none,
  .mk (some 9) (.assign (.const (.bool false))) none]
def r13_1 : List PS := [.mk (some 14) (.move (.tmp 0)) none,
  .mk (some 15) (.call ⟨(.value (.func 18)), #[(.tmp 14)], #[3]⟩) none,
  .mk (some 13) (.move (.tmp 15)) none,
  .mk (some 16) (.extract (.tmp 13) 0) none,
  .mk (some 17) (.extract (.tmp 13) 1) none,
  .mk (some 18) (.extract (.tmp 13) 2) none,
  .mk (some 10) (.assign (.tmp 16)) none,
  .mk (some 11) (.assign (.tmp 17)) none,
  .mk (some 12) (.assign (.tmp 18)) none]
def r13_2 : List PS := [.mk (some 19) (.move (.tmp 2)) none,
  .mk (some 20) (.move (.tmp 19)) none,
  .mk (some 21) (.move (.tmp 1)) (some (20, true)),
  .mk (some 22) (.binOp .eql 3 (.tmp 21) (.const (.int .i64 65139)) 3) (some (20, true)),
  .mk (some 23) (.pick (.tmp 20) (.tmp 22) (.const (.bool false))) none,
  .mk (some 24) (.move (.tmp 23)) none,
  .mk (some 25) (.move (.tmp 12)) (some (24, true)),
  .mk (some 26) (.pick (.tmp 24) (.tmp 25) (.const (.bool false))) none,
  .mk (some 27) (.move (.tmp 26)) none,
  .mk (some 28) (.move (.tmp 10)) (some (27, true)),
  .mk (some 29) (.call ⟨(.value (.func 10)), #[(.tmp 28)], #[3]⟩) (some (27, true)),
  .mk (some 30) (.pick (.tmp 27) (.tmp 29) (.const (.bool false))) none,
  .mk (some 31) (.move (.tmp 30)) none,
  .mk (some 32) (.move (.tmp 11)) (some (31, true)),
  .mk (some 33) (.binOp .eql 3 (.tmp 32) (.const (.int .i64 3)) 3) (some (31, true)),
  .mk (some 34) (.move (.tmp 33)) (some (31, true)),
  .mk (some 35) (.move (.tmp 11)) (some (34, false)),
  .mk (some 36) (.binOp .eql 3 (.tmp 35) (.const (.int .i64 4)) 3) (some (34, false)),
  .mk (some 37) (.pick (.tmp 34) (.const (.bool true)) (.tmp 36)) (some (31, true)),
  .mk (some 38) (.pick (.tmp 31) (.tmp 37) (.const (.bool false))) none]
def r13_3 : List PS := [.mk (some 39) (.move (.tmp 10)) none,
  .mk (some 8) (.assign (.tmp 39)) none,
  .mk (some 9) (.assign (.const (.bool true))) none]
def r13_4 : List PS := [.mk (some 40) (.move (.tmp 3)) none,
  .mk (some 41) (.move (.tmp 40)) none,
  .mk (some 42) (.move (.tmp 1)) (some (41, true)),
  .mk (some 43) (.binOp .eql 3 (.tmp 42) (.const (.int .i64 65152)) 3) (some (41, true)),
  .mk (some 44) (.pick (.tmp 41) (.tmp 43) (.const (.bool false))) none,
  .mk (some 45) (.move (.tmp 44)) none,
  .mk (some 46) (.move (.tmp 0)) (some (45, true)),
  .mk (some 47) (.binOp .eql 3 (.tmp 46) (.const (.int .i64 65263)) 3) (some (45, true)),
  .mk (some 48) (.move (.tmp 47)) (some (45, true)),
  .mk (some 49) (.move (.tmp 0)) (some (48, false)),
  .mk (some 50) (.binOp .eql 3 (.tmp 49) (.const (.int .i64 65264)) 3) (some (48, false)),
  .mk (some 51) (.pick (.tmp 48) (.const (.bool true)) (.tmp 50)) (some (45, true)),
  .mk (some 52) (.pick (.tmp 45) (.tmp 51) (.const (.bool false))) none]
def r13_5 : List PS := [.mk (some 8) (.assign (.const (.int .i64 1574))) none,
  .mk (some 9) (.assign (.const (.bool true))) none]
def r13_6 : List PS := [.mk (some 8) (.assign (.const (.int .i64 0))) none,
  .mk (some 9) (.assign (.const (.bool false))) none]
def c13 : PC := (.seq (.reg false r13_0) (.seq (.reg false r13_1) (.seq (.seq (.reg false r13_2) (.cond (.tmp 38) (.seq (.reg false r13_3) .ret) .skip)) (.seq (.seq (.reg false r13_4) (.cond (.tmp 52) (.seq (.reg false r13_5) .ret) .skip)) (.seq (.reg false r13_6) .ret)))))
theorem e13 {args : List PV} {h : Heap} {K : PV → Heap → Prop} (hl : args.length = 4) (s : pwp Try.prog [] c13 (fin Try.prog [.tmp 8, .tmp 9] h K) (slots0 (olds args)) h) : CanP Try.prog 13 args h K :=
  can_of2 (n := 53) mixed Try.func13 rfl (by kernel_rfl) (by rw [hl]; kernel_rfl) rfl (by kernel_rfl) s
/-! ### naskh.naskhlaw16.TailTakes: function 4 -/
def r4_0 : List PS := [.mk (some 8) (.assign (.const (.bool false))) none]
def r4_1 : List PS := [.mk (some 14) (.move (.tmp 0)) none,
  .mk (some 15) (.move (.tmp 1)) none,
  .mk (some 16) (.move (.tmp 2)) none,
  .mk (some 17) (.move (.tmp 3)) none,
  .mk (some 18) (.call ⟨(.value (.func 12)), #[(.tmp 14), (.tmp 15), (.tmp 16), (.tmp 17)], #[3, 3, 4, 4]⟩) none,
  .mk (some 13) (.move (.tmp 18)) none,
  .mk (some 19) (.extract (.tmp 13) 0) none,
  .mk (some 20) (.extract (.tmp 13) 1) none,
  .mk (some 9) (.assign (.tmp 19)) none,
  .mk (some 10) (.assign (.tmp 20)) none]
def r4_2 : List PS := [.mk (some 22) (.move (.tmp 0)) none,
  .mk (some 23) (.move (.tmp 1)) none,
  .mk (some 24) (.move (.tmp 2)) none,
  .mk (some 25) (.move (.tmp 3)) none,
  .mk (some 26) (.call ⟨(.value (.func 13)), #[(.tmp 22), (.tmp 23), (.tmp 24), (.tmp 25)], #[3, 3, 4, 4]⟩) none,
  .mk (some 21) (.move (.tmp 26)) none,
  .mk (some 27) (.extract (.tmp 21) 0) none,
  .mk (some 28) (.extract (.tmp 21) 1) none,
  .mk (some 11) (.assign (.tmp 27)) none,
  .mk (some 12) (.assign (.tmp 28)) none]
def r4_3 : List PS := [.mk (some 29) (.move (.tmp 9)) none,
  .mk (some 30) (.move (.tmp 11)) none,
  .mk (some 31) (.binOp .eql 3 (.tmp 29) (.tmp 30) 3) none,
  .mk (some 32) (.move (.tmp 31)) none,
  .mk (some 33) (.move (.tmp 10)) (some (32, true)),
  .mk (some 34) (.move (.tmp 12)) (some (32, true)),
  .mk (some 35) (.binOp .eql 4 (.tmp 33) (.tmp 34) 4) (some (32, true)),
  .mk (some 36) (.pick (.tmp 32) (.tmp 35) (.const (.bool false))) none,
  .mk (some 37) (.move (.tmp 36)) none,
  .mk (some 38) (.call ⟨(.value (.func 11)), #[], #[]⟩) (some (37, true)),
  .mk (some 39) (.pick (.tmp 37) (.tmp 38) (.const (.bool false))) none,
  .mk (some 8) (.assign (.tmp 39)) none]
def c4 : PC := (.seq (.reg false r4_0) (.seq (.reg false r4_1) (.seq (.reg false r4_2) (.seq (.reg false r4_3) .ret))))
theorem e4 {args : List PV} {h : Heap} {K : PV → Heap → Prop} (hl : args.length = 4) (s : pwp Try.prog [] c4 (fin Try.prog [.tmp 8] h K) (slots0 (olds args)) h) : CanP Try.prog 4 args h K :=
  can_of2 (n := 40) mixed Try.func4 rfl (by kernel_rfl) (by rw [hl]; kernel_rfl) rfl (by kernel_rfl) s
/-! ### naskh.naskhlaw16.TailBack: function 5 -/
def r5_0 : List PS := [.mk (some 8) (.assign (.const (.bool false))) none]
def r5_1 : List PS := [.mk (some 14) (.move (.tmp 0)) none,
  .mk (some 15) (.move (.tmp 1)) none,
  .mk (some 16) (.move (.tmp 2)) none,
  .mk (some 17) (.move (.tmp 3)) none,
  .mk (some 18) (.call ⟨(.value (.func 6)), #[(.tmp 14), (.tmp 15), (.tmp 16), (.tmp 17)], #[3, 3, 4, 4]⟩) none,
  .mk (some 13) (.move (.tmp 18)) none,
  .mk (some 19) (.extract (.tmp 13) 0) none,
  .mk (some 20) (.extract (.tmp 13) 1) none,
  .mk (some 9) (.assign (.tmp 19)) none,
  .mk (some 10) (.assign (.tmp 20)) none]
def r5_2 : List PS := [.mk (some 21) (.move (.tmp 10)) none,
  .mk (some 22) (.unOp .not 4 (.tmp 21)) none]
def r5_3 : List PS := [.mk (some 23) (.move (.tmp 9)) none,
  .mk (some 24) (.call ⟨(.builtin .len), #[(.tmp 23)], #[22]⟩) none,
  .mk (some 25) (.binOp .eql 3 (.tmp 24) (.const (.int .i64 0)) 3) none,
  .mk (some 26) (.move (.tmp 25)) none,
  .mk (some 27) (.call ⟨(.value (.func 11)), #[], #[]⟩) (some (26, true)),
  .mk (some 28) (.pick (.tmp 26) (.tmp 27) (.const (.bool false))) none,
  .mk (some 8) (.assign (.tmp 28)) none]
def r5_4 : List PS := [.mk (some 29) (.move (.tmp 9)) none,
  .mk (some 30) (.call ⟨(.builtin .len), #[(.tmp 29)], #[22]⟩) none,
  .mk (some 31) (.binOp .neq 3 (.tmp 30) (.const (.int .i64 2)) 3) none]
def r5_5 : List PS := [.mk (some 8) (.assign (.const (.bool false))) none]
def r5_6 : List PS := [.mk (some 33) (.move (.tmp 9)) none,
  .mk (some 34) (.indexAddr 22 (.tmp 33) (.const (.int .i64 0))) none,
  .mk (some 35) (.load 3 (.tmp 34)) none,
  .mk (some 36) (.move (.tmp 9)) none,
  .mk (some 37) (.indexAddr 22 (.tmp 36) (.const (.int .i64 1))) none,
  .mk (some 38) (.load 3 (.tmp 37)) none,
  .mk (some 39) (.move (.tmp 2)) none,
  .mk (some 40) (.move (.tmp 3)) none,
  .mk (some 41) (.call ⟨(.value (.func 12)), #[(.tmp 35), (.tmp 38), (.tmp 39), (.tmp 40)], #[3, 3, 4, 4]⟩) none,
  .mk (some 32) (.move (.tmp 41)) none,
  .mk (some 42) (.extract (.tmp 32) 0) none,
  .mk (some 43) (.extract (.tmp 32) 1) none,
  .mk (some 11) (.assign (.tmp 42)) none,
  .mk (some 12) (.assign (.tmp 43)) none]
def r5_7 : List PS := [.mk (some 44) (.move (.tmp 12)) none,
  .mk (some 45) (.move (.tmp 44)) none,
  .mk (some 46) (.move (.tmp 11)) (some (45, true)),
  .mk (some 47) (.move (.tmp 0)) (some (45, true)),
  .mk (some 48) (.binOp .eql 3 (.tmp 46) (.tmp 47) 3) (some (45, true)),
  .mk (some 49) (.pick (.tmp 45) (.tmp 48) (.const (.bool false))) none,
  .mk (some 50) (.move (.tmp 49)) none,
  .mk (some 51) (.call ⟨(.value (.func 11)), #[], #[]⟩) (some (50, true)),
  .mk (some 52) (.pick (.tmp 50) (.tmp 51) (.const (.bool false))) none,
  .mk (some 8) (.assign (.tmp 52)) none]
def c5 : PC := (.seq (.reg false r5_0) (.seq (.reg false r5_1) (.seq (.seq (.reg false r5_2) (.cond (.tmp 22) (.seq (.reg false r5_3) .ret) .skip)) (.seq (.seq (.reg false r5_4) (.cond (.tmp 31) (.seq (.reg false r5_5) .ret) .skip)) (.seq (.reg true r5_6) (.seq (.reg false r5_7) .ret))))))
theorem e5 {args : List PV} {h : Heap} {K : PV → Heap → Prop} (hl : args.length = 4) (s : pwp Try.prog [] c5 (fin Try.prog [.tmp 8] h K) (slots0 (olds args)) h) : CanP Try.prog 5 args h K :=
  can_of2 (n := 53) mixed Try.func5 rfl (by kernel_rfl) (by rw [hl]; kernel_rfl) rfl (by kernel_rfl) s
end Go.Proofs.Yteobpmnbajnokaa
