/-
  The functions that the statements of this seat reach, told in short, and facts on their types. Printed by this project's own program.
  Conditions: none.
-/
import Derived.Test.YtghkdmbcndlimaaPmO
import Derived.Test.YtghkdmbcndlimaaProg
import Derived.KernelRfl
namespace Go.Proofs.Ytghkdmbcndlimaa
open Go.Pm
set_option maxRecDepth 100000
set_option linter.unusedVariables false
theorem mixed : Try.prog.follows .mixedOrders = true := by kernel_rfl
theorem tag3 : tag Try.prog 3 = some false := by kernel_rfl
theorem tsz3 : tsz Try.prog 3 = some 1 := by kernel_rfl
theorem und3 : und Try.prog 3 = true := by kernel_rfl
theorem ik3 : ik Try.prog 3 = some .i64 := by kernel_rfl
theorem kd3 : kd Try.prog 3 = none := by kernel_rfl
theorem esz3 : esz Try.prog 3 = none := by kernel_rfl
theorem zc3 : zc Try.prog 3 = some [.int .i64 0] := by kernel_rfl
theorem ars3 : ars Try.prog 3 = none := by kernel_rfl
theorem tag4 : tag Try.prog 4 = some false := by kernel_rfl
theorem tsz4 : tsz Try.prog 4 = some 1 := by kernel_rfl
theorem und4 : und Try.prog 4 = true := by kernel_rfl
theorem ik4 : ik Try.prog 4 = none := by kernel_rfl
theorem kd4 : kd Try.prog 4 = some 3 := by kernel_rfl
theorem esz4 : esz Try.prog 4 = none := by kernel_rfl
theorem zc4 : zc Try.prog 4 = some [.bool false] := by kernel_rfl
theorem ars4 : ars Try.prog 4 = none := by kernel_rfl
theorem tag5 : tag Try.prog 5 = some false := by kernel_rfl
theorem tsz5 : tsz Try.prog 5 = some 1 := by kernel_rfl
theorem und5 : und Try.prog 5 = true := by kernel_rfl
theorem ik5 : ik Try.prog 5 = some .u8 := by kernel_rfl
theorem kd5 : kd Try.prog 5 = none := by kernel_rfl
theorem esz5 : esz Try.prog 5 = none := by kernel_rfl
theorem zc5 : zc Try.prog 5 = some [.int .u8 0] := by kernel_rfl
theorem ars5 : ars Try.prog 5 = none := by kernel_rfl
theorem tag9 : tag Try.prog 9 = some false := by kernel_rfl
theorem tsz9 : tsz Try.prog 9 = some 1 := by kernel_rfl
theorem und9 : und Try.prog 9 = true := by kernel_rfl
theorem ik9 : ik Try.prog 9 = none := by kernel_rfl
theorem kd9 : kd Try.prog 9 = some 0 := by kernel_rfl
theorem esz9 : esz Try.prog 9 = none := by kernel_rfl
theorem zc9 : zc Try.prog 9 = some [.str ⟨#[]⟩] := by kernel_rfl
theorem ars9 : ars Try.prog 9 = none := by kernel_rfl
theorem tag22 : tag Try.prog 22 = some false := by kernel_rfl
theorem tsz22 : tsz Try.prog 22 = some 1 := by kernel_rfl
theorem und22 : und Try.prog 22 = true := by kernel_rfl
theorem ik22 : ik Try.prog 22 = none := by kernel_rfl
theorem kd22 : kd Try.prog 22 = some 1 := by kernel_rfl
theorem esz22 : esz Try.prog 22 = some 2 := by kernel_rfl
theorem elt22 : elt Try.prog 22 = some 36 := by kernel_rfl
theorem zc22 : zc Try.prog 22 = some [.nils] := by kernel_rfl
theorem ars22 : ars Try.prog 22 = none := by kernel_rfl
theorem eli22 : eli Try.prog 22 = some (2, 40, [.str ⟨#[]⟩, .nils]) := by kernel_rfl
theorem tag24 : tag Try.prog 24 = some false := by kernel_rfl
theorem tsz24 : tsz Try.prog 24 = some 1 := by kernel_rfl
theorem und24 : und Try.prog 24 = true := by kernel_rfl
theorem ik24 : ik Try.prog 24 = none := by kernel_rfl
theorem kd24 : kd Try.prog 24 = some 1 := by kernel_rfl
theorem esz24 : esz Try.prog 24 = some 1 := by kernel_rfl
theorem elt24 : elt Try.prog 24 = some 3 := by kernel_rfl
theorem zc24 : zc Try.prog 24 = some [.nils] := by kernel_rfl
theorem ars24 : ars Try.prog 24 = none := by kernel_rfl
theorem eli24 : eli Try.prog 24 = some (1, 8, [.int .i64 0]) := by kernel_rfl
theorem tag36 : tag Try.prog 36 = some true := by kernel_rfl
theorem tsz36 : tsz Try.prog 36 = some 2 := by kernel_rfl
theorem und36 : und Try.prog 36 = true := by kernel_rfl
theorem ik36 : ik Try.prog 36 = none := by kernel_rfl
theorem kd36 : kd Try.prog 36 = none := by kernel_rfl
theorem esz36 : esz Try.prog 36 = none := by kernel_rfl
theorem zc36 : zc Try.prog 36 = some [.str ⟨#[]⟩, .nils] := by kernel_rfl
theorem ars36 : ars Try.prog 36 = none := by kernel_rfl
theorem fld36_0 : fld Try.prog 36 0 = some (0, false, 1) := by kernel_rfl
theorem fld36_1 : fld Try.prog 36 1 = some (1, false, 1) := by kernel_rfl
theorem plc36 : plc Try.prog 36 = some fun i => [(0, 1), (1, 1)][i]? := by kernel_rfl
theorem tag38 : tag Try.prog 38 = some false := by kernel_rfl
theorem tsz38 : tsz Try.prog 38 = some 1 := by kernel_rfl
theorem und38 : und Try.prog 38 = true := by kernel_rfl
theorem ik38 : ik Try.prog 38 = none := by kernel_rfl
theorem kd38 : kd Try.prog 38 = some 1 := by kernel_rfl
theorem esz38 : esz Try.prog 38 = some 2 := by kernel_rfl
theorem elt38 : elt Try.prog 38 = some 36 := by kernel_rfl
theorem zc38 : zc Try.prog 38 = some [.nils] := by kernel_rfl
theorem ars38 : ars Try.prog 38 = none := by kernel_rfl
theorem eli38 : eli Try.prog 38 = some (2, 40, [.str ⟨#[]⟩, .nils]) := by kernel_rfl
theorem tag43 : tag Try.prog 43 = some false := by kernel_rfl
theorem tsz43 : tsz Try.prog 43 = some 1 := by kernel_rfl
theorem und43 : und Try.prog 43 = true := by kernel_rfl
theorem ik43 : ik Try.prog 43 = none := by kernel_rfl
theorem kd43 : kd Try.prog 43 = none := by kernel_rfl
theorem esz43 : esz Try.prog 43 = none := by kernel_rfl
theorem zc43 : zc Try.prog 43 = some [.nilf] := by kernel_rfl
theorem ars43 : ars Try.prog 43 = none := by kernel_rfl
theorem ft : (tag Try.prog 3 = some false) ∧
    (tsz Try.prog 3 = some 1) ∧
    (und Try.prog 3 = true) ∧
    (ik Try.prog 3 = some .i64) ∧
    (kd Try.prog 3 = none) ∧
    (esz Try.prog 3 = none) ∧
    (zc Try.prog 3 = some [.int .i64 0]) ∧
    (ars Try.prog 3 = none) ∧
    (tag Try.prog 4 = some false) ∧
    (tsz Try.prog 4 = some 1) ∧
    (und Try.prog 4 = true) ∧
    (ik Try.prog 4 = none) ∧
    (kd Try.prog 4 = some 3) ∧
    (esz Try.prog 4 = none) ∧
    (zc Try.prog 4 = some [.bool false]) ∧
    (ars Try.prog 4 = none) ∧
    (tag Try.prog 5 = some false) ∧
    (tsz Try.prog 5 = some 1) ∧
    (und Try.prog 5 = true) ∧
    (ik Try.prog 5 = some .u8) ∧
    (kd Try.prog 5 = none) ∧
    (esz Try.prog 5 = none) ∧
    (zc Try.prog 5 = some [.int .u8 0]) ∧
    (ars Try.prog 5 = none) ∧
    (tag Try.prog 9 = some false) ∧
    (tsz Try.prog 9 = some 1) ∧
    (und Try.prog 9 = true) ∧
    (ik Try.prog 9 = none) ∧
    (kd Try.prog 9 = some 0) ∧
    (esz Try.prog 9 = none) ∧
    (zc Try.prog 9 = some [.str ⟨#[]⟩]) ∧
    (ars Try.prog 9 = none) ∧
    (tag Try.prog 22 = some false) ∧
    (tsz Try.prog 22 = some 1) ∧
    (und Try.prog 22 = true) ∧
    (ik Try.prog 22 = none) ∧
    (kd Try.prog 22 = some 1) ∧
    (esz Try.prog 22 = some 2) ∧
    (elt Try.prog 22 = some 36) ∧
    (zc Try.prog 22 = some [.nils]) ∧
    (ars Try.prog 22 = none) ∧
    (eli Try.prog 22 = some (2, 40, [.str ⟨#[]⟩, .nils])) ∧
    (tag Try.prog 24 = some false) ∧
    (tsz Try.prog 24 = some 1) ∧
    (und Try.prog 24 = true) ∧
    (ik Try.prog 24 = none) ∧
    (kd Try.prog 24 = some 1) ∧
    (esz Try.prog 24 = some 1) ∧
    (elt Try.prog 24 = some 3) ∧
    (zc Try.prog 24 = some [.nils]) ∧
    (ars Try.prog 24 = none) ∧
    (eli Try.prog 24 = some (1, 8, [.int .i64 0])) ∧
    (tag Try.prog 36 = some true) ∧
    (tsz Try.prog 36 = some 2) ∧
    (und Try.prog 36 = true) ∧
    (ik Try.prog 36 = none) ∧
    (kd Try.prog 36 = none) ∧
    (esz Try.prog 36 = none) ∧
    (zc Try.prog 36 = some [.str ⟨#[]⟩, .nils]) ∧
    (ars Try.prog 36 = none) ∧
    (fld Try.prog 36 0 = some (0, false, 1)) ∧
    (fld Try.prog 36 1 = some (1, false, 1)) ∧
    (plc Try.prog 36 = some fun i => [(0, 1), (1, 1)][i]?) ∧
    (tag Try.prog 38 = some false) ∧
    (tsz Try.prog 38 = some 1) ∧
    (und Try.prog 38 = true) ∧
    (ik Try.prog 38 = none) ∧
    (kd Try.prog 38 = some 1) ∧
    (esz Try.prog 38 = some 2) ∧
    (elt Try.prog 38 = some 36) ∧
    (zc Try.prog 38 = some [.nils]) ∧
    (ars Try.prog 38 = none) ∧
    (eli Try.prog 38 = some (2, 40, [.str ⟨#[]⟩, .nils])) ∧
    (tag Try.prog 43 = some false) ∧
    (tsz Try.prog 43 = some 1) ∧
    (und Try.prog 43 = true) ∧
    (ik Try.prog 43 = none) ∧
    (kd Try.prog 43 = none) ∧
    (esz Try.prog 43 = none) ∧
    (zc Try.prog 43 = some [.nilf]) ∧
    (ars Try.prog 43 = none) :=
  ⟨tag3, tsz3, und3, ik3, kd3, esz3, zc3, ars3, tag4, tsz4, und4, ik4, kd4, esz4, zc4, ars4, tag5, tsz5, und5, ik5, kd5, esz5, zc5, ars5, tag9, tsz9, und9, ik9, kd9, esz9, zc9, ars9, tag22, tsz22, und22, ik22, kd22, esz22, elt22, zc22, ars22, eli22, tag24, tsz24, und24, ik24, kd24, esz24, elt24, zc24, ars24, eli24, tag36, tsz36, und36, ik36, kd36, esz36, zc36, ars36, fld36_0, fld36_1, plc36, tag38, tsz38, und38, ik38, kd38, esz38, elt38, zc38, ars38, eli38, tag43, tsz43, und43, ik43, kd43, esz43, zc43, ars43⟩
/-! ### naskh.api.Groups: function 6 -/
def r6_0 : List PS := [.mk (some 0) (.assign (.const (.slice none 0 0))) none]
def r6_1 : List PS := [.mk (some 1) (.buildSlice 24 8 #[(0, (.const (.int .i64 1570))), (1, (.const (.int .i64 1571))), (2, (.const (.int .i64 1573))), (3, (.const (.int .i64 1575))), (4, (.const (.int .i64 1649))), (5, (.const (.int .i64 1650))), (6, (.const (.int .i64 1651))), (7, (.const (.int .i64 1653)))]) none,
  .mk (some 2) (.build 36 #[(0, (.const (.string ⟨#[65, 76, 69, 70]⟩))), (1, (.tmp 1))]) none,
  .mk (some 3) (.buildSlice 24 13 #[(0, (.const (.int .i64 1608))), (1, (.const (.int .i64 1572))), (2, (.const (.int .i64 1654))), (3, (.const (.int .i64 1655))), (4, (.const (.int .i64 1732))), (5, (.const (.int .i64 1733))), (6, (.const (.int .i64 1734))), (7, (.const (.int .i64 1735))), (8, (.const (.int .i64 1736))), (9, (.const (.int .i64 1737))), (10, (.const (.int .i64 1738))), (11, (.const (.int .i64 1739))), (12, (.const (.int .i64 1743)))]) none,
  .mk (some 4) (.build 36 #[(0, (.const (.string ⟨#[87, 65, 87]⟩))), (1, (.tmp 3))]) none,
  .mk (some 5) (.buildSlice 24 8 #[(0, (.const (.int .i64 1610))), (1, (.const (.int .i64 1568))), (2, (.const (.int .i64 1574))), (3, (.const (.int .i64 1609))), (4, (.const (.int .i64 1656))), (5, (.const (.int .i64 1742))), (6, (.const (.int .i64 1744))), (7, (.const (.int .i64 1745)))]) none,
  .mk (some 6) (.build 36 #[(0, (.const (.string ⟨#[89, 69, 72]⟩))), (1, (.tmp 5))]) none,
  .mk (some 7) (.buildSlice 24 12 #[(0, (.const (.int .i64 1576))), (1, (.const (.int .i64 1578))), (2, (.const (.int .i64 1579))), (3, (.const (.int .i64 1646))), (4, (.const (.int .i64 1657))), (5, (.const (.int .i64 1658))), (6, (.const (.int .i64 1659))), (7, (.const (.int .i64 1660))), (8, (.const (.int .i64 1661))), (9, (.const (.int .i64 1662))), (10, (.const (.int .i64 1663))), (11, (.const (.int .i64 1664)))]) none,
  .mk (some 8) (.build 36 #[(0, (.const (.string ⟨#[66, 69, 72]⟩))), (1, (.tmp 7))]) none,
  .mk (some 9) (.buildSlice 24 10 #[(0, (.const (.int .i64 1581))), (1, (.const (.int .i64 1580))), (2, (.const (.int .i64 1582))), (3, (.const (.int .i64 1665))), (4, (.const (.int .i64 1666))), (5, (.const (.int .i64 1667))), (6, (.const (.int .i64 1668))), (7, (.const (.int .i64 1669))), (8, (.const (.int .i64 1670))), (9, (.const (.int .i64 1671)))]) none,
  .mk (some 10) (.build 36 #[(0, (.const (.string ⟨#[72, 65, 72]⟩))), (1, (.tmp 9))]) none,
  .mk (some 11) (.buildSlice 24 12 #[(0, (.const (.int .i64 1583))), (1, (.const (.int .i64 1584))), (2, (.const (.int .i64 1672))), (3, (.const (.int .i64 1673))), (4, (.const (.int .i64 1674))), (5, (.const (.int .i64 1675))), (6, (.const (.int .i64 1676))), (7, (.const (.int .i64 1677))), (8, (.const (.int .i64 1678))), (9, (.const (.int .i64 1679))), (10, (.const (.int .i64 1680))), (11, (.const (.int .i64 1774)))]) none,
  .mk (some 12) (.build 36 #[(0, (.const (.string ⟨#[68, 65, 76]⟩))), (1, (.tmp 11))]) none,
  .mk (some 13) (.buildSlice 24 12 #[(0, (.const (.int .i64 1585))), (1, (.const (.int .i64 1586))), (2, (.const (.int .i64 1681))), (3, (.const (.int .i64 1682))), (4, (.const (.int .i64 1683))), (5, (.const (.int .i64 1684))), (6, (.const (.int .i64 1685))), (7, (.const (.int .i64 1686))), (8, (.const (.int .i64 1687))), (9, (.const (.int .i64 1688))), (10, (.const (.int .i64 1689))), (11, (.const (.int .i64 1775)))]) none,
  .mk (some 14) (.build 36 #[(0, (.const (.string ⟨#[82, 69, 72]⟩))), (1, (.tmp 13))]) none,
  .mk (some 15) (.buildSlice 24 6 #[(0, (.const (.int .i64 1587))), (1, (.const (.int .i64 1588))), (2, (.const (.int .i64 1690))), (3, (.const (.int .i64 1691))), (4, (.const (.int .i64 1692))), (5, (.const (.int .i64 1786)))]) none,
  .mk (some 16) (.build 36 #[(0, (.const (.string ⟨#[83, 69, 69, 78]⟩))), (1, (.tmp 15))]) none,
  .mk (some 17) (.buildSlice 24 5 #[(0, (.const (.int .i64 1589))), (1, (.const (.int .i64 1590))), (2, (.const (.int .i64 1693))), (3, (.const (.int .i64 1694))), (4, (.const (.int .i64 1787)))]) none,
  .mk (some 18) (.build 36 #[(0, (.const (.string ⟨#[83, 65, 68]⟩))), (1, (.tmp 17))]) none,
  .mk (some 19) (.buildSlice 24 3 #[(0, (.const (.int .i64 1591))), (1, (.const (.int .i64 1592))), (2, (.const (.int .i64 1695)))]) none,
  .mk (some 20) (.build 36 #[(0, (.const (.string ⟨#[84, 65, 72]⟩))), (1, (.tmp 19))]) none,
  .mk (some 21) (.buildSlice 24 4 #[(0, (.const (.int .i64 1593))), (1, (.const (.int .i64 1594))), (2, (.const (.int .i64 1696))), (3, (.const (.int .i64 1788)))]) none,
  .mk (some 22) (.build 36 #[(0, (.const (.string ⟨#[65, 73, 78]⟩))), (1, (.tmp 21))]) none,
  .mk (some 23) (.buildSlice 24 7 #[(0, (.const (.int .i64 1601))), (1, (.const (.int .i64 1697))), (2, (.const (.int .i64 1698))), (3, (.const (.int .i64 1699))), (4, (.const (.int .i64 1700))), (5, (.const (.int .i64 1701))), (6, (.const (.int .i64 1702)))]) none,
  .mk (some 24) (.build 36 #[(0, (.const (.string ⟨#[70, 69, 72]⟩))), (1, (.tmp 23))]) none,
  .mk (some 25) (.buildSlice 24 4 #[(0, (.const (.int .i64 1602))), (1, (.const (.int .i64 1647))), (2, (.const (.int .i64 1703))), (3, (.const (.int .i64 1704)))]) none,
  .mk (some 26) (.build 36 #[(0, (.const (.string ⟨#[81, 65, 70]⟩))), (1, (.tmp 25))]) none,
  .mk (some 27) (.buildSlice 24 4 #[(0, (.const (.int .i64 1603))), (1, (.const (.int .i64 1708))), (2, (.const (.int .i64 1709))), (3, (.const (.int .i64 1710)))]) none,
  .mk (some 28) (.build 36 #[(0, (.const (.string ⟨#[75, 65, 70]⟩))), (1, (.tmp 27))]) none,
  .mk (some 29) (.buildSlice 24 8 #[(0, (.const (.int .i64 1705))), (1, (.const (.int .i64 1707))), (2, (.const (.int .i64 1711))), (3, (.const (.int .i64 1712))), (4, (.const (.int .i64 1713))), (5, (.const (.int .i64 1714))), (6, (.const (.int .i64 1715))), (7, (.const (.int .i64 1716)))]) none,
  .mk (some 30) (.build 36 #[(0, (.const (.string ⟨#[71, 65, 70]⟩))), (1, (.tmp 29))]) none,
  .mk (some 31) (.buildSlice 24 5 #[(0, (.const (.int .i64 1604))), (1, (.const (.int .i64 1717))), (2, (.const (.int .i64 1718))), (3, (.const (.int .i64 1719))), (4, (.const (.int .i64 1720)))]) none,
  .mk (some 32) (.build 36 #[(0, (.const (.string ⟨#[76, 65, 77]⟩))), (1, (.tmp 31))]) none,
  .mk (some 33) (.buildSlice 24 1 #[(0, (.const (.int .i64 1605)))]) none,
  .mk (some 34) (.build 36 #[(0, (.const (.string ⟨#[77, 69, 69, 77]⟩))), (1, (.tmp 33))]) none,
  .mk (some 35) (.buildSlice 24 6 #[(0, (.const (.int .i64 1606))), (1, (.const (.int .i64 1721))), (2, (.const (.int .i64 1722))), (3, (.const (.int .i64 1723))), (4, (.const (.int .i64 1724))), (5, (.const (.int .i64 1725)))]) none,
  .mk (some 36) (.build 36 #[(0, (.const (.string ⟨#[78, 79, 79, 78]⟩))), (1, (.tmp 35))]) none,
  .mk (some 37) (.buildSlice 24 2 #[(0, (.const (.int .i64 1607))), (1, (.const (.int .i64 1749)))]) none,
  .mk (some 38) (.build 36 #[(0, (.const (.string ⟨#[72, 69, 72]⟩))), (1, (.tmp 37))]) none,
  .mk (some 39) (.buildSlice 24 2 #[(0, (.const (.int .i64 1577))), (1, (.const (.int .i64 1731)))]) none,
  .mk (some 40) (.build 36 #[(0, (.const (.string ⟨#[84, 69, 72, 32, 77, 65, 82, 66, 85, 84, 65]⟩))), (1, (.tmp 39))]) none,
  .mk (some 41) (.buildSlice 24 4 #[(0, (.const (.int .i64 1740))), (1, (.const (.int .i64 1597))), (2, (.const (.int .i64 1598))), (3, (.const (.int .i64 1599)))]) none,
  .mk (some 42) (.build 36 #[(0, (.const (.string ⟨#[70, 65, 82, 83, 73, 32, 89, 69, 72]⟩))), (1, (.tmp 41))]) none,
  .mk (some 43) (.buildSlice 24 2 #[(0, (.const (.int .i64 1729))), (1, (.const (.int .i64 1730)))]) none,
  .mk (some 44) (.build 36 #[(0, (.const (.string ⟨#[72, 69, 72, 32, 71, 79, 65, 76]⟩))), (1, (.tmp 43))]) none,
  .mk (some 45) (.buildSlice 24 2 #[(0, (.const (.int .i64 1726))), (1, (.const (.int .i64 1791)))]) none,
  .mk (some 46) (.build 36 #[(0, (.const (.string ⟨#[75, 78, 79, 84, 84, 69, 68, 32, 72, 69, 72]⟩))), (1, (.tmp 45))]) none,
  .mk (some 47) (.buildSlice 24 2 #[(0, (.const (.int .i64 1746))), (1, (.const (.int .i64 1747)))]) none,
  .mk (some 48) (.build 36 #[(0, (.const (.string ⟨#[89, 69, 72, 32, 66, 65, 82, 82, 69, 69]⟩))), (1, (.tmp 47))]) none,
  .mk (some 49) (.buildSlice 22 24 #[(0, (.tmp 2)), (1, (.tmp 4)), (2, (.tmp 6)), (3, (.tmp 8)), (4, (.tmp 10)), (5, (.tmp 12)), (6, (.tmp 14)), (7, (.tmp 16)), (8, (.tmp 18)), (9, (.tmp 20)), (10, (.tmp 22)), (11, (.tmp 24)), (12, (.tmp 26)), (13, (.tmp 28)), (14, (.tmp 30)), (15, (.tmp 32)), (16, (.tmp 34)), (17, (.tmp 36)), (18, (.tmp 38)), (19, (.tmp 40)), (20, (.tmp 42)), (21, (.tmp 44)), (22, (.tmp 46)), (23, (.tmp 48))]) none,
  .mk (some 0) (.assign (.tmp 49)) none]
def c6 : PC := (.seq (.reg false r6_0) (.seq (.reg false r6_1) .ret))
theorem e6 {args : List PV} {h : Heap} {K : PV → Heap → Prop} (hl : args.length = 0) (s : pwp Try.prog [] c6 (fin Try.prog [.tmp 0] h K) (slots0 (olds args)) h) : CanP Try.prog 6 args h K :=
  can_of2 (n := 50) mixed Try.func6 rfl (by kernel_rfl) (by rw [hl]; kernel_rfl) rfl (by kernel_rfl) s
/-! ### naskh.group.all: function 19 -/
def r19_0 : List PS := [.mk (some 0) (.assign (.const (.slice none 0 0))) none]
def r19_1 : List PS := [.mk (some 1) (.call ⟨(.value (.func 6)), #[], #[]⟩) none,
  .mk (some 0) (.assign (.tmp 1)) none]
def c19 : PC := (.seq (.reg false r19_0) (.seq (.reg false r19_1) .ret))
theorem e19 {args : List PV} {h : Heap} {K : PV → Heap → Prop} (hl : args.length = 0) (s : pwp Try.prog [] c19 (fin Try.prog [.tmp 0] h K) (slots0 (olds args)) h) : CanP Try.prog 19 args h K :=
  can_of2 (n := 2) mixed Try.func19 rfl (by kernel_rfl) (by rw [hl]; kernel_rfl) rfl (by kernel_rfl) s
/-! ### (naskh.group.groups).at: function 20 -/
def r20_0 : List PS := [.mk (some 4) (.alloc 36) none,
  .mk (some 5) (.assign (.const (.bool false))) none]
def r20_1 : List PS := [.mk (some 6) (.move (.tmp 1)) none,
  .mk (some 7) (.binOp .lss 3 (.tmp 6) (.const (.int .i64 0)) 3) none,
  .mk (some 8) (.move (.tmp 7)) none,
  .mk (some 9) (.move (.tmp 1)) (some (8, false)),
  .mk (some 10) (.move (.tmp 0)) (some (8, false)),
  .mk (some 11) (.call ⟨(.builtin .len), #[(.tmp 10)], #[38]⟩) (some (8, false)),
  .mk (some 12) (.binOp .geq 3 (.tmp 9) (.tmp 11) 3) (some (8, false)),
  .mk (some 13) (.pick (.tmp 8) (.const (.bool true)) (.tmp 12)) none]
def r20_2 : List PS := [.mk (some 14) (.build 36 #[]) none,
  .mk none (.store 36 (.tmp 4) (.tmp 14)) none,
  .mk (some 5) (.assign (.const (.bool false))) none]
def r20_3 : List PS := [.mk (some 15) (.move (.tmp 0)) none,
  .mk (some 16) (.move (.tmp 1)) none,
  .mk (some 17) (.indexAddr 38 (.tmp 15) (.tmp 16)) none,
  .mk (some 18) (.load 36 (.tmp 17)) none,
  .mk none (.store 36 (.tmp 4) (.tmp 18)) none,
  .mk (some 5) (.assign (.const (.bool true))) none]
def c20 : PC := (.seq (.reg false r20_0) (.seq (.seq (.reg false r20_1) (.cond (.tmp 13) (.seq (.reg false r20_2) .ret) .skip)) (.seq (.reg false r20_3) .ret)))
theorem e20 {args : List PV} {h : Heap} {K : PV → Heap → Prop} (hl : args.length = 2) (s : pwp Try.prog [4] c20 (fin Try.prog [.cell 4 36, .tmp 5] h K) (slots0 (olds args)) h) : CanP Try.prog 20 args h K :=
  can_of2 (n := 19) mixed Try.func20 rfl (by kernel_rfl) (by rw [hl]; kernel_rfl) rfl (by kernel_rfl) s
/-! ### slices.Clone[[]int,int]: function 21 -/
def r21_0 : List PS := [.mk (some 2) (.assign (.const (.slice none 0 0))) none]
def r21_1 : List PS := [.mk (some 3) (.move (.tmp 0)) none,
  .mk (some 4) (.binOp .eql 24 (.tmp 3) (.const (.slice none 0 0)) 24) none]
def r21_2 : List PS := [.mk (some 2) (.assign (.const (.slice none 0 0))) none]
def r21_3 : List PS := [.mk (some 5) (.buildSlice 24 0 #[]) none,
  .mk (some 6) (.move (.tmp 0)) none,
  .mk (some 7) (.call ⟨(.builtin .append), #[(.tmp 5), (.tmp 6)], #[24, 24]⟩) none,
  .mk (some 2) (.assign (.tmp 7)) none]
def c21 : PC := (.seq (.reg false r21_0) (.seq (.seq (.reg false r21_1) (.cond (.tmp 4) (.seq (.reg false r21_2) .ret) .skip)) (.seq (.reg false r21_3) .ret)))
theorem e21 {args : List PV} {h : Heap} {K : PV → Heap → Prop} (hl : args.length = 1) (s : pwp Try.prog [5] c21 (fin Try.prog [.tmp 2] h K) (slots0 (olds args)) h) : CanP Try.prog 21 args h K :=
  can_of2 (n := 8) mixed Try.func21 rfl (by kernel_rfl) (by rw [hl]; kernel_rfl) rfl (by kernel_rfl) s
/-! ### naskh.group.Members: function 7 -/
def r7_0 : List PS := [.mk (some 2) (.assign (.const (.slice none 0 0))) none]
def r7_1 : List PS := [.mk (some 6) (.call ⟨(.value (.func 19)), #[], #[]⟩) none,
  .mk (some 7) (.move (.tmp 0)) none,
  .mk (some 8) (.call ⟨(.value (.func 20)), #[(.tmp 6), (.tmp 7)], #[38, 3]⟩) none,
  .mk (some 5) (.move (.tmp 8)) none,
  .mk (some 9) (.extract (.tmp 5) 0) none,
  .mk (some 10) (.extract (.tmp 5) 1) none,
  .mk (some 3) (.alloc 36) none,
  .mk none (.store 36 (.tmp 3) (.tmp 9)) none,
  .frz 3,
  .mk (some 4) (.assign (.tmp 10)) none]
def r7_2 : List PS := [.mk (some 11) (.fieldAddr 36 (.tmp 3) 1) none,
  .mk (some 12) (.load 24 (.tmp 11)) none,
  .mk (some 13) (.call ⟨(.value (.func 21)), #[(.tmp 12)], #[24]⟩) none,
  .mk (some 2) (.assign (.tmp 13)) none]
def c7 : PC := (.seq (.reg false r7_0) (.seq (.reg false r7_1) (.seq (.reg false r7_2) .ret)))
theorem e7 {args : List PV} {h : Heap} {K : PV → Heap → Prop} (hl : args.length = 1) (s : pwp Try.prog [3] c7 (fin Try.prog [.tmp 2] h K) (slots0 (olds args)) h) : CanP Try.prog 7 args h K :=
  can_of2 (n := 14) mixed Try.func7 rfl (by kernel_rfl) (by rw [hl]; kernel_rfl) rfl (by kernel_rfl) s
/-! ### slices.IndexFunc[naskh.group.groups,naskh.api.Group]: function 23 -/
def r23_0 : List PS := [.mk (some 4) (.assign (.const (.int .i64 0))) none]
def r23_1 : List PS := [.mk (some 6) (.move (.tmp 0)) none,
  .mk (some 7) (.call ⟨(.builtin .len), #[(.tmp 6)], #[38]⟩) none,
  .mk (some 8) (.move (.const (.int .i64 0))) none]
def r23_2 : List PS := [.mk (some 9) (.binOp .lss 3 (.tmp 8) (.tmp 7) 3) none]
def r23_3 : List PS := [.mk (some 10) (.move (.tmp 8)) none,
  .mk (some 5) (.assign (.tmp 10)) none]
def r23_4 : List PS := [.mk (some 11) (.move (.tmp 1)) none,
  .mk (some 12) (.move (.tmp 0)) none,
  .mk (some 13) (.move (.tmp 5)) none,
  .mk (some 14) (.indexAddr 38 (.tmp 12) (.tmp 13)) none,
  .mk (some 15) (.load 36 (.tmp 14)) none,
  .mk (some 16) (.call ⟨(.value (.tmp 11)), #[(.tmp 15)], #[36]⟩) none]
def r23_5 : List PS := [.mk (some 17) (.move (.tmp 5)) none,
  .mk (some 4) (.assign (.tmp 17)) none]
def r23_6 : List PS := [.mk (some 18) (.binOp .add 3 (.tmp 8) (.const (.int .i64 1)) 3) none,
  .mk (some 8) (.move (.tmp 18)) none]
def r23_7 : List PS := [.mk (some 4) (.assign (.const (.int .i64 (-1)))) none]
def c23 : PC := (.seq (.reg false r23_0) (.seq (.seq (.reg false r23_1) (.block 0 (.loop (.seq (.reg false r23_2) (.seq (.cond (.tmp 9) .skip (.exit 0)) (.seq (.block 1 (.seq (.reg false r23_3) (.seq (.reg false r23_4) (.cond (.tmp 16) (.seq (.reg false r23_5) .ret) .skip)))) (.reg false r23_6))))))) (.seq (.reg false r23_7) .ret)))
theorem e23 {args : List PV} {h : Heap} {K : PV → Heap → Prop} (hl : args.length = 2) (s : pwp Try.prog [] c23 (fin Try.prog [.tmp 4] h K) (slots0 (olds args)) h) : CanP Try.prog 23 args h K :=
  can_of2 (n := 19) mixed Try.func23 rfl (by kernel_rfl) (by rw [hl]; kernel_rfl) rfl (by kernel_rfl) s
/-! ### slices.Index[[]int,int]: function 26 -/
def r26_0 : List PS := [.mk (some 4) (.assign (.const (.int .i64 0))) none]
def r26_1 : List PS := [.mk (some 6) (.move (.tmp 0)) none,
  .mk (some 7) (.call ⟨(.builtin .len), #[(.tmp 6)], #[24]⟩) none,
  .mk (some 8) (.move (.const (.int .i64 0))) none]
def r26_2 : List PS := [.mk (some 9) (.binOp .lss 3 (.tmp 8) (.tmp 7) 3) none]
def r26_3 : List PS := [.mk (some 10) (.move (.tmp 8)) none,
  .mk (some 5) (.assign (.tmp 10)) none]
def r26_4 : List PS := [.mk (some 11) (.move (.tmp 1)) none,
  .mk (some 12) (.move (.tmp 0)) none,
  .mk (some 13) (.move (.tmp 5)) none,
  .mk (some 14) (.indexAddr 24 (.tmp 12) (.tmp 13)) none,
  .mk (some 15) (.load 3 (.tmp 14)) none,
  .mk (some 16) (.binOp .eql 3 (.tmp 11) (.tmp 15) 3) none]
def r26_5 : List PS := [.mk (some 17) (.move (.tmp 5)) none,
  .mk (some 4) (.assign (.tmp 17)) none]
def r26_6 : List PS := [.mk (some 18) (.binOp .add 3 (.tmp 8) (.const (.int .i64 1)) 3) none,
  .mk (some 8) (.move (.tmp 18)) none]
def r26_7 : List PS := [.mk (some 4) (.assign (.const (.int .i64 (-1)))) none]
def c26 : PC := (.seq (.reg false r26_0) (.seq (.seq (.reg false r26_1) (.block 0 (.loop (.seq (.reg false r26_2) (.seq (.cond (.tmp 9) .skip (.exit 0)) (.seq (.block 1 (.seq (.reg false r26_3) (.seq (.reg false r26_4) (.cond (.tmp 16) (.seq (.reg false r26_5) .ret) .skip)))) (.reg false r26_6))))))) (.seq (.reg false r26_7) .ret)))
theorem e26 {args : List PV} {h : Heap} {K : PV → Heap → Prop} (hl : args.length = 2) (s : pwp Try.prog [] c26 (fin Try.prog [.tmp 4] h K) (slots0 (olds args)) h) : CanP Try.prog 26 args h K :=
  can_of2 (n := 19) mixed Try.func26 rfl (by kernel_rfl) (by rw [hl]; kernel_rfl) rfl (by kernel_rfl) s
/-! ### slices.Contains[[]int,int]: function 25 -/
def r25_0 : List PS := [.mk (some 4) (.assign (.const (.bool false))) none]
def r25_1 : List PS := [.mk (some 5) (.move (.tmp 0)) none,
  .mk (some 6) (.move (.tmp 1)) none,
  .mk (some 7) (.call ⟨(.value (.func 26)), #[(.tmp 5), (.tmp 6)], #[24, 3]⟩) none,
  .mk (some 8) (.binOp .geq 3 (.tmp 7) (.const (.int .i64 0)) 3) none,
  .mk (some 4) (.assign (.tmp 8)) none]
def c25 : PC := (.seq (.reg false r25_0) (.seq (.reg false r25_1) .ret))
theorem e25 {args : List PV} {h : Heap} {K : PV → Heap → Prop} (hl : args.length = 2) (s : pwp Try.prog [] c25 (fin Try.prog [.tmp 4] h K) (slots0 (olds args)) h) : CanP Try.prog 25 args h K :=
  can_of2 (n := 9) mixed Try.func25 rfl (by kernel_rfl) (by rw [hl]; kernel_rfl) rfl (by kernel_rfl) s
/-! ### (naskh.group.groups).of$1: function 24 -/
def r24_0 : List PS := [.mk (some 2) (.box 36 (.tmp 0)) none,
  .mk (some 3) (.assign (.const (.bool false))) none]
def r24_1 : List PS := [.mk (some 4) (.fieldAddr 36 (.tmp 2) 1) none,
  .mk (some 5) (.load 24 (.tmp 4)) none,
  .mk (some 6) (.load 3 (.tmp 1)) none,
  .mk (some 7) (.call ⟨(.value (.func 25)), #[(.tmp 5), (.tmp 6)], #[24, 3]⟩) none,
  .mk (some 3) (.assign (.tmp 7)) none]
def c24 : PC := (.seq (.reg false r24_0) (.seq (.reg false r24_1) .ret))
theorem e24 {args : List PV} {h : Heap} {K : PV → Heap → Prop} (hl : args.length = 2) (s : pwp Try.prog [] c24 (fin Try.prog [.tmp 3] h K) (slots0 (olds args)) h) : CanP Try.prog 24 args h K :=
  can_of2 (n := 8) mixed Try.func24 rfl (by kernel_rfl) (by rw [hl]; kernel_rfl) rfl (by kernel_rfl) s
/-! ### (naskh.group.groups).of: function 22 -/
def r22_0 : List PS := [.mk (some 3) (.box 3 (.tmp 1)) none,
  .mk (some 4) (.assign (.const (.int .i64 0))) none]
def r22_1 : List PS := [.mk (some 5) (.move (.tmp 0)) none,
  .mk (some 6) (.makeFunc (.func 24) #[] #[(.tmp 3)]) none,
  .mk (some 7) (.call ⟨(.value (.func 23)), #[(.tmp 5), (.tmp 6)], #[38, 43]⟩) none,
  .mk (some 4) (.assign (.tmp 7)) none]
def c22 : PC := (.seq (.reg false r22_0) (.seq (.reg false r22_1) .ret))
theorem e22 {args : List PV} {h : Heap} {K : PV → Heap → Prop} (hl : args.length = 2) (s : pwp Try.prog [] c22 (fin Try.prog [.tmp 4] h K) (slots0 (olds args)) h) : CanP Try.prog 22 args h K :=
  can_of2 (n := 8) mixed Try.func22 rfl (by kernel_rfl) (by rw [hl]; kernel_rfl) rfl (by kernel_rfl) s
/-! ### naskh.group.Of: function 8 -/
def r8_0 : List PS := [.mk (some 2) (.assign (.const (.int .i64 0))) none]
def r8_1 : List PS := [.mk (some 3) (.call ⟨(.value (.func 19)), #[], #[]⟩) none,
  .mk (some 4) (.move (.tmp 0)) none,
  .mk (some 5) (.call ⟨(.value (.func 22)), #[(.tmp 3), (.tmp 4)], #[38, 3]⟩) none,
  .mk (some 2) (.assign (.tmp 5)) none]
def c8 : PC := (.seq (.reg false r8_0) (.seq (.reg false r8_1) .ret))
theorem e8 {args : List PV} {h : Heap} {K : PV → Heap → Prop} (hl : args.length = 1) (s : pwp Try.prog [] c8 (fin Try.prog [.tmp 2] h K) (slots0 (olds args)) h) : CanP Try.prog 8 args h K :=
  can_of2 (n := 6) mixed Try.func8 rfl (by kernel_rfl) (by rw [hl]; kernel_rfl) rfl (by kernel_rfl) s
/-! ### naskh.group.Skeleton: function 10 -/
def r10_0 : List PS := [.mk (some 2) (.assign (.const (.slice none 0 0))) none]
def r10_1 : List PS := [.mk (some 9) (.call ⟨(.value (.func 19)), #[], #[]⟩) none,
  .mk (some 3) (.assign (.tmp 9)) none]
def r10_2 : List PS := [.mk (some 10) (.move (.tmp 0)) none,
  .mk (some 11) (.call ⟨(.value (.func 21)), #[(.tmp 10)], #[24]⟩) none,
  .mk (some 4) (.assign (.tmp 11)) none]
def r10_3 : List PS := [.mk (some 12) (.move (.tmp 0)) none,
  .mk (some 13) (.call ⟨(.builtin .len), #[(.tmp 12)], #[24]⟩) none,
  .mk (some 14) (.move (.const (.int .i64 0))) none]
def r10_4 : List PS := [.mk (some 15) (.binOp .lss 3 (.tmp 14) (.tmp 13) 3) none]
def r10_5 : List PS := [.mk (some 16) (.move (.tmp 14)) none,
  .mk (some 17) (.indexAddr 24 (.tmp 12) (.tmp 14)) none,
  .mk (some 18) (.load 3 (.tmp 17)) none,
  .mk (some 5) (.assign (.tmp 16)) none,
  .mk (some 6) (.assign (.tmp 18)) none]
def r10_6 : List PS := [.mk (some 20) (.move (.tmp 3)) none,
  .mk (some 21) (.move (.tmp 3)) none,
  .mk (some 22) (.move (.tmp 6)) none,
  .mk (some 23) (.call ⟨(.value (.func 22)), #[(.tmp 21), (.tmp 22)], #[38, 3]⟩) none,
  .mk (some 24) (.call ⟨(.value (.func 20)), #[(.tmp 20), (.tmp 23)], #[38, 3]⟩) none,
  .mk (some 19) (.move (.tmp 24)) none,
  .mk (some 25) (.extract (.tmp 19) 0) none,
  .mk (some 26) (.extract (.tmp 19) 1) none,
  .mk (some 7) (.alloc 36) none,
  .mk none (.store 36 (.tmp 7) (.tmp 25)) none,
  .frz 7,
  .mk (some 8) (.assign (.tmp 26)) none]
def r10_7 : List PS := [.mk (some 27) (.move (.tmp 8)) none]
def r10_8 : List PS := [.mk (some 28) (.move (.tmp 4)) none,
  .mk (some 29) (.move (.tmp 5)) none,
  .mk (some 30) (.fieldAddr 36 (.tmp 7) 1) none,
  .mk (some 31) (.load 24 (.tmp 30)) none,
  .mk (some 32) (.indexAddr 24 (.tmp 31) (.const (.int .i64 0))) none,
  .mk (some 33) (.load 3 (.tmp 32)) none,
  .mk (some 34) (.indexAddr 24 (.tmp 28) (.tmp 29)) none,
  .mk none (.store 3 (.tmp 34) (.tmp 33)) none]
def r10_9 : List PS := [.mk (some 35) (.binOp .add 3 (.tmp 14) (.const (.int .i64 1)) 3) none,
  .mk (some 14) (.move (.tmp 35)) none]
def r10_10 : List PS := [.mk (some 36) (.move (.tmp 4)) none,
  .mk (some 2) (.assign (.tmp 36)) none]
def c10 : PC := (.seq (.reg false r10_0) (.seq (.reg false r10_1) (.seq (.reg false r10_2) (.seq (.seq (.reg false r10_3) (.block 0 (.loop (.seq (.reg false r10_4) (.seq (.cond (.tmp 15) .skip (.exit 0)) (.seq (.block 1 (.seq (.reg false r10_5) (.seq (.reg false r10_6) (.seq (.reg false r10_7) (.cond (.tmp 27) (.reg false r10_8) .skip))))) (.reg false r10_9))))))) (.seq (.reg false r10_10) .ret)))))
theorem e10 {args : List PV} {h : Heap} {K : PV → Heap → Prop} (hl : args.length = 1) (s : pwp Try.prog [7] c10 (fin Try.prog [.tmp 2] h K) (slots0 (olds args)) h) : CanP Try.prog 10 args h K :=
  can_of2 (n := 37) mixed Try.func10 rfl (by kernel_rfl) (by rw [hl]; kernel_rfl) rfl (by kernel_rfl) s
/-! ### slices.Equal[[]int,int]: function 11 -/
def r11_0 : List PS := [.mk (some 4) (.assign (.const (.bool false))) none]
def r11_1 : List PS := [.mk (some 6) (.move (.tmp 0)) none,
  .mk (some 7) (.call ⟨(.builtin .len), #[(.tmp 6)], #[24]⟩) none,
  .mk (some 8) (.move (.tmp 1)) none,
  .mk (some 9) (.call ⟨(.builtin .len), #[(.tmp 8)], #[24]⟩) none,
  .mk (some 10) (.binOp .neq 3 (.tmp 7) (.tmp 9) 3) none]
def r11_2 : List PS := [.mk (some 4) (.assign (.const (.bool false))) none]
def r11_3 : List PS := [.mk (some 11) (.move (.tmp 0)) none,
  .mk (some 12) (.call ⟨(.builtin .len), #[(.tmp 11)], #[24]⟩) none,
  .mk (some 13) (.move (.const (.int .i64 0))) none]
def r11_4 : List PS := [.mk (some 14) (.binOp .lss 3 (.tmp 13) (.tmp 12) 3) none]
def r11_5 : List PS := [.mk (some 15) (.move (.tmp 13)) none,
  .mk (some 5) (.assign (.tmp 15)) none]
def r11_6 : List PS := [.mk (some 16) (.move (.tmp 0)) none,
  .mk (some 17) (.move (.tmp 5)) none,
  .mk (some 18) (.indexAddr 24 (.tmp 16) (.tmp 17)) none,
  .mk (some 19) (.load 3 (.tmp 18)) none,
  .mk (some 20) (.move (.tmp 1)) none,
  .mk (some 21) (.move (.tmp 5)) none,
  .mk (some 22) (.indexAddr 24 (.tmp 20) (.tmp 21)) none,
  .mk (some 23) (.load 3 (.tmp 22)) none,
  .mk (some 24) (.binOp .neq 3 (.tmp 19) (.tmp 23) 3) none]
def r11_7 : List PS := [.mk (some 4) (.assign (.const (.bool false))) none]
def r11_8 : List PS := [.mk (some 25) (.binOp .add 3 (.tmp 13) (.const (.int .i64 1)) 3) none,
  .mk (some 13) (.move (.tmp 25)) none]
def r11_9 : List PS := [.mk (some 4) (.assign (.const (.bool true))) none]
def c11 : PC := (.seq (.reg false r11_0) (.seq (.seq (.reg false r11_1) (.cond (.tmp 10) (.seq (.reg false r11_2) .ret) .skip)) (.seq (.seq (.reg false r11_3) (.block 0 (.loop (.seq (.reg false r11_4) (.seq (.cond (.tmp 14) .skip (.exit 0)) (.seq (.block 1 (.seq (.reg false r11_5) (.seq (.reg true r11_6) (.cond (.tmp 24) (.seq (.reg false r11_7) .ret) .skip)))) (.reg false r11_8))))))) (.seq (.reg false r11_9) .ret))))
theorem e11 {args : List PV} {h : Heap} {K : PV → Heap → Prop} (hl : args.length = 2) (s : pwp Try.prog [] c11 (fin Try.prog [.tmp 4] h K) (slots0 (olds args)) h) : CanP Try.prog 11 args h K :=
  can_of2 (n := 26) mixed Try.func11 rfl (by kernel_rfl) (by rw [hl]; kernel_rfl) rfl (by kernel_rfl) s
/-! ### naskh.group.Name: function 15 -/
def r15_0 : List PS := [.mk (some 2) (.assign (.const (.string ⟨#[]⟩))) none]
def r15_1 : List PS := [.mk (some 6) (.call ⟨(.value (.func 19)), #[], #[]⟩) none,
  .mk (some 7) (.move (.tmp 0)) none,
  .mk (some 8) (.call ⟨(.value (.func 20)), #[(.tmp 6), (.tmp 7)], #[38, 3]⟩) none,
  .mk (some 5) (.move (.tmp 8)) none,
  .mk (some 9) (.extract (.tmp 5) 0) none,
  .mk (some 10) (.extract (.tmp 5) 1) none,
  .mk (some 3) (.alloc 36) none,
  .mk none (.store 36 (.tmp 3) (.tmp 9)) none,
  .frz 3,
  .mk (some 4) (.assign (.tmp 10)) none]
def r15_2 : List PS := [.mk (some 11) (.fieldAddr 36 (.tmp 3) 0) none,
  .mk (some 12) (.load 9 (.tmp 11)) none,
  .mk (some 2) (.assign (.tmp 12)) none]
def c15 : PC := (.seq (.reg false r15_0) (.seq (.reg false r15_1) (.seq (.reg false r15_2) .ret)))
theorem e15 {args : List PV} {h : Heap} {K : PV → Heap → Prop} (hl : args.length = 1) (s : pwp Try.prog [3] c15 (fin Try.prog [.tmp 2] h K) (slots0 (olds args)) h) : CanP Try.prog 15 args h K :=
  can_of2 (n := 13) mixed Try.func15 rfl (by kernel_rfl) (by rw [hl]; kernel_rfl) rfl (by kernel_rfl) s
/-! ### naskh.naskhlaw39.awake: function 9 -/
def r9_0 : List PS := [.mk (some 0) (.assign (.const (.bool false))) none]
def r9_1 : List PS := [.mk (some 1) (.call ⟨(.value (.func 8)), #[(.const (.int .i64 1578))], #[3]⟩) none,
  .mk (some 2) (.binOp .eql 3 (.tmp 1) (.const (.int .i64 3)) 3) none,
  .mk (some 3) (.move (.tmp 2)) none,
  .mk (some 4) (.call ⟨(.value (.func 15)), #[(.const (.int .i64 3))], #[3]⟩) (some (3, true)),
  .mk (some 5) (.binOp .eql 9 (.tmp 4) (.const (.string ⟨#[66, 69, 72]⟩)) 9) (some (3, true)),
  .mk (some 6) (.pick (.tmp 3) (.tmp 5) (.const (.bool false))) none,
  .mk (some 7) (.move (.tmp 6)) none,
  .mk (some 8) (.buildSlice 24 2 #[(0, (.const (.int .i64 1578))), (1, (.const (.int .i64 97)))]) (some (7, true)),
  .mk (some 9) (.call ⟨(.value (.func 10)), #[(.tmp 8)], #[24]⟩) (some (7, true)),
  .mk (some 10) (.buildSlice 24 2 #[(0, (.const (.int .i64 1576))), (1, (.const (.int .i64 97)))]) (some (7, true)),
  .mk (some 11) (.call ⟨(.value (.func 11)), #[(.tmp 9), (.tmp 10)], #[24, 24]⟩) (some (7, true)),
  .mk (some 12) (.pick (.tmp 7) (.tmp 11) (.const (.bool false))) none,
  .mk (some 0) (.assign (.tmp 12)) none]
def c9 : PC := (.seq (.reg false r9_0) (.seq (.reg false r9_1) .ret))
theorem e9 {args : List PV} {h : Heap} {K : PV → Heap → Prop} (hl : args.length = 0) (s : pwp Try.prog [] c9 (fin Try.prog [.tmp 0] h K) (slots0 (olds args)) h) : CanP Try.prog 9 args h K :=
  can_of2 (n := 13) mixed Try.func9 rfl (by kernel_rfl) (by rw [hl]; kernel_rfl) rfl (by kernel_rfl) s
/-! ### naskh.naskhlaw39.GroupParts: function 3 -/
def r3_0 : List PS := [.mk (some 2) (.assign (.const (.bool false))) none]
def r3_1 : List PS := [.mk (some 6) (.move (.tmp 0)) none,
  .mk (some 7) (.convert 5 3 (.tmp 6)) none,
  .mk (some 8) (.call ⟨(.value (.func 6)), #[], #[]⟩) none,
  .mk (some 9) (.call ⟨(.builtin .len), #[(.tmp 8)], #[22]⟩) none,
  .mk (some 10) (.binOp .rem 3 (.tmp 7) (.tmp 9) 3) none,
  .mk (some 3) (.assign (.tmp 10)) none]
def r3_2 : List PS := [.mk (some 11) (.move (.tmp 3)) none,
  .mk (some 12) (.call ⟨(.value (.func 7)), #[(.tmp 11)], #[3]⟩) none,
  .mk (some 13) (.call ⟨(.builtin .len), #[(.tmp 12)], #[24]⟩) none,
  .mk (some 14) (.move (.const (.int .i64 0))) none]
def r3_3 : List PS := [.mk (some 15) (.binOp .lss 3 (.tmp 14) (.tmp 13) 3) none]
def r3_4 : List PS := [.mk (some 16) (.indexAddr 24 (.tmp 12) (.tmp 14)) none,
  .mk (some 17) (.load 3 (.tmp 16)) none,
  .mk (some 5) (.assign (.tmp 17)) none]
def r3_5 : List PS := [.mk (some 18) (.move (.tmp 5)) none,
  .mk (some 19) (.call ⟨(.value (.func 8)), #[(.tmp 18)], #[3]⟩) none,
  .mk (some 20) (.move (.tmp 3)) none,
  .mk (some 21) (.binOp .neq 3 (.tmp 19) (.tmp 20) 3) none]
def r3_6 : List PS := [.mk (some 2) (.assign (.const (.bool false))) none]
def r3_7 : List PS := [.mk (some 22) (.binOp .add 3 (.tmp 14) (.const (.int .i64 1)) 3) none,
  .mk (some 14) (.move (.tmp 22)) none]
def r3_8 : List PS := [.mk (some 23) (.move (.tmp 3)) none,
  .mk (some 24) (.call ⟨(.value (.func 7)), #[(.tmp 23)], #[3]⟩) none,
  .mk (some 25) (.call ⟨(.builtin .len), #[(.tmp 24)], #[24]⟩) none,
  .mk (some 26) (.binOp .gtr 3 (.tmp 25) (.const (.int .i64 0)) 3) none,
  .mk (some 27) (.move (.tmp 26)) none,
  .mk (some 28) (.call ⟨(.value (.func 9)), #[], #[]⟩) (some (27, true)),
  .mk (some 29) (.pick (.tmp 27) (.tmp 28) (.const (.bool false))) none,
  .mk (some 2) (.assign (.tmp 29)) none]
def c3 : PC := (.seq (.reg false r3_0) (.seq (.reg false r3_1) (.seq (.seq (.reg false r3_2) (.block 0 (.loop (.seq (.reg false r3_3) (.seq (.cond (.tmp 15) .skip (.exit 0)) (.seq (.block 1 (.seq (.reg false r3_4) (.seq (.reg false r3_5) (.cond (.tmp 21) (.seq (.reg false r3_6) .ret) .skip)))) (.reg false r3_7))))))) (.seq (.reg false r3_8) .ret))))
theorem e3 {args : List PV} {h : Heap} {K : PV → Heap → Prop} (hl : args.length = 1) (s : pwp Try.prog [] c3 (fin Try.prog [.tmp 2] h K) (slots0 (olds args)) h) : CanP Try.prog 3 args h K :=
  can_of2 (n := 30) mixed Try.func3 rfl (by kernel_rfl) (by rw [hl]; kernel_rfl) rfl (by kernel_rfl) s
/-! ### naskh.naskhref39.Of: function 14 -/
def r14_0 : List PS := [.mk (some 2) (.assign (.const (.int .i64 0))) none]
def r14_1 : List PS := [.mk (some 6) (.call ⟨(.value (.func 6)), #[], #[]⟩) none,
  .mk (some 3) (.assign (.tmp 6)) none]
def r14_2 : List PS := [.mk (some 4) (.assign (.const (.int .i64 0))) none]
def r14_3 : List PS := [.mk (some 7) (.move (.tmp 4)) none,
  .mk (some 8) (.move (.tmp 3)) none,
  .mk (some 9) (.call ⟨(.builtin .len), #[(.tmp 8)], #[22]⟩) none,
  .mk (some 10) (.binOp .lss 3 (.tmp 7) (.tmp 9) 3) none]
def r14_4 : List PS := [.mk (some 5) (.assign (.const (.int .i64 0))) none]
def r14_5 : List PS := [.mk (some 13) (.move (.tmp 5)) none,
  .mk (some 14) (.move (.tmp 3)) none,
  .mk (some 15) (.move (.tmp 4)) none,
  .mk (some 16) (.indexAddr 22 (.tmp 14) (.tmp 15)) none,
  .mk (some 17) (.fieldAddr 36 (.tmp 16) 1) none,
  .mk (some 18) (.load 24 (.tmp 17)) none,
  .mk (some 19) (.call ⟨(.builtin .len), #[(.tmp 18)], #[24]⟩) none,
  .mk (some 20) (.binOp .lss 3 (.tmp 13) (.tmp 19) 3) none]
def r14_6 : List PS := [.mk (some 23) (.move (.tmp 3)) none,
  .mk (some 24) (.move (.tmp 4)) none,
  .mk (some 25) (.indexAddr 22 (.tmp 23) (.tmp 24)) none,
  .mk (some 26) (.fieldAddr 36 (.tmp 25) 1) none,
  .mk (some 27) (.load 24 (.tmp 26)) none,
  .mk (some 28) (.move (.tmp 5)) none,
  .mk (some 29) (.indexAddr 24 (.tmp 27) (.tmp 28)) none,
  .mk (some 30) (.load 3 (.tmp 29)) none,
  .mk (some 31) (.move (.tmp 0)) none,
  .mk (some 32) (.binOp .eql 3 (.tmp 30) (.tmp 31) 3) none]
def r14_7 : List PS := [.mk (some 33) (.move (.tmp 4)) none,
  .mk (some 2) (.assign (.tmp 33)) none]
def r14_8 : List PS := [.mk (some 21) (.move (.tmp 5)) none,
  .mk (some 22) (.binOp .add 3 (.tmp 21) (.const (.int .i64 1)) 3) none,
  .mk (some 5) (.assign (.tmp 22)) none]
def r14_9 : List PS := [.mk (some 11) (.move (.tmp 4)) none,
  .mk (some 12) (.binOp .add 3 (.tmp 11) (.const (.int .i64 1)) 3) none,
  .mk (some 4) (.assign (.tmp 12)) none]
def r14_10 : List PS := [.mk (some 2) (.assign (.const (.int .i64 (-1)))) none]
def c14 : PC := (.seq (.reg false r14_0) (.seq (.reg false r14_1) (.seq (.seq (.reg false r14_2) (.block 0 (.loop (.seq (.seq (.reg false r14_3) (.cond (.tmp 10) .skip (.exit 0))) (.seq (.block 1 (.seq (.reg false r14_4) (.block 2 (.loop (.seq (.seq (.reg false r14_5) (.cond (.tmp 20) .skip (.exit 2))) (.seq (.block 3 (.seq (.reg false r14_6) (.cond (.tmp 32) (.seq (.reg false r14_7) .ret) .skip))) (.reg false r14_8))))))) (.reg false r14_9)))))) (.seq (.reg false r14_10) .ret))))
theorem e14 {args : List PV} {h : Heap} {K : PV → Heap → Prop} (hl : args.length = 1) (s : pwp Try.prog [] c14 (fin Try.prog [.tmp 2] h K) (slots0 (olds args)) h) : CanP Try.prog 14 args h K :=
  can_of2 (n := 34) mixed Try.func14 rfl (by kernel_rfl) (by rw [hl]; kernel_rfl) rfl (by kernel_rfl) s
/-! ### naskh.naskhref39.Members: function 17 -/
def r17_0 : List PS := [.mk (some 2) (.assign (.const (.slice none 0 0))) none]
def r17_1 : List PS := [.mk (some 4) (.call ⟨(.value (.func 6)), #[], #[]⟩) none,
  .mk (some 3) (.assign (.tmp 4)) none]
def r17_2 : List PS := [.mk (some 5) (.move (.tmp 0)) none,
  .mk (some 6) (.binOp .lss 3 (.tmp 5) (.const (.int .i64 0)) 3) none,
  .mk (some 7) (.move (.tmp 6)) none,
  .mk (some 8) (.move (.tmp 0)) (some (7, false)),
  .mk (some 9) (.move (.tmp 3)) (some (7, false)),
  .mk (some 10) (.call ⟨(.builtin .len), #[(.tmp 9)], #[22]⟩) (some (7, false)),
  .mk (some 11) (.binOp .geq 3 (.tmp 8) (.tmp 10) 3) (some (7, false)),
  .mk (some 12) (.pick (.tmp 7) (.const (.bool true)) (.tmp 11)) none]
def r17_3 : List PS := [.mk (some 2) (.assign (.const (.slice none 0 0))) none]
def r17_4 : List PS := [.mk (some 13) (.move (.tmp 3)) none,
  .mk (some 14) (.move (.tmp 0)) none,
  .mk (some 15) (.indexAddr 22 (.tmp 13) (.tmp 14)) none,
  .mk (some 16) (.fieldAddr 36 (.tmp 15) 1) none,
  .mk (some 17) (.load 24 (.tmp 16)) none,
  .mk (some 2) (.assign (.tmp 17)) none]
def c17 : PC := (.seq (.reg false r17_0) (.seq (.reg false r17_1) (.seq (.seq (.reg false r17_2) (.cond (.tmp 12) (.seq (.reg false r17_3) .ret) .skip)) (.seq (.reg false r17_4) .ret))))
theorem e17 {args : List PV} {h : Heap} {K : PV → Heap → Prop} (hl : args.length = 1) (s : pwp Try.prog [] c17 (fin Try.prog [.tmp 2] h K) (slots0 (olds args)) h) : CanP Try.prog 17 args h K :=
  can_of2 (n := 18) mixed Try.func17 rfl (by kernel_rfl) (by rw [hl]; kernel_rfl) rfl (by kernel_rfl) s
/-! ### naskh.naskhref39.Skeleton: function 12 -/
def r12_0 : List PS := [.mk (some 2) (.assign (.const (.slice none 0 0))) none]
def r12_1 : List PS := [.mk (some 3) (.assign (.const (.slice none 0 0))) none]
def r12_2 : List PS := [.mk (some 4) (.assign (.const (.int .i64 0))) none]
def r12_3 : List PS := [.mk (some 7) (.move (.tmp 4)) none,
  .mk (some 8) (.move (.tmp 0)) none,
  .mk (some 9) (.call ⟨(.builtin .len), #[(.tmp 8)], #[24]⟩) none,
  .mk (some 10) (.binOp .lss 3 (.tmp 7) (.tmp 9) 3) none]
def r12_4 : List PS := [.mk (some 13) (.move (.tmp 0)) none,
  .mk (some 14) (.move (.tmp 4)) none,
  .mk (some 15) (.indexAddr 24 (.tmp 13) (.tmp 14)) none,
  .mk (some 16) (.load 3 (.tmp 15)) none,
  .mk (some 5) (.assign (.tmp 16)) none]
def r12_5 : List PS := [.mk (some 17) (.move (.tmp 5)) none,
  .mk (some 18) (.call ⟨(.value (.func 14)), #[(.tmp 17)], #[3]⟩) none,
  .mk (some 6) (.assign (.tmp 18)) none]
def r12_6 : List PS := [.mk (some 19) (.move (.tmp 6)) none,
  .mk (some 20) (.binOp .geq 3 (.tmp 19) (.const (.int .i64 0)) 3) none]
def r12_7 : List PS := [.mk (some 21) (.move (.tmp 6)) none,
  .mk (some 22) (.call ⟨(.value (.func 17)), #[(.tmp 21)], #[3]⟩) none,
  .mk (some 23) (.indexAddr 24 (.tmp 22) (.const (.int .i64 0))) none,
  .mk (some 24) (.load 3 (.tmp 23)) none,
  .mk (some 5) (.assign (.tmp 24)) none]
def r12_8 : List PS := [.mk (some 25) (.move (.tmp 3)) none,
  .mk (some 26) (.move (.tmp 5)) none,
  .mk (some 27) (.buildSlice 24 1 #[(0, (.tmp 26))]) none,
  .mk (some 28) (.call ⟨(.builtin .append), #[(.tmp 25), (.tmp 27)], #[24, 24]⟩) none,
  .mk (some 3) (.assign (.tmp 28)) none]
def r12_9 : List PS := [.mk (some 11) (.move (.tmp 4)) none,
  .mk (some 12) (.binOp .add 3 (.tmp 11) (.const (.int .i64 1)) 3) none,
  .mk (some 4) (.assign (.tmp 12)) none]
def r12_10 : List PS := [.mk (some 29) (.move (.tmp 3)) none,
  .mk (some 2) (.assign (.tmp 29)) none]
def c12 : PC := (.seq (.reg false r12_0) (.seq (.reg false r12_1) (.seq (.seq (.reg false r12_2) (.block 0 (.loop (.seq (.seq (.reg false r12_3) (.cond (.tmp 10) .skip (.exit 0))) (.seq (.block 1 (.seq (.reg false r12_4) (.seq (.seq (.reg false r12_5) (.seq (.reg false r12_6) (.cond (.tmp 20) (.reg false r12_7) .skip))) (.reg false r12_8)))) (.reg false r12_9)))))) (.seq (.reg false r12_10) .ret))))
theorem e12 {args : List PV} {h : Heap} {K : PV → Heap → Prop} (hl : args.length = 1) (s : pwp Try.prog [] c12 (fin Try.prog [.tmp 2] h K) (slots0 (olds args)) h) : CanP Try.prog 12 args h K :=
  can_of2 (n := 30) mixed Try.func12 rfl (by kernel_rfl) (by rw [hl]; kernel_rfl) rfl (by kernel_rfl) s
/-! ### naskh.group.Same: function 13 -/
def r13_0 : List PS := [.mk (some 4) (.assign (.const (.bool false))) none]
def r13_1 : List PS := [.mk (some 7) (.move (.tmp 0)) none,
  .mk (some 8) (.move (.tmp 1)) none,
  .mk (some 9) (.binOp .eql 3 (.tmp 7) (.tmp 8) 3) none]
def r13_2 : List PS := [.mk (some 4) (.assign (.const (.bool true))) none]
def r13_3 : List PS := [.mk (some 10) (.call ⟨(.value (.func 19)), #[], #[]⟩) none,
  .mk (some 5) (.assign (.tmp 10)) none]
def r13_4 : List PS := [.mk (some 11) (.move (.tmp 5)) none,
  .mk (some 12) (.move (.tmp 0)) none,
  .mk (some 13) (.call ⟨(.value (.func 22)), #[(.tmp 11), (.tmp 12)], #[38, 3]⟩) none,
  .mk (some 6) (.assign (.tmp 13)) none]
def r13_5 : List PS := [.mk (some 14) (.move (.tmp 6)) none,
  .mk (some 15) (.binOp .geq 3 (.tmp 14) (.const (.int .i64 0)) 3) none,
  .mk (some 16) (.move (.tmp 15)) none,
  .mk (some 17) (.move (.tmp 6)) (some (16, true)),
  .mk (some 18) (.move (.tmp 5)) (some (16, true)),
  .mk (some 19) (.move (.tmp 1)) (some (16, true)),
  .mk (some 20) (.call ⟨(.value (.func 22)), #[(.tmp 18), (.tmp 19)], #[38, 3]⟩) (some (16, true)),
  .mk (some 21) (.binOp .eql 3 (.tmp 17) (.tmp 20) 3) (some (16, true)),
  .mk (some 22) (.pick (.tmp 16) (.tmp 21) (.const (.bool false))) none,
  .mk (some 4) (.assign (.tmp 22)) none]
def c13 : PC := (.seq (.reg false r13_0) (.seq (.seq (.reg false r13_1) (.cond (.tmp 9) (.seq (.reg false r13_2) .ret) .skip)) (.seq (.reg false r13_3) (.seq (.reg false r13_4) (.seq (.reg false r13_5) .ret)))))
theorem e13 {args : List PV} {h : Heap} {K : PV → Heap → Prop} (hl : args.length = 2) (s : pwp Try.prog [] c13 (fin Try.prog [.tmp 4] h K) (slots0 (olds args)) h) : CanP Try.prog 13 args h K :=
  can_of2 (n := 23) mixed Try.func13 rfl (by kernel_rfl) (by rw [hl]; kernel_rfl) rfl (by kernel_rfl) s
/-! ### naskh.naskhlaw39.GroupSkeleton: function 4 -/
def r4_0 : List PS := [.mk (some 2) (.assign (.const (.bool false))) none]
def r4_1 : List PS := [.mk (some 6) (.move (.tmp 0)) none,
  .mk (some 7) (.call ⟨(.builtin .len), #[(.tmp 6)], #[24]⟩) none,
  .mk (some 8) (.binOp .gtr 3 (.tmp 7) (.const (.int .i64 300)) 3) none]
def r4_2 : List PS := [.mk (some 9) (.call ⟨(.value (.func 9)), #[], #[]⟩) none,
  .mk (some 2) (.assign (.tmp 9)) none]
def r4_3 : List PS := [.mk (some 10) (.move (.tmp 0)) none,
  .mk (some 11) (.call ⟨(.value (.func 10)), #[(.tmp 10)], #[24]⟩) none,
  .mk (some 3) (.assign (.tmp 11)) none]
def r4_4 : List PS := [.mk (some 12) (.move (.tmp 3)) none,
  .mk (some 13) (.call ⟨(.builtin .len), #[(.tmp 12)], #[24]⟩) none,
  .mk (some 14) (.move (.tmp 0)) none,
  .mk (some 15) (.call ⟨(.builtin .len), #[(.tmp 14)], #[24]⟩) none,
  .mk (some 16) (.binOp .neq 3 (.tmp 13) (.tmp 15) 3) none,
  .mk (some 17) (.move (.tmp 16)) none,
  .mk (some 18) (.move (.tmp 3)) (some (17, false)),
  .mk (some 19) (.move (.tmp 0)) (some (17, false)),
  .mk (some 20) (.call ⟨(.value (.func 12)), #[(.tmp 19)], #[24]⟩) (some (17, false)),
  .mk (some 21) (.call ⟨(.value (.func 11)), #[(.tmp 18), (.tmp 20)], #[24, 24]⟩) (some (17, false)),
  .mk (some 22) (.unOp .not 4 (.tmp 21)) (some (17, false)),
  .mk (some 23) (.pick (.tmp 17) (.const (.bool true)) (.tmp 22)) none,
  .mk (some 24) (.move (.tmp 23)) none,
  .mk (some 25) (.move (.tmp 3)) (some (24, false)),
  .mk (some 26) (.call ⟨(.value (.func 10)), #[(.tmp 25)], #[24]⟩) (some (24, false)),
  .mk (some 27) (.move (.tmp 3)) (some (24, false)),
  .mk (some 28) (.call ⟨(.value (.func 11)), #[(.tmp 26), (.tmp 27)], #[24, 24]⟩) (some (24, false)),
  .mk (some 29) (.unOp .not 4 (.tmp 28)) (some (24, false)),
  .mk (some 30) (.pick (.tmp 24) (.const (.bool true)) (.tmp 29)) none]
def r4_5 : List PS := [.mk (some 2) (.assign (.const (.bool false))) none]
def r4_6 : List PS := [.mk (some 31) (.move (.tmp 0)) none,
  .mk (some 32) (.call ⟨(.builtin .len), #[(.tmp 31)], #[24]⟩) none,
  .mk (some 33) (.move (.const (.int .i64 0))) none]
def r4_7 : List PS := [.mk (some 34) (.binOp .lss 3 (.tmp 33) (.tmp 32) 3) none]
def r4_8 : List PS := [.mk (some 35) (.move (.tmp 33)) none,
  .mk (some 36) (.indexAddr 24 (.tmp 31) (.tmp 33)) none,
  .mk (some 37) (.load 3 (.tmp 36)) none,
  .mk (some 4) (.assign (.tmp 35)) none,
  .mk (some 5) (.assign (.tmp 37)) none]
def r4_9 : List PS := [.mk (some 38) (.move (.tmp 5)) none,
  .mk (some 39) (.move (.tmp 3)) none,
  .mk (some 40) (.move (.tmp 4)) none,
  .mk (some 41) (.indexAddr 24 (.tmp 39) (.tmp 40)) none,
  .mk (some 42) (.load 3 (.tmp 41)) none,
  .mk (some 43) (.call ⟨(.value (.func 13)), #[(.tmp 38), (.tmp 42)], #[3, 3]⟩) none,
  .mk (some 44) (.unOp .not 4 (.tmp 43)) none]
def r4_10 : List PS := [.mk (some 2) (.assign (.const (.bool false))) none]
def r4_11 : List PS := [.mk (some 45) (.binOp .add 3 (.tmp 33) (.const (.int .i64 1)) 3) none,
  .mk (some 33) (.move (.tmp 45)) none]
def r4_12 : List PS := [.mk (some 46) (.call ⟨(.value (.func 9)), #[], #[]⟩) none,
  .mk (some 2) (.assign (.tmp 46)) none]
def c4 : PC := (.seq (.reg false r4_0) (.seq (.seq (.reg false r4_1) (.cond (.tmp 8) (.seq (.reg false r4_2) .ret) .skip)) (.seq (.reg false r4_3) (.seq (.seq (.reg false r4_4) (.cond (.tmp 30) (.seq (.reg false r4_5) .ret) .skip)) (.seq (.seq (.reg false r4_6) (.block 0 (.loop (.seq (.reg false r4_7) (.seq (.cond (.tmp 34) .skip (.exit 0)) (.seq (.block 1 (.seq (.reg false r4_8) (.seq (.reg false r4_9) (.cond (.tmp 44) (.seq (.reg false r4_10) .ret) .skip)))) (.reg false r4_11))))))) (.seq (.reg false r4_12) .ret))))))
theorem e4 {args : List PV} {h : Heap} {K : PV → Heap → Prop} (hl : args.length = 1) (s : pwp Try.prog [] c4 (fin Try.prog [.tmp 2] h K) (slots0 (olds args)) h) : CanP Try.prog 4 args h K :=
  can_of2 (n := 47) mixed Try.func4 rfl (by kernel_rfl) (by rw [hl]; kernel_rfl) rfl (by kernel_rfl) s
/-! ### naskh.naskhref39.Name: function 16 -/
def r16_0 : List PS := [.mk (some 2) (.assign (.const (.string ⟨#[]⟩))) none]
def r16_1 : List PS := [.mk (some 4) (.call ⟨(.value (.func 6)), #[], #[]⟩) none,
  .mk (some 3) (.assign (.tmp 4)) none]
def r16_2 : List PS := [.mk (some 5) (.move (.tmp 0)) none,
  .mk (some 6) (.binOp .lss 3 (.tmp 5) (.const (.int .i64 0)) 3) none,
  .mk (some 7) (.move (.tmp 6)) none,
  .mk (some 8) (.move (.tmp 0)) (some (7, false)),
  .mk (some 9) (.move (.tmp 3)) (some (7, false)),
  .mk (some 10) (.call ⟨(.builtin .len), #[(.tmp 9)], #[22]⟩) (some (7, false)),
  .mk (some 11) (.binOp .geq 3 (.tmp 8) (.tmp 10) 3) (some (7, false)),
  .mk (some 12) (.pick (.tmp 7) (.const (.bool true)) (.tmp 11)) none]
def r16_3 : List PS := [.mk (some 2) (.assign (.const (.string ⟨#[]⟩))) none]
def r16_4 : List PS := [.mk (some 13) (.move (.tmp 3)) none,
  .mk (some 14) (.move (.tmp 0)) none,
  .mk (some 15) (.indexAddr 22 (.tmp 13) (.tmp 14)) none,
  .mk (some 16) (.fieldAddr 36 (.tmp 15) 0) none,
  .mk (some 17) (.load 9 (.tmp 16)) none,
  .mk (some 2) (.assign (.tmp 17)) none]
def c16 : PC := (.seq (.reg false r16_0) (.seq (.reg false r16_1) (.seq (.seq (.reg false r16_2) (.cond (.tmp 12) (.seq (.reg false r16_3) .ret) .skip)) (.seq (.reg false r16_4) .ret))))
theorem e16 {args : List PV} {h : Heap} {K : PV → Heap → Prop} (hl : args.length = 1) (s : pwp Try.prog [] c16 (fin Try.prog [.tmp 2] h K) (slots0 (olds args)) h) : CanP Try.prog 16 args h K :=
  can_of2 (n := 18) mixed Try.func16 rfl (by kernel_rfl) (by rw [hl]; kernel_rfl) rfl (by kernel_rfl) s
/-! ### naskh.naskhref39.Same: function 18 -/
def r18_0 : List PS := [.mk (some 4) (.assign (.const (.bool false))) none]
def r18_1 : List PS := [.mk (some 5) (.move (.tmp 0)) none,
  .mk (some 6) (.move (.tmp 1)) none,
  .mk (some 7) (.binOp .eql 3 (.tmp 5) (.tmp 6) 3) none,
  .mk (some 8) (.move (.tmp 7)) none,
  .mk (some 9) (.move (.tmp 0)) (some (8, false)),
  .mk (some 10) (.call ⟨(.value (.func 14)), #[(.tmp 9)], #[3]⟩) (some (8, false)),
  .mk (some 11) (.binOp .geq 3 (.tmp 10) (.const (.int .i64 0)) 3) (some (8, false)),
  .mk (some 12) (.move (.tmp 11)) (some (8, false)),
  .mk (some 13) (.move (.tmp 0)) (some (12, true)),
  .mk (some 14) (.call ⟨(.value (.func 14)), #[(.tmp 13)], #[3]⟩) (some (12, true)),
  .mk (some 15) (.move (.tmp 1)) (some (12, true)),
  .mk (some 16) (.call ⟨(.value (.func 14)), #[(.tmp 15)], #[3]⟩) (some (12, true)),
  .mk (some 17) (.binOp .eql 3 (.tmp 14) (.tmp 16) 3) (some (12, true)),
  .mk (some 18) (.pick (.tmp 12) (.tmp 17) (.const (.bool false))) (some (8, false)),
  .mk (some 19) (.pick (.tmp 8) (.const (.bool true)) (.tmp 18)) none,
  .mk (some 4) (.assign (.tmp 19)) none]
def c18 : PC := (.seq (.reg false r18_0) (.seq (.reg false r18_1) .ret))
theorem e18 {args : List PV} {h : Heap} {K : PV → Heap → Prop} (hl : args.length = 2) (s : pwp Try.prog [] c18 (fin Try.prog [.tmp 4] h K) (slots0 (olds args)) h) : CanP Try.prog 18 args h K :=
  can_of2 (n := 20) mixed Try.func18 rfl (by kernel_rfl) (by rw [hl]; kernel_rfl) rfl (by kernel_rfl) s
/-! ### naskh.naskhlaw39.GroupTells: function 5 -/
def r5_0 : List PS := [.mk (some 6) (.assign (.const (.bool false))) none]
def r5_1 : List PS := [.mk (some 7) (.move (.tmp 0)) none,
  .mk (some 8) (.call ⟨(.value (.func 8)), #[(.tmp 7)], #[3]⟩) none,
  .mk (some 9) (.move (.tmp 0)) none,
  .mk (some 10) (.call ⟨(.value (.func 14)), #[(.tmp 9)], #[3]⟩) none,
  .mk (some 11) (.binOp .eql 3 (.tmp 8) (.tmp 10) 3) none,
  .mk (some 12) (.move (.tmp 11)) none,
  .mk (some 13) (.move (.tmp 2)) (some (12, true)),
  .mk (some 14) (.call ⟨(.value (.func 15)), #[(.tmp 13)], #[3]⟩) (some (12, true)),
  .mk (some 15) (.move (.tmp 2)) (some (12, true)),
  .mk (some 16) (.call ⟨(.value (.func 16)), #[(.tmp 15)], #[3]⟩) (some (12, true)),
  .mk (some 17) (.binOp .eql 9 (.tmp 14) (.tmp 16) 9) (some (12, true)),
  .mk (some 18) (.pick (.tmp 12) (.tmp 17) (.const (.bool false))) none,
  .mk (some 19) (.move (.tmp 18)) none,
  .mk (some 20) (.move (.tmp 2)) (some (19, true)),
  .mk (some 21) (.call ⟨(.value (.func 7)), #[(.tmp 20)], #[3]⟩) (some (19, true)),
  .mk (some 22) (.move (.tmp 2)) (some (19, true)),
  .mk (some 23) (.call ⟨(.value (.func 17)), #[(.tmp 22)], #[3]⟩) (some (19, true)),
  .mk (some 24) (.call ⟨(.value (.func 11)), #[(.tmp 21), (.tmp 23)], #[24, 24]⟩) (some (19, true)),
  .mk (some 25) (.pick (.tmp 19) (.tmp 24) (.const (.bool false))) none,
  .mk (some 26) (.move (.tmp 25)) none,
  .mk (some 27) (.move (.tmp 0)) (some (26, true)),
  .mk (some 28) (.move (.tmp 1)) (some (26, true)),
  .mk (some 29) (.call ⟨(.value (.func 13)), #[(.tmp 27), (.tmp 28)], #[3, 3]⟩) (some (26, true)),
  .mk (some 30) (.move (.tmp 0)) (some (26, true)),
  .mk (some 31) (.move (.tmp 1)) (some (26, true)),
  .mk (some 32) (.call ⟨(.value (.func 18)), #[(.tmp 30), (.tmp 31)], #[3, 3]⟩) (some (26, true)),
  .mk (some 33) (.binOp .eql 4 (.tmp 29) (.tmp 32) 4) (some (26, true)),
  .mk (some 34) (.pick (.tmp 26) (.tmp 33) (.const (.bool false))) none,
  .mk (some 35) (.move (.tmp 34)) none,
  .mk (some 36) (.move (.tmp 0)) (some (35, true)),
  .mk (some 37) (.move (.tmp 0)) (some (35, true)),
  .mk (some 38) (.call ⟨(.value (.func 13)), #[(.tmp 36), (.tmp 37)], #[3, 3]⟩) (some (35, true)),
  .mk (some 39) (.pick (.tmp 35) (.tmp 38) (.const (.bool false))) none,
  .mk (some 40) (.move (.tmp 39)) none,
  .mk (some 41) (.call ⟨(.value (.func 9)), #[], #[]⟩) (some (40, true)),
  .mk (some 42) (.pick (.tmp 40) (.tmp 41) (.const (.bool false))) none,
  .mk (some 6) (.assign (.tmp 42)) none]
def c5 : PC := (.seq (.reg false r5_0) (.seq (.reg false r5_1) .ret))
theorem e5 {args : List PV} {h : Heap} {K : PV → Heap → Prop} (hl : args.length = 3) (s : pwp Try.prog [] c5 (fin Try.prog [.tmp 6] h K) (slots0 (olds args)) h) : CanP Try.prog 5 args h K :=
  can_of2 (n := 43) mixed Try.func5 rfl (by kernel_rfl) (by rw [hl]; kernel_rfl) rfl (by kernel_rfl) s
end Go.Proofs.Ytghkdmbcndlimaa
