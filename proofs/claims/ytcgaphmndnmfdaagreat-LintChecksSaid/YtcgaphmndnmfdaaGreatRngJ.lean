/-
  The ranges of how codes join.
  Conditions: none but those that each sentence tells.
-/
import Derived.Test.YtcgaphmndnmfdaaGreatRng0
namespace Go.Proofs.YtcgaphmndnmfdaaGreat
open Go.Pm
open Nat renaming reduceEqDiff → nE, reduceAdd → nA, reduceMul → nM, reduceLeDiff → nD, reduceLT → nL
open Int renaming reduceLE → iL, reduceLT → iT, reduceEq → iE, reduceToNat → iN, cast_ofNat_Int → iC
set_option maxRecDepth 100000
set_option linter.unusedSimpArgs false
set_option linter.unusedVariables false

def jrs : List R3 := [
  (768, 879, 1), (1155, 1161, 1), (1425, 1469, 1), (1471, 1471, 1), (1473, 1474, 1), (1476, 1477, 1),
  (1479, 1479, 1), (1552, 1562, 1), (1564, 1564, 1), (1568, 1568, 3), (1570, 1573, 2), (1574, 1574, 3),
  (1575, 1575, 2), (1576, 1576, 3), (1577, 1577, 2), (1578, 1582, 3), (1583, 1586, 2), (1587, 1599, 3),
  (1600, 1600, 5), (1601, 1607, 3), (1608, 1608, 2), (1609, 1610, 3), (1611, 1631, 1), (1646, 1647, 3),
  (1648, 1648, 1), (1649, 1651, 2), (1653, 1655, 2), (1656, 1671, 3), (1672, 1689, 2), (1690, 1727, 3),
  (1728, 1728, 2), (1729, 1730, 3), (1731, 1739, 2), (1740, 1740, 3), (1741, 1741, 2), (1742, 1742, 3),
  (1743, 1743, 2), (1744, 1745, 3), (1746, 1747, 2), (1749, 1749, 2), (1750, 1756, 1), (1759, 1764, 1),
  (1767, 1768, 1), (1770, 1773, 1), (1774, 1775, 2), (1786, 1788, 3), (1791, 1791, 3), (1840, 1866, 1),
  (1958, 1968, 1), (1994, 2026, 3), (2027, 2035, 1), (2042, 2042, 5), (2200, 2207, 1), (2250, 2273, 1),
  (2275, 2306, 1), (8203, 8203, 1), (8205, 8205, 5), (8206, 8207, 1), (8234, 8238, 1), (8288, 8292, 1),
  (8298, 8303, 1), (8400, 8432, 1), (43072, 43121, 3), (43122, 43122, 4), (65024, 65039, 1), (65056, 65071, 1),
  (65279, 65279, 1), (917760, 917999, 1)]
theorem JoinRanges (h : Heap) {K : PV → Heap → Prop} (k : K (.list true 3 jrs.length (jrs.flatMap r3)) h) : CanP Tryz.prog 23 [] h K := by
  refine e23 rfl ?_
  try simp (maxSteps := 10000000) only [c23, r23_0, r23_1, pm, pmW, pmB, ft, ↓reduceIte, reduceCtorEq, nE, nA, nM, nD, nL, iL, iT, iE, iN, iC]
  exact finK_le (Heap.le_refl _) k
theorem jrs_ok : mayB (-1) jrs = true := by kernel_rfl
end Go.Proofs.YtcgaphmndnmfdaaGreat
