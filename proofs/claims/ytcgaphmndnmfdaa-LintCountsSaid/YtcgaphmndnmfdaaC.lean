/-
  The functions that the statements of this seat reach, told in short, the rest. Printed by this project's own program.
  Conditions: none.
-/
import Derived.Test.YtcgaphmndnmfdaaCa
namespace Go.Proofs.Ytcgaphmndnmfdaa
open Go.Pm
set_option maxRecDepth 100000
set_option linter.unusedVariables false
/-! ### naskh.api.JoinRanges: function 20 -/
def r20_0 : List PS := [.mk (some 0) (.assign (.const (.slice none 0 0))) none]
def r20_1 : List PS := [.mk (some 1) (.build 83 #[(0, (.const (.int .i64 768))), (1, (.const (.int .i64 879))), (2, (.const (.int .i64 1)))]) none,
  .mk (some 2) (.build 83 #[(0, (.const (.int .i64 1155))), (1, (.const (.int .i64 1161))), (2, (.const (.int .i64 1)))]) none,
  .mk (some 3) (.build 83 #[(0, (.const (.int .i64 1425))), (1, (.const (.int .i64 1469))), (2, (.const (.int .i64 1)))]) none,
  .mk (some 4) (.build 83 #[(0, (.const (.int .i64 1471))), (1, (.const (.int .i64 1471))), (2, (.const (.int .i64 1)))]) none,
  .mk (some 5) (.build 83 #[(0, (.const (.int .i64 1473))), (1, (.const (.int .i64 1474))), (2, (.const (.int .i64 1)))]) none,
  .mk (some 6) (.build 83 #[(0, (.const (.int .i64 1476))), (1, (.const (.int .i64 1477))), (2, (.const (.int .i64 1)))]) none,
  .mk (some 7) (.build 83 #[(0, (.const (.int .i64 1479))), (1, (.const (.int .i64 1479))), (2, (.const (.int .i64 1)))]) none,
  .mk (some 8) (.build 83 #[(0, (.const (.int .i64 1552))), (1, (.const (.int .i64 1562))), (2, (.const (.int .i64 1)))]) none,
  .mk (some 9) (.build 83 #[(0, (.const (.int .i64 1564))), (1, (.const (.int .i64 1564))), (2, (.const (.int .i64 1)))]) none,
  .mk (some 10) (.build 83 #[(0, (.const (.int .i64 1568))), (1, (.const (.int .i64 1568))), (2, (.const (.int .i64 3)))]) none,
  .mk (some 11) (.build 83 #[(0, (.const (.int .i64 1570))), (1, (.const (.int .i64 1573))), (2, (.const (.int .i64 2)))]) none,
  .mk (some 12) (.build 83 #[(0, (.const (.int .i64 1574))), (1, (.const (.int .i64 1574))), (2, (.const (.int .i64 3)))]) none,
  .mk (some 13) (.build 83 #[(0, (.const (.int .i64 1575))), (1, (.const (.int .i64 1575))), (2, (.const (.int .i64 2)))]) none,
  .mk (some 14) (.build 83 #[(0, (.const (.int .i64 1576))), (1, (.const (.int .i64 1576))), (2, (.const (.int .i64 3)))]) none,
  .mk (some 15) (.build 83 #[(0, (.const (.int .i64 1577))), (1, (.const (.int .i64 1577))), (2, (.const (.int .i64 2)))]) none,
  .mk (some 16) (.build 83 #[(0, (.const (.int .i64 1578))), (1, (.const (.int .i64 1582))), (2, (.const (.int .i64 3)))]) none,
  .mk (some 17) (.build 83 #[(0, (.const (.int .i64 1583))), (1, (.const (.int .i64 1586))), (2, (.const (.int .i64 2)))]) none,
  .mk (some 18) (.build 83 #[(0, (.const (.int .i64 1587))), (1, (.const (.int .i64 1599))), (2, (.const (.int .i64 3)))]) none,
  .mk (some 19) (.build 83 #[(0, (.const (.int .i64 1600))), (1, (.const (.int .i64 1600))), (2, (.const (.int .i64 5)))]) none,
  .mk (some 20) (.build 83 #[(0, (.const (.int .i64 1601))), (1, (.const (.int .i64 1607))), (2, (.const (.int .i64 3)))]) none,
  .mk (some 21) (.build 83 #[(0, (.const (.int .i64 1608))), (1, (.const (.int .i64 1608))), (2, (.const (.int .i64 2)))]) none,
  .mk (some 22) (.build 83 #[(0, (.const (.int .i64 1609))), (1, (.const (.int .i64 1610))), (2, (.const (.int .i64 3)))]) none,
  .mk (some 23) (.build 83 #[(0, (.const (.int .i64 1611))), (1, (.const (.int .i64 1631))), (2, (.const (.int .i64 1)))]) none,
  .mk (some 24) (.build 83 #[(0, (.const (.int .i64 1646))), (1, (.const (.int .i64 1647))), (2, (.const (.int .i64 3)))]) none,
  .mk (some 25) (.build 83 #[(0, (.const (.int .i64 1648))), (1, (.const (.int .i64 1648))), (2, (.const (.int .i64 1)))]) none,
  .mk (some 26) (.build 83 #[(0, (.const (.int .i64 1649))), (1, (.const (.int .i64 1651))), (2, (.const (.int .i64 2)))]) none,
  .mk (some 27) (.build 83 #[(0, (.const (.int .i64 1653))), (1, (.const (.int .i64 1655))), (2, (.const (.int .i64 2)))]) none,
  .mk (some 28) (.build 83 #[(0, (.const (.int .i64 1656))), (1, (.const (.int .i64 1671))), (2, (.const (.int .i64 3)))]) none,
  .mk (some 29) (.build 83 #[(0, (.const (.int .i64 1672))), (1, (.const (.int .i64 1689))), (2, (.const (.int .i64 2)))]) none,
  .mk (some 30) (.build 83 #[(0, (.const (.int .i64 1690))), (1, (.const (.int .i64 1727))), (2, (.const (.int .i64 3)))]) none,
  .mk (some 31) (.build 83 #[(0, (.const (.int .i64 1728))), (1, (.const (.int .i64 1728))), (2, (.const (.int .i64 2)))]) none,
  .mk (some 32) (.build 83 #[(0, (.const (.int .i64 1729))), (1, (.const (.int .i64 1730))), (2, (.const (.int .i64 3)))]) none,
  .mk (some 33) (.build 83 #[(0, (.const (.int .i64 1731))), (1, (.const (.int .i64 1739))), (2, (.const (.int .i64 2)))]) none,
  .mk (some 34) (.build 83 #[(0, (.const (.int .i64 1740))), (1, (.const (.int .i64 1740))), (2, (.const (.int .i64 3)))]) none,
  .mk (some 35) (.build 83 #[(0, (.const (.int .i64 1741))), (1, (.const (.int .i64 1741))), (2, (.const (.int .i64 2)))]) none,
  .mk (some 36) (.build 83 #[(0, (.const (.int .i64 1742))), (1, (.const (.int .i64 1742))), (2, (.const (.int .i64 3)))]) none,
  .mk (some 37) (.build 83 #[(0, (.const (.int .i64 1743))), (1, (.const (.int .i64 1743))), (2, (.const (.int .i64 2)))]) none,
  .mk (some 38) (.build 83 #[(0, (.const (.int .i64 1744))), (1, (.const (.int .i64 1745))), (2, (.const (.int .i64 3)))]) none,
  .mk (some 39) (.build 83 #[(0, (.const (.int .i64 1746))), (1, (.const (.int .i64 1747))), (2, (.const (.int .i64 2)))]) none,
  .mk (some 40) (.build 83 #[(0, (.const (.int .i64 1749))), (1, (.const (.int .i64 1749))), (2, (.const (.int .i64 2)))]) none,
  .mk (some 41) (.build 83 #[(0, (.const (.int .i64 1750))), (1, (.const (.int .i64 1756))), (2, (.const (.int .i64 1)))]) none,
  .mk (some 42) (.build 83 #[(0, (.const (.int .i64 1759))), (1, (.const (.int .i64 1764))), (2, (.const (.int .i64 1)))]) none,
  .mk (some 43) (.build 83 #[(0, (.const (.int .i64 1767))), (1, (.const (.int .i64 1768))), (2, (.const (.int .i64 1)))]) none,
  .mk (some 44) (.build 83 #[(0, (.const (.int .i64 1770))), (1, (.const (.int .i64 1773))), (2, (.const (.int .i64 1)))]) none,
  .mk (some 45) (.build 83 #[(0, (.const (.int .i64 1774))), (1, (.const (.int .i64 1775))), (2, (.const (.int .i64 2)))]) none,
  .mk (some 46) (.build 83 #[(0, (.const (.int .i64 1786))), (1, (.const (.int .i64 1788))), (2, (.const (.int .i64 3)))]) none,
  .mk (some 47) (.build 83 #[(0, (.const (.int .i64 1791))), (1, (.const (.int .i64 1791))), (2, (.const (.int .i64 3)))]) none,
  .mk (some 48) (.build 83 #[(0, (.const (.int .i64 1840))), (1, (.const (.int .i64 1866))), (2, (.const (.int .i64 1)))]) none,
  .mk (some 49) (.build 83 #[(0, (.const (.int .i64 1958))), (1, (.const (.int .i64 1968))), (2, (.const (.int .i64 1)))]) none,
  .mk (some 50) (.build 83 #[(0, (.const (.int .i64 1994))), (1, (.const (.int .i64 2026))), (2, (.const (.int .i64 3)))]) none,
  .mk (some 51) (.build 83 #[(0, (.const (.int .i64 2027))), (1, (.const (.int .i64 2035))), (2, (.const (.int .i64 1)))]) none,
  .mk (some 52) (.build 83 #[(0, (.const (.int .i64 2042))), (1, (.const (.int .i64 2042))), (2, (.const (.int .i64 5)))]) none,
  .mk (some 53) (.build 83 #[(0, (.const (.int .i64 2200))), (1, (.const (.int .i64 2207))), (2, (.const (.int .i64 1)))]) none,
  .mk (some 54) (.build 83 #[(0, (.const (.int .i64 2250))), (1, (.const (.int .i64 2273))), (2, (.const (.int .i64 1)))]) none,
  .mk (some 55) (.build 83 #[(0, (.const (.int .i64 2275))), (1, (.const (.int .i64 2306))), (2, (.const (.int .i64 1)))]) none,
  .mk (some 56) (.build 83 #[(0, (.const (.int .i64 8203))), (1, (.const (.int .i64 8203))), (2, (.const (.int .i64 1)))]) none,
  .mk (some 57) (.build 83 #[(0, (.const (.int .i64 8205))), (1, (.const (.int .i64 8205))), (2, (.const (.int .i64 5)))]) none,
  .mk (some 58) (.build 83 #[(0, (.const (.int .i64 8206))), (1, (.const (.int .i64 8207))), (2, (.const (.int .i64 1)))]) none,
  .mk (some 59) (.build 83 #[(0, (.const (.int .i64 8234))), (1, (.const (.int .i64 8238))), (2, (.const (.int .i64 1)))]) none,
  .mk (some 60) (.build 83 #[(0, (.const (.int .i64 8288))), (1, (.const (.int .i64 8292))), (2, (.const (.int .i64 1)))]) none,
  .mk (some 61) (.build 83 #[(0, (.const (.int .i64 8298))), (1, (.const (.int .i64 8303))), (2, (.const (.int .i64 1)))]) none,
  .mk (some 62) (.build 83 #[(0, (.const (.int .i64 8400))), (1, (.const (.int .i64 8432))), (2, (.const (.int .i64 1)))]) none,
  .mk (some 63) (.build 83 #[(0, (.const (.int .i64 43072))), (1, (.const (.int .i64 43121))), (2, (.const (.int .i64 3)))]) none,
  .mk (some 64) (.build 83 #[(0, (.const (.int .i64 43122))), (1, (.const (.int .i64 43122))), (2, (.const (.int .i64 4)))]) none,
  .mk (some 65) (.build 83 #[(0, (.const (.int .i64 65024))), (1, (.const (.int .i64 65039))), (2, (.const (.int .i64 1)))]) none,
  .mk (some 66) (.build 83 #[(0, (.const (.int .i64 65056))), (1, (.const (.int .i64 65071))), (2, (.const (.int .i64 1)))]) none,
  .mk (some 67) (.build 83 #[(0, (.const (.int .i64 65279))), (1, (.const (.int .i64 65279))), (2, (.const (.int .i64 1)))]) none,
  .mk (some 68) (.build 83 #[(0, (.const (.int .i64 917760))), (1, (.const (.int .i64 917999))), (2, (.const (.int .i64 1)))]) none,
  .mk (some 69) (.buildSlice 55 68 #[(0, (.tmp 1)), (1, (.tmp 2)), (2, (.tmp 3)), (3, (.tmp 4)), (4, (.tmp 5)), (5, (.tmp 6)), (6, (.tmp 7)), (7, (.tmp 8)), (8, (.tmp 9)), (9, (.tmp 10)), (10, (.tmp 11)), (11, (.tmp 12)), (12, (.tmp 13)), (13, (.tmp 14)), (14, (.tmp 15)), (15, (.tmp 16)), (16, (.tmp 17)), (17, (.tmp 18)), (18, (.tmp 19)), (19, (.tmp 20)), (20, (.tmp 21)), (21, (.tmp 22)), (22, (.tmp 23)), (23, (.tmp 24)), (24, (.tmp 25)), (25, (.tmp 26)), (26, (.tmp 27)), (27, (.tmp 28)), (28, (.tmp 29)), (29, (.tmp 30)), (30, (.tmp 31)), (31, (.tmp 32)), (32, (.tmp 33)), (33, (.tmp 34)), (34, (.tmp 35)), (35, (.tmp 36)), (36, (.tmp 37)), (37, (.tmp 38)), (38, (.tmp 39)), (39, (.tmp 40)), (40, (.tmp 41)), (41, (.tmp 42)), (42, (.tmp 43)), (43, (.tmp 44)), (44, (.tmp 45)), (45, (.tmp 46)), (46, (.tmp 47)), (47, (.tmp 48)), (48, (.tmp 49)), (49, (.tmp 50)), (50, (.tmp 51)), (51, (.tmp 52)), (52, (.tmp 53)), (53, (.tmp 54)), (54, (.tmp 55)), (55, (.tmp 56)), (56, (.tmp 57)), (57, (.tmp 58)), (58, (.tmp 59)), (59, (.tmp 60)), (60, (.tmp 61)), (61, (.tmp 62)), (62, (.tmp 63)), (63, (.tmp 64)), (64, (.tmp 65)), (65, (.tmp 66)), (66, (.tmp 67)), (67, (.tmp 68))]) none,
  .mk (some 0) (.assign (.tmp 69)) none]
def c20 : PC := (.seq (.reg false r20_0) (.seq (.reg false r20_1) .ret))
theorem e20 {args : List PV} {h : Heap} {K : PV → Heap → Prop} (hl : args.length = 0) (s : pwp Try.prog [] c20 (fin Try.prog [.tmp 0] h K) (slots0 (olds args)) h) : CanP Try.prog 20 args h K :=
  can_of2 (n := 70) mixed Try.func20 rfl (by kernel_rfl) (by rw [hl]; kernel_rfl) rfl (by kernel_rfl) s
/-! ### naskh.props.New: function 10 -/
def r10_0 : List PS := [.mk (some 0) (.assign (.const (.pointer none))) none]
def r10_1 : List PS := [.mk (some 6) (.call ⟨(.value (.func 19)), #[], #[]⟩) none,
  .mk (some 7) (.call ⟨(.value (.func 18)), #[(.tmp 6), (.const (.int .i64 0))], #[55, 3]⟩) none,
  .mk (some 5) (.move (.tmp 7)) none,
  .mk (some 8) (.extract (.tmp 5) 0) none,
  .mk (some 9) (.extract (.tmp 5) 1) none,
  .mk (some 1) (.assign (.tmp 8)) none,
  .mk (some 2) (.assign (.tmp 9)) none]
def r10_2 : List PS := [.mk (some 11) (.call ⟨(.value (.func 20)), #[], #[]⟩) none,
  .mk (some 12) (.call ⟨(.value (.func 18)), #[(.tmp 11), (.const (.int .i64 0))], #[55, 3]⟩) none,
  .mk (some 10) (.move (.tmp 12)) none,
  .mk (some 13) (.extract (.tmp 10) 0) none,
  .mk (some 14) (.extract (.tmp 10) 1) none,
  .mk (some 3) (.assign (.tmp 13)) none,
  .mk (some 4) (.assign (.tmp 14)) none]
def r10_3 : List PS := [.mk (some 15) (.move (.tmp 2)) none,
  .mk (some 16) (.binOp .neq 52 (.tmp 15) (.const (.int .i64 0)) 52) none,
  .mk (some 17) (.move (.tmp 16)) none,
  .mk (some 18) (.move (.tmp 4)) (some (17, false)),
  .mk (some 19) (.binOp .neq 52 (.tmp 18) (.const (.int .i64 0)) 52) (some (17, false)),
  .mk (some 20) (.pick (.tmp 17) (.const (.bool true)) (.tmp 19)) none]
def r10_4 : List PS := [.mk (some 0) (.assign (.const (.pointer none))) none]
def r10_5 : List PS := [.mk (some 21) (.move (.tmp 1)) none,
  .mk (some 22) (.move (.tmp 3)) none,
  .mk (some 23) (.build 58 #[(0, (.tmp 21)), (1, (.tmp 22))]) none,
  .mk (some 24) (.build 60 #[(0, (.tmp 23))]) none,
  .mk (some 25) (.box 60 (.tmp 24)) none,
  .mk (some 0) (.assign (.tmp 25)) none]
def c10 : PC := (.seq (.reg false r10_0) (.seq (.reg false r10_1) (.seq (.reg false r10_2) (.seq (.seq (.reg false r10_3) (.cond (.tmp 20) (.seq (.reg false r10_4) .ret) .skip)) (.seq (.reg false r10_5) .ret)))))
theorem e10 {args : List PV} {h : Heap} {K : PV → Heap → Prop} (hl : args.length = 0) (s : pwp Try.prog [] c10 (fin Try.prog [.tmp 0] h K) (slots0 (olds args)) h) : CanP Try.prog 10 args h K :=
  can_of2 (n := 26) mixed Try.func10 rfl (by kernel_rfl) (by rw [hl]; kernel_rfl) rfl (by kernel_rfl) s
/-! ### naskh.api.Combining: function 21 -/
def r21_0 : List PS := [.mk (some 0) (.assign (.const (.slice none 0 0))) none]
def r21_1 : List PS := [.mk (some 1) (.build 83 #[(0, (.const (.int .i64 768))), (1, (.const (.int .i64 788))), (2, (.const (.int .i64 230)))]) none,
  .mk (some 2) (.build 83 #[(0, (.const (.int .i64 789))), (1, (.const (.int .i64 789))), (2, (.const (.int .i64 232)))]) none,
  .mk (some 3) (.build 83 #[(0, (.const (.int .i64 790))), (1, (.const (.int .i64 793))), (2, (.const (.int .i64 220)))]) none,
  .mk (some 4) (.build 83 #[(0, (.const (.int .i64 794))), (1, (.const (.int .i64 794))), (2, (.const (.int .i64 232)))]) none,
  .mk (some 5) (.build 83 #[(0, (.const (.int .i64 795))), (1, (.const (.int .i64 795))), (2, (.const (.int .i64 216)))]) none,
  .mk (some 6) (.build 83 #[(0, (.const (.int .i64 796))), (1, (.const (.int .i64 800))), (2, (.const (.int .i64 220)))]) none,
  .mk (some 7) (.build 83 #[(0, (.const (.int .i64 801))), (1, (.const (.int .i64 802))), (2, (.const (.int .i64 202)))]) none,
  .mk (some 8) (.build 83 #[(0, (.const (.int .i64 803))), (1, (.const (.int .i64 806))), (2, (.const (.int .i64 220)))]) none,
  .mk (some 9) (.build 83 #[(0, (.const (.int .i64 807))), (1, (.const (.int .i64 808))), (2, (.const (.int .i64 202)))]) none,
  .mk (some 10) (.build 83 #[(0, (.const (.int .i64 809))), (1, (.const (.int .i64 819))), (2, (.const (.int .i64 220)))]) none,
  .mk (some 11) (.build 83 #[(0, (.const (.int .i64 820))), (1, (.const (.int .i64 824))), (2, (.const (.int .i64 1)))]) none,
  .mk (some 12) (.build 83 #[(0, (.const (.int .i64 825))), (1, (.const (.int .i64 828))), (2, (.const (.int .i64 220)))]) none,
  .mk (some 13) (.build 83 #[(0, (.const (.int .i64 829))), (1, (.const (.int .i64 836))), (2, (.const (.int .i64 230)))]) none,
  .mk (some 14) (.build 83 #[(0, (.const (.int .i64 837))), (1, (.const (.int .i64 837))), (2, (.const (.int .i64 240)))]) none,
  .mk (some 15) (.build 83 #[(0, (.const (.int .i64 838))), (1, (.const (.int .i64 838))), (2, (.const (.int .i64 230)))]) none,
  .mk (some 16) (.build 83 #[(0, (.const (.int .i64 839))), (1, (.const (.int .i64 841))), (2, (.const (.int .i64 220)))]) none,
  .mk (some 17) (.build 83 #[(0, (.const (.int .i64 842))), (1, (.const (.int .i64 844))), (2, (.const (.int .i64 230)))]) none,
  .mk (some 18) (.build 83 #[(0, (.const (.int .i64 845))), (1, (.const (.int .i64 846))), (2, (.const (.int .i64 220)))]) none,
  .mk (some 19) (.build 83 #[(0, (.const (.int .i64 848))), (1, (.const (.int .i64 850))), (2, (.const (.int .i64 230)))]) none,
  .mk (some 20) (.build 83 #[(0, (.const (.int .i64 851))), (1, (.const (.int .i64 854))), (2, (.const (.int .i64 220)))]) none,
  .mk (some 21) (.build 83 #[(0, (.const (.int .i64 855))), (1, (.const (.int .i64 855))), (2, (.const (.int .i64 230)))]) none,
  .mk (some 22) (.build 83 #[(0, (.const (.int .i64 856))), (1, (.const (.int .i64 856))), (2, (.const (.int .i64 232)))]) none,
  .mk (some 23) (.build 83 #[(0, (.const (.int .i64 857))), (1, (.const (.int .i64 858))), (2, (.const (.int .i64 220)))]) none,
  .mk (some 24) (.build 83 #[(0, (.const (.int .i64 859))), (1, (.const (.int .i64 859))), (2, (.const (.int .i64 230)))]) none,
  .mk (some 25) (.build 83 #[(0, (.const (.int .i64 860))), (1, (.const (.int .i64 860))), (2, (.const (.int .i64 233)))]) none,
  .mk (some 26) (.build 83 #[(0, (.const (.int .i64 861))), (1, (.const (.int .i64 862))), (2, (.const (.int .i64 234)))]) none,
  .mk (some 27) (.build 83 #[(0, (.const (.int .i64 863))), (1, (.const (.int .i64 863))), (2, (.const (.int .i64 233)))]) none,
  .mk (some 28) (.build 83 #[(0, (.const (.int .i64 864))), (1, (.const (.int .i64 865))), (2, (.const (.int .i64 234)))]) none,
  .mk (some 29) (.build 83 #[(0, (.const (.int .i64 866))), (1, (.const (.int .i64 866))), (2, (.const (.int .i64 233)))]) none,
  .mk (some 30) (.build 83 #[(0, (.const (.int .i64 867))), (1, (.const (.int .i64 879))), (2, (.const (.int .i64 230)))]) none,
  .mk (some 31) (.build 83 #[(0, (.const (.int .i64 1425))), (1, (.const (.int .i64 1425))), (2, (.const (.int .i64 220)))]) none,
  .mk (some 32) (.build 83 #[(0, (.const (.int .i64 1426))), (1, (.const (.int .i64 1429))), (2, (.const (.int .i64 230)))]) none,
  .mk (some 33) (.build 83 #[(0, (.const (.int .i64 1430))), (1, (.const (.int .i64 1430))), (2, (.const (.int .i64 220)))]) none,
  .mk (some 34) (.build 83 #[(0, (.const (.int .i64 1431))), (1, (.const (.int .i64 1433))), (2, (.const (.int .i64 230)))]) none,
  .mk (some 35) (.build 83 #[(0, (.const (.int .i64 1434))), (1, (.const (.int .i64 1434))), (2, (.const (.int .i64 222)))]) none,
  .mk (some 36) (.build 83 #[(0, (.const (.int .i64 1435))), (1, (.const (.int .i64 1435))), (2, (.const (.int .i64 220)))]) none,
  .mk (some 37) (.build 83 #[(0, (.const (.int .i64 1436))), (1, (.const (.int .i64 1441))), (2, (.const (.int .i64 230)))]) none,
  .mk (some 38) (.build 83 #[(0, (.const (.int .i64 1442))), (1, (.const (.int .i64 1447))), (2, (.const (.int .i64 220)))]) none,
  .mk (some 39) (.build 83 #[(0, (.const (.int .i64 1448))), (1, (.const (.int .i64 1449))), (2, (.const (.int .i64 230)))]) none,
  .mk (some 40) (.build 83 #[(0, (.const (.int .i64 1450))), (1, (.const (.int .i64 1450))), (2, (.const (.int .i64 220)))]) none,
  .mk (some 41) (.build 83 #[(0, (.const (.int .i64 1451))), (1, (.const (.int .i64 1452))), (2, (.const (.int .i64 230)))]) none,
  .mk (some 42) (.build 83 #[(0, (.const (.int .i64 1453))), (1, (.const (.int .i64 1453))), (2, (.const (.int .i64 222)))]) none,
  .mk (some 43) (.build 83 #[(0, (.const (.int .i64 1454))), (1, (.const (.int .i64 1454))), (2, (.const (.int .i64 228)))]) none,
  .mk (some 44) (.build 83 #[(0, (.const (.int .i64 1455))), (1, (.const (.int .i64 1455))), (2, (.const (.int .i64 230)))]) none,
  .mk (some 45) (.build 83 #[(0, (.const (.int .i64 1456))), (1, (.const (.int .i64 1456))), (2, (.const (.int .i64 10)))]) none,
  .mk (some 46) (.build 83 #[(0, (.const (.int .i64 1457))), (1, (.const (.int .i64 1457))), (2, (.const (.int .i64 11)))]) none,
  .mk (some 47) (.build 83 #[(0, (.const (.int .i64 1458))), (1, (.const (.int .i64 1458))), (2, (.const (.int .i64 12)))]) none,
  .mk (some 48) (.build 83 #[(0, (.const (.int .i64 1459))), (1, (.const (.int .i64 1459))), (2, (.const (.int .i64 13)))]) none,
  .mk (some 49) (.build 83 #[(0, (.const (.int .i64 1460))), (1, (.const (.int .i64 1460))), (2, (.const (.int .i64 14)))]) none,
  .mk (some 50) (.build 83 #[(0, (.const (.int .i64 1461))), (1, (.const (.int .i64 1461))), (2, (.const (.int .i64 15)))]) none,
  .mk (some 51) (.build 83 #[(0, (.const (.int .i64 1462))), (1, (.const (.int .i64 1462))), (2, (.const (.int .i64 16)))]) none,
  .mk (some 52) (.build 83 #[(0, (.const (.int .i64 1463))), (1, (.const (.int .i64 1463))), (2, (.const (.int .i64 17)))]) none,
  .mk (some 53) (.build 83 #[(0, (.const (.int .i64 1464))), (1, (.const (.int .i64 1464))), (2, (.const (.int .i64 18)))]) none,
  .mk (some 54) (.build 83 #[(0, (.const (.int .i64 1465))), (1, (.const (.int .i64 1466))), (2, (.const (.int .i64 19)))]) none,
  .mk (some 55) (.build 83 #[(0, (.const (.int .i64 1467))), (1, (.const (.int .i64 1467))), (2, (.const (.int .i64 20)))]) none,
  .mk (some 56) (.build 83 #[(0, (.const (.int .i64 1468))), (1, (.const (.int .i64 1468))), (2, (.const (.int .i64 21)))]) none,
  .mk (some 57) (.build 83 #[(0, (.const (.int .i64 1469))), (1, (.const (.int .i64 1469))), (2, (.const (.int .i64 22)))]) none,
  .mk (some 58) (.build 83 #[(0, (.const (.int .i64 1471))), (1, (.const (.int .i64 1471))), (2, (.const (.int .i64 23)))]) none,
  .mk (some 59) (.build 83 #[(0, (.const (.int .i64 1473))), (1, (.const (.int .i64 1473))), (2, (.const (.int .i64 24)))]) none,
  .mk (some 60) (.build 83 #[(0, (.const (.int .i64 1474))), (1, (.const (.int .i64 1474))), (2, (.const (.int .i64 25)))]) none,
  .mk (some 61) (.build 83 #[(0, (.const (.int .i64 1476))), (1, (.const (.int .i64 1476))), (2, (.const (.int .i64 230)))]) none,
  .mk (some 62) (.build 83 #[(0, (.const (.int .i64 1477))), (1, (.const (.int .i64 1477))), (2, (.const (.int .i64 220)))]) none,
  .mk (some 63) (.build 83 #[(0, (.const (.int .i64 1479))), (1, (.const (.int .i64 1479))), (2, (.const (.int .i64 18)))]) none,
  .mk (some 64) (.build 83 #[(0, (.const (.int .i64 1552))), (1, (.const (.int .i64 1559))), (2, (.const (.int .i64 230)))]) none,
  .mk (some 65) (.build 83 #[(0, (.const (.int .i64 1560))), (1, (.const (.int .i64 1560))), (2, (.const (.int .i64 30)))]) none,
  .mk (some 66) (.build 83 #[(0, (.const (.int .i64 1561))), (1, (.const (.int .i64 1561))), (2, (.const (.int .i64 31)))]) none,
  .mk (some 67) (.build 83 #[(0, (.const (.int .i64 1562))), (1, (.const (.int .i64 1562))), (2, (.const (.int .i64 32)))]) none,
  .mk (some 68) (.build 83 #[(0, (.const (.int .i64 1611))), (1, (.const (.int .i64 1611))), (2, (.const (.int .i64 27)))]) none,
  .mk (some 69) (.build 83 #[(0, (.const (.int .i64 1612))), (1, (.const (.int .i64 1612))), (2, (.const (.int .i64 28)))]) none,
  .mk (some 70) (.build 83 #[(0, (.const (.int .i64 1613))), (1, (.const (.int .i64 1613))), (2, (.const (.int .i64 29)))]) none,
  .mk (some 71) (.build 83 #[(0, (.const (.int .i64 1614))), (1, (.const (.int .i64 1614))), (2, (.const (.int .i64 30)))]) none,
  .mk (some 72) (.build 83 #[(0, (.const (.int .i64 1615))), (1, (.const (.int .i64 1615))), (2, (.const (.int .i64 31)))]) none,
  .mk (some 73) (.build 83 #[(0, (.const (.int .i64 1616))), (1, (.const (.int .i64 1616))), (2, (.const (.int .i64 32)))]) none,
  .mk (some 74) (.build 83 #[(0, (.const (.int .i64 1617))), (1, (.const (.int .i64 1617))), (2, (.const (.int .i64 33)))]) none,
  .mk (some 75) (.build 83 #[(0, (.const (.int .i64 1618))), (1, (.const (.int .i64 1618))), (2, (.const (.int .i64 34)))]) none,
  .mk (some 76) (.build 83 #[(0, (.const (.int .i64 1619))), (1, (.const (.int .i64 1620))), (2, (.const (.int .i64 230)))]) none,
  .mk (some 77) (.build 83 #[(0, (.const (.int .i64 1621))), (1, (.const (.int .i64 1622))), (2, (.const (.int .i64 220)))]) none,
  .mk (some 78) (.build 83 #[(0, (.const (.int .i64 1623))), (1, (.const (.int .i64 1627))), (2, (.const (.int .i64 230)))]) none,
  .mk (some 79) (.build 83 #[(0, (.const (.int .i64 1628))), (1, (.const (.int .i64 1628))), (2, (.const (.int .i64 220)))]) none,
  .mk (some 80) (.build 83 #[(0, (.const (.int .i64 1629))), (1, (.const (.int .i64 1630))), (2, (.const (.int .i64 230)))]) none,
  .mk (some 81) (.build 83 #[(0, (.const (.int .i64 1631))), (1, (.const (.int .i64 1631))), (2, (.const (.int .i64 220)))]) none,
  .mk (some 82) (.build 83 #[(0, (.const (.int .i64 1648))), (1, (.const (.int .i64 1648))), (2, (.const (.int .i64 35)))]) none,
  .mk (some 83) (.build 83 #[(0, (.const (.int .i64 1750))), (1, (.const (.int .i64 1756))), (2, (.const (.int .i64 230)))]) none,
  .mk (some 84) (.build 83 #[(0, (.const (.int .i64 1759))), (1, (.const (.int .i64 1762))), (2, (.const (.int .i64 230)))]) none,
  .mk (some 85) (.build 83 #[(0, (.const (.int .i64 1763))), (1, (.const (.int .i64 1763))), (2, (.const (.int .i64 220)))]) none,
  .mk (some 86) (.build 83 #[(0, (.const (.int .i64 1764))), (1, (.const (.int .i64 1764))), (2, (.const (.int .i64 230)))]) none,
  .mk (some 87) (.build 83 #[(0, (.const (.int .i64 1767))), (1, (.const (.int .i64 1768))), (2, (.const (.int .i64 230)))]) none,
  .mk (some 88) (.build 83 #[(0, (.const (.int .i64 1770))), (1, (.const (.int .i64 1770))), (2, (.const (.int .i64 220)))]) none,
  .mk (some 89) (.build 83 #[(0, (.const (.int .i64 1771))), (1, (.const (.int .i64 1772))), (2, (.const (.int .i64 230)))]) none,
  .mk (some 90) (.build 83 #[(0, (.const (.int .i64 1773))), (1, (.const (.int .i64 1773))), (2, (.const (.int .i64 220)))]) none,
  .mk (some 91) (.build 83 #[(0, (.const (.int .i64 1809))), (1, (.const (.int .i64 1809))), (2, (.const (.int .i64 36)))]) none,
  .mk (some 92) (.build 83 #[(0, (.const (.int .i64 1840))), (1, (.const (.int .i64 1840))), (2, (.const (.int .i64 230)))]) none,
  .mk (some 93) (.build 83 #[(0, (.const (.int .i64 1841))), (1, (.const (.int .i64 1841))), (2, (.const (.int .i64 220)))]) none,
  .mk (some 94) (.build 83 #[(0, (.const (.int .i64 1842))), (1, (.const (.int .i64 1843))), (2, (.const (.int .i64 230)))]) none,
  .mk (some 95) (.build 83 #[(0, (.const (.int .i64 1844))), (1, (.const (.int .i64 1844))), (2, (.const (.int .i64 220)))]) none,
  .mk (some 96) (.build 83 #[(0, (.const (.int .i64 1845))), (1, (.const (.int .i64 1846))), (2, (.const (.int .i64 230)))]) none,
  .mk (some 97) (.build 83 #[(0, (.const (.int .i64 1847))), (1, (.const (.int .i64 1849))), (2, (.const (.int .i64 220)))]) none,
  .mk (some 98) (.build 83 #[(0, (.const (.int .i64 1850))), (1, (.const (.int .i64 1850))), (2, (.const (.int .i64 230)))]) none,
  .mk (some 99) (.build 83 #[(0, (.const (.int .i64 1851))), (1, (.const (.int .i64 1852))), (2, (.const (.int .i64 220)))]) none,
  .mk (some 100) (.build 83 #[(0, (.const (.int .i64 1853))), (1, (.const (.int .i64 1853))), (2, (.const (.int .i64 230)))]) none,
  .mk (some 101) (.build 83 #[(0, (.const (.int .i64 1854))), (1, (.const (.int .i64 1854))), (2, (.const (.int .i64 220)))]) none,
  .mk (some 102) (.build 83 #[(0, (.const (.int .i64 1855))), (1, (.const (.int .i64 1857))), (2, (.const (.int .i64 230)))]) none,
  .mk (some 103) (.build 83 #[(0, (.const (.int .i64 1858))), (1, (.const (.int .i64 1858))), (2, (.const (.int .i64 220)))]) none,
  .mk (some 104) (.build 83 #[(0, (.const (.int .i64 1859))), (1, (.const (.int .i64 1859))), (2, (.const (.int .i64 230)))]) none,
  .mk (some 105) (.build 83 #[(0, (.const (.int .i64 1860))), (1, (.const (.int .i64 1860))), (2, (.const (.int .i64 220)))]) none,
  .mk (some 106) (.build 83 #[(0, (.const (.int .i64 1861))), (1, (.const (.int .i64 1861))), (2, (.const (.int .i64 230)))]) none,
  .mk (some 107) (.build 83 #[(0, (.const (.int .i64 1862))), (1, (.const (.int .i64 1862))), (2, (.const (.int .i64 220)))]) none,
  .mk (some 108) (.build 83 #[(0, (.const (.int .i64 1863))), (1, (.const (.int .i64 1863))), (2, (.const (.int .i64 230)))]) none,
  .mk (some 109) (.build 83 #[(0, (.const (.int .i64 1864))), (1, (.const (.int .i64 1864))), (2, (.const (.int .i64 220)))]) none,
  .mk (some 110) (.build 83 #[(0, (.const (.int .i64 1865))), (1, (.const (.int .i64 1866))), (2, (.const (.int .i64 230)))]) none,
  .mk (some 111) (.build 83 #[(0, (.const (.int .i64 2259))), (1, (.const (.int .i64 2259))), (2, (.const (.int .i64 220)))]) none,
  .mk (some 112) (.build 83 #[(0, (.const (.int .i64 2260))), (1, (.const (.int .i64 2273))), (2, (.const (.int .i64 230)))]) none,
  .mk (some 113) (.build 83 #[(0, (.const (.int .i64 2275))), (1, (.const (.int .i64 2275))), (2, (.const (.int .i64 220)))]) none,
  .mk (some 114) (.build 83 #[(0, (.const (.int .i64 2276))), (1, (.const (.int .i64 2277))), (2, (.const (.int .i64 230)))]) none,
  .mk (some 115) (.build 83 #[(0, (.const (.int .i64 2278))), (1, (.const (.int .i64 2278))), (2, (.const (.int .i64 220)))]) none,
  .mk (some 116) (.build 83 #[(0, (.const (.int .i64 2279))), (1, (.const (.int .i64 2280))), (2, (.const (.int .i64 230)))]) none,
  .mk (some 117) (.build 83 #[(0, (.const (.int .i64 2281))), (1, (.const (.int .i64 2281))), (2, (.const (.int .i64 220)))]) none,
  .mk (some 118) (.build 83 #[(0, (.const (.int .i64 2282))), (1, (.const (.int .i64 2284))), (2, (.const (.int .i64 230)))]) none,
  .mk (some 119) (.build 83 #[(0, (.const (.int .i64 2285))), (1, (.const (.int .i64 2287))), (2, (.const (.int .i64 220)))]) none,
  .mk (some 120) (.build 83 #[(0, (.const (.int .i64 2288))), (1, (.const (.int .i64 2288))), (2, (.const (.int .i64 27)))]) none,
  .mk (some 121) (.build 83 #[(0, (.const (.int .i64 2289))), (1, (.const (.int .i64 2289))), (2, (.const (.int .i64 28)))]) none,
  .mk (some 122) (.build 83 #[(0, (.const (.int .i64 2290))), (1, (.const (.int .i64 2290))), (2, (.const (.int .i64 29)))]) none,
  .mk (some 123) (.build 83 #[(0, (.const (.int .i64 2291))), (1, (.const (.int .i64 2293))), (2, (.const (.int .i64 230)))]) none,
  .mk (some 124) (.build 83 #[(0, (.const (.int .i64 2294))), (1, (.const (.int .i64 2294))), (2, (.const (.int .i64 220)))]) none,
  .mk (some 125) (.build 83 #[(0, (.const (.int .i64 2295))), (1, (.const (.int .i64 2296))), (2, (.const (.int .i64 230)))]) none,
  .mk (some 126) (.build 83 #[(0, (.const (.int .i64 2297))), (1, (.const (.int .i64 2298))), (2, (.const (.int .i64 220)))]) none,
  .mk (some 127) (.build 83 #[(0, (.const (.int .i64 2299))), (1, (.const (.int .i64 2303))), (2, (.const (.int .i64 230)))]) none,
  .mk (some 128) (.build 83 #[(0, (.const (.int .i64 8400))), (1, (.const (.int .i64 8401))), (2, (.const (.int .i64 230)))]) none,
  .mk (some 129) (.build 83 #[(0, (.const (.int .i64 64286))), (1, (.const (.int .i64 64286))), (2, (.const (.int .i64 26)))]) none,
  .mk (some 130) (.build 83 #[(0, (.const (.int .i64 65056))), (1, (.const (.int .i64 65062))), (2, (.const (.int .i64 230)))]) none,
  .mk (some 131) (.build 83 #[(0, (.const (.int .i64 65063))), (1, (.const (.int .i64 65069))), (2, (.const (.int .i64 220)))]) none,
  .mk (some 132) (.build 83 #[(0, (.const (.int .i64 65070))), (1, (.const (.int .i64 65071))), (2, (.const (.int .i64 230)))]) none,
  .mk (some 133) (.buildSlice 55 132 #[(0, (.tmp 1)), (1, (.tmp 2)), (2, (.tmp 3)), (3, (.tmp 4)), (4, (.tmp 5)), (5, (.tmp 6)), (6, (.tmp 7)), (7, (.tmp 8)), (8, (.tmp 9)), (9, (.tmp 10)), (10, (.tmp 11)), (11, (.tmp 12)), (12, (.tmp 13)), (13, (.tmp 14)), (14, (.tmp 15)), (15, (.tmp 16)), (16, (.tmp 17)), (17, (.tmp 18)), (18, (.tmp 19)), (19, (.tmp 20)), (20, (.tmp 21)), (21, (.tmp 22)), (22, (.tmp 23)), (23, (.tmp 24)), (24, (.tmp 25)), (25, (.tmp 26)), (26, (.tmp 27)), (27, (.tmp 28)), (28, (.tmp 29)), (29, (.tmp 30)), (30, (.tmp 31)), (31, (.tmp 32)), (32, (.tmp 33)), (33, (.tmp 34)), (34, (.tmp 35)), (35, (.tmp 36)), (36, (.tmp 37)), (37, (.tmp 38)), (38, (.tmp 39)), (39, (.tmp 40)), (40, (.tmp 41)), (41, (.tmp 42)), (42, (.tmp 43)), (43, (.tmp 44)), (44, (.tmp 45)), (45, (.tmp 46)), (46, (.tmp 47)), (47, (.tmp 48)), (48, (.tmp 49)), (49, (.tmp 50)), (50, (.tmp 51)), (51, (.tmp 52)), (52, (.tmp 53)), (53, (.tmp 54)), (54, (.tmp 55)), (55, (.tmp 56)), (56, (.tmp 57)), (57, (.tmp 58)), (58, (.tmp 59)), (59, (.tmp 60)), (60, (.tmp 61)), (61, (.tmp 62)), (62, (.tmp 63)), (63, (.tmp 64)), (64, (.tmp 65)), (65, (.tmp 66)), (66, (.tmp 67)), (67, (.tmp 68)), (68, (.tmp 69)), (69, (.tmp 70)), (70, (.tmp 71)), (71, (.tmp 72)), (72, (.tmp 73)), (73, (.tmp 74)), (74, (.tmp 75)), (75, (.tmp 76)), (76, (.tmp 77)), (77, (.tmp 78)), (78, (.tmp 79)), (79, (.tmp 80)), (80, (.tmp 81)), (81, (.tmp 82)), (82, (.tmp 83)), (83, (.tmp 84)), (84, (.tmp 85)), (85, (.tmp 86)), (86, (.tmp 87)), (87, (.tmp 88)), (88, (.tmp 89)), (89, (.tmp 90)), (90, (.tmp 91)), (91, (.tmp 92)), (92, (.tmp 93)), (93, (.tmp 94)), (94, (.tmp 95)), (95, (.tmp 96)), (96, (.tmp 97)), (97, (.tmp 98)), (98, (.tmp 99)), (99, (.tmp 100)), (100, (.tmp 101)), (101, (.tmp 102)), (102, (.tmp 103)), (103, (.tmp 104)), (104, (.tmp 105)), (105, (.tmp 106)), (106, (.tmp 107)), (107, (.tmp 108)), (108, (.tmp 109)), (109, (.tmp 110)), (110, (.tmp 111)), (111, (.tmp 112)), (112, (.tmp 113)), (113, (.tmp 114)), (114, (.tmp 115)), (115, (.tmp 116)), (116, (.tmp 117)), (117, (.tmp 118)), (118, (.tmp 119)), (119, (.tmp 120)), (120, (.tmp 121)), (121, (.tmp 122)), (122, (.tmp 123)), (123, (.tmp 124)), (124, (.tmp 125)), (125, (.tmp 126)), (126, (.tmp 127)), (127, (.tmp 128)), (128, (.tmp 129)), (129, (.tmp 130)), (130, (.tmp 131)), (131, (.tmp 132))]) none,
  .mk (some 0) (.assign (.tmp 133)) none]
def c21 : PC := (.seq (.reg false r21_0) (.seq (.reg false r21_1) .ret))
theorem e21 {args : List PV} {h : Heap} {K : PV → Heap → Prop} (hl : args.length = 0) (s : pwp Try.prog [] c21 (fin Try.prog [.tmp 0] h K) (slots0 (olds args)) h) : CanP Try.prog 21 args h K :=
  can_of2 (n := 134) mixed Try.func21 rfl (by kernel_rfl) (by rw [hl]; kernel_rfl) rfl (by kernel_rfl) s
/-! ### naskh.ccc.New: function 11 -/
def r11_0 : List PS := [.mk (some 0) (.assign (.const (.pointer none))) none]
def r11_1 : List PS := [.mk (some 4) (.call ⟨(.value (.func 21)), #[], #[]⟩) none,
  .mk (some 5) (.call ⟨(.value (.func 18)), #[(.tmp 4), (.const (.int .i64 0))], #[55, 3]⟩) none,
  .mk (some 3) (.move (.tmp 5)) none,
  .mk (some 6) (.extract (.tmp 3) 0) none,
  .mk (some 7) (.extract (.tmp 3) 1) none,
  .mk (some 1) (.assign (.tmp 6)) none,
  .mk (some 2) (.assign (.tmp 7)) none]
def r11_2 : List PS := [.mk (some 8) (.move (.tmp 2)) none,
  .mk (some 9) (.binOp .neq 52 (.tmp 8) (.const (.int .i64 0)) 52) none]
def r11_3 : List PS := [.mk (some 0) (.assign (.const (.pointer none))) none]
def r11_4 : List PS := [.mk (some 10) (.move (.tmp 1)) none,
  .mk (some 11) (.build 62 #[(0, (.tmp 10))]) none,
  .mk (some 12) (.build 64 #[(0, (.tmp 11))]) none,
  .mk (some 13) (.box 64 (.tmp 12)) none,
  .mk (some 0) (.assign (.tmp 13)) none]
def c11 : PC := (.seq (.reg false r11_0) (.seq (.reg false r11_1) (.seq (.seq (.reg false r11_2) (.cond (.tmp 9) (.seq (.reg false r11_3) .ret) .skip)) (.seq (.reg false r11_4) .ret))))
theorem e11 {args : List PV} {h : Heap} {K : PV → Heap → Prop} (hl : args.length = 0) (s : pwp Try.prog [] c11 (fin Try.prog [.tmp 0] h K) (slots0 (olds args)) h) : CanP Try.prog 11 args h K :=
  can_of2 (n := 14) mixed Try.func11 rfl (by kernel_rfl) (by rw [hl]; kernel_rfl) rfl (by kernel_rfl) s
/-! ### slices.Equal[[]naskh.lint.Find,naskh.lint.Find]: function 12 -/
def r12_0 : List PS := [.mk (some 4) (.assign (.const (.bool false))) none]
def r12_1 : List PS := [.mk (some 6) (.move (.tmp 0)) none,
  .mk (some 7) (.call ⟨(.builtin .len), #[(.tmp 6)], #[22]⟩) none,
  .mk (some 8) (.move (.tmp 1)) none,
  .mk (some 9) (.call ⟨(.builtin .len), #[(.tmp 8)], #[22]⟩) none,
  .mk (some 10) (.binOp .neq 3 (.tmp 7) (.tmp 9) 3) none]
def r12_2 : List PS := [.mk (some 4) (.assign (.const (.bool false))) none]
def r12_3 : List PS := [.mk (some 11) (.move (.tmp 0)) none,
  .mk (some 12) (.call ⟨(.builtin .len), #[(.tmp 11)], #[22]⟩) none,
  .mk (some 13) (.move (.const (.int .i64 0))) none]
def r12_4 : List PS := [.mk (some 14) (.binOp .lss 3 (.tmp 13) (.tmp 12) 3) none]
def r12_5 : List PS := [.mk (some 15) (.move (.tmp 13)) none,
  .mk (some 5) (.assign (.tmp 15)) none]
def r12_6 : List PS := [.mk (some 16) (.move (.tmp 0)) none,
  .mk (some 17) (.move (.tmp 5)) none,
  .mk (some 18) (.indexAddr 22 (.tmp 16) (.tmp 17)) none,
  .mk (some 19) (.load 27 (.tmp 18)) none,
  .mk (some 20) (.move (.tmp 1)) none,
  .mk (some 21) (.move (.tmp 5)) none,
  .mk (some 22) (.indexAddr 22 (.tmp 20) (.tmp 21)) none,
  .mk (some 23) (.load 27 (.tmp 22)) none,
  .mk (some 24) (.binOp .neq 27 (.tmp 19) (.tmp 23) 27) none]
def r12_7 : List PS := [.mk (some 4) (.assign (.const (.bool false))) none]
def r12_8 : List PS := [.mk (some 25) (.binOp .add 3 (.tmp 13) (.const (.int .i64 1)) 3) none,
  .mk (some 13) (.move (.tmp 25)) none]
def r12_9 : List PS := [.mk (some 4) (.assign (.const (.bool true))) none]
def c12 : PC := (.seq (.reg false r12_0) (.seq (.seq (.reg false r12_1) (.cond (.tmp 10) (.seq (.reg false r12_2) .ret) .skip)) (.seq (.seq (.reg false r12_3) (.block 0 (.loop (.seq (.reg false r12_4) (.seq (.cond (.tmp 14) .skip (.exit 0)) (.seq (.block 1 (.seq (.reg false r12_5) (.seq (.reg true r12_6) (.cond (.tmp 24) (.seq (.reg false r12_7) .ret) .skip)))) (.reg false r12_8))))))) (.seq (.reg false r12_9) .ret))))
theorem e12 {args : List PV} {h : Heap} {K : PV → Heap → Prop} (hl : args.length = 2) (s : pwp Try.prog [] c12 (fin Try.prog [.tmp 4] h K) (slots0 (olds args)) h) : CanP Try.prog 12 args h K :=
  can_of2 (n := 26) mixed Try.func12 rfl (by kernel_rfl) (by rw [hl]; kernel_rfl) rfl (by kernel_rfl) s
/-! ### naskh.naskhlaw49.awake: function 4 -/
def r4_0 : List PS := [.mk (some 0) (.assign (.const (.bool false))) none]
def r4_1 : List PS := [.mk (some 2) (.call ⟨(.value (.func 10)), #[], #[]⟩) none,
  .mk (some 3) (.call ⟨(.value (.func 11)), #[], #[]⟩) none,
  .mk (some 4) (.buildSlice 23 2 #[(0, (.const (.int .i64 1616))), (1, (.const (.int .i64 1614)))]) none,
  .mk (some 5) (.call ⟨(.value (.func 9)), #[(.tmp 2), (.tmp 3), (.tmp 4)], #[34, 36, 23]⟩) none,
  .mk (some 1) (.assign (.tmp 5)) none]
def r4_2 : List PS := [.mk (some 6) (.move (.tmp 1)) none,
  .mk (some 7) (.build 27 #[(0, (.const (.int .i64 0))), (1, (.const (.int .i64 5)))]) none,
  .mk (some 8) (.build 27 #[(0, (.const (.int .i64 1))), (1, (.const (.int .i64 6)))]) none,
  .mk (some 9) (.buildSlice 22 2 #[(0, (.tmp 7)), (1, (.tmp 8))]) none,
  .mk (some 10) (.call ⟨(.value (.func 12)), #[(.tmp 6), (.tmp 9)], #[22, 22]⟩) none,
  .mk (some 11) (.move (.tmp 10)) none,
  .mk (some 12) (.call ⟨(.value (.func 7)), #[(.const (.int .i64 8))], #[3]⟩) (some (11, true)),
  .mk (some 13) (.binOp .eql 9 (.tmp 12) (.const (.string ⟨#[114, 111, 119]⟩)) 9) (some (11, true)),
  .mk (some 14) (.pick (.tmp 11) (.tmp 13) (.const (.bool false))) none,
  .mk (some 0) (.assign (.tmp 14)) none]
def c4 : PC := (.seq (.reg false r4_0) (.seq (.reg false r4_1) (.seq (.reg false r4_2) .ret)))
theorem e4 {args : List PV} {h : Heap} {K : PV → Heap → Prop} (hl : args.length = 0) (s : pwp Try.prog [] c4 (fin Try.prog [.tmp 0] h K) (slots0 (olds args)) h) : CanP Try.prog 4 args h K :=
  can_of2 (n := 15) mixed Try.func4 rfl (by kernel_rfl) (by rw [hl]; kernel_rfl) rfl (by kernel_rfl) s
/-! ### naskh.lint.Count: function 5 -/
def r5_0 : List PS := [.mk (some 4) (.assign (.const (.int .i64 0))) none]
def r5_1 : List PS := [.mk (some 5) (.assign (.const (.int .i64 0))) none]
def r5_2 : List PS := [.mk (some 8) (.move (.tmp 0)) none,
  .mk (some 9) (.call ⟨(.builtin .len), #[(.tmp 8)], #[22]⟩) none,
  .mk (some 10) (.move (.const (.int .i64 0))) none]
def r5_3 : List PS := [.mk (some 11) (.binOp .lss 3 (.tmp 10) (.tmp 9) 3) none]
def r5_4 : List PS := [.mk (some 12) (.indexAddr 22 (.tmp 8) (.tmp 10)) none,
  .mk (some 13) (.load 27 (.tmp 12)) none,
  .mk (some 7) (.alloc 27) none,
  .mk none (.store 27 (.tmp 7) (.tmp 13)) none,
  .frz 7]
def r5_5 : List PS := [.mk (some 14) (.move (.tmp 1)) none,
  .mk (some 15) (.call ⟨(.builtin .len), #[(.tmp 14)], #[23]⟩) none,
  .mk (some 16) (.binOp .eql 3 (.tmp 15) (.const (.int .i64 0)) 3) none,
  .mk (some 17) (.move (.tmp 16)) none,
  .mk (some 18) (.move (.tmp 1)) (some (17, false)),
  .mk (some 19) (.fieldAddr 27 (.tmp 7) 1) (some (17, false)),
  .mk (some 20) (.load 3 (.tmp 19)) (some (17, false)),
  .mk (some 21) (.call ⟨(.value (.func 13)), #[(.tmp 18), (.tmp 20)], #[23, 3]⟩) (some (17, false)),
  .mk (some 22) (.pick (.tmp 17) (.const (.bool true)) (.tmp 21)) none]
def r5_6 : List PS := [.mk (some 23) (.move (.tmp 5)) none,
  .mk (some 24) (.binOp .add 3 (.tmp 23) (.const (.int .i64 1)) 3) none,
  .mk (some 5) (.assign (.tmp 24)) none]
def r5_7 : List PS := [.mk (some 25) (.binOp .add 3 (.tmp 10) (.const (.int .i64 1)) 3) none,
  .mk (some 10) (.move (.tmp 25)) none]
def r5_8 : List PS := [.mk (some 26) (.move (.tmp 5)) none,
  .mk (some 4) (.assign (.tmp 26)) none]
def c5 : PC := (.seq (.reg false r5_0) (.seq (.reg false r5_1) (.seq (.seq (.reg false r5_2) (.block 0 (.loop (.seq (.reg false r5_3) (.seq (.cond (.tmp 11) .skip (.exit 0)) (.seq (.block 1 (.seq (.reg false r5_4) (.seq (.reg false r5_5) (.cond (.tmp 22) (.reg false r5_6) .skip)))) (.reg false r5_7))))))) (.seq (.reg false r5_8) .ret))))
theorem e5 {args : List PV} {h : Heap} {K : PV → Heap → Prop} (hl : args.length = 2) (s : pwp Try.prog [7] c5 (fin Try.prog [.tmp 4] h K) (slots0 (olds args)) h) : CanP Try.prog 5 args h K :=
  can_of2 (n := 27) mixed Try.func5 rfl (by kernel_rfl) (by rw [hl]; kernel_rfl) rfl (by kernel_rfl) s
/-! ### naskh.naskhref49.has: function 14 -/
def r14_0 : List PS := [.mk (some 4) (.assign (.const (.bool false))) none]
def r14_1 : List PS := [.mk (some 5) (.assign (.const (.int .i64 0))) none]
def r14_2 : List PS := [.mk (some 6) (.move (.tmp 5)) none,
  .mk (some 7) (.move (.tmp 0)) none,
  .mk (some 8) (.call ⟨(.builtin .len), #[(.tmp 7)], #[23]⟩) none,
  .mk (some 9) (.binOp .lss 3 (.tmp 6) (.tmp 8) 3) none]
def r14_3 : List PS := [.mk (some 12) (.move (.tmp 0)) none,
  .mk (some 13) (.move (.tmp 5)) none,
  .mk (some 14) (.indexAddr 23 (.tmp 12) (.tmp 13)) none,
  .mk (some 15) (.load 3 (.tmp 14)) none,
  .mk (some 16) (.move (.tmp 1)) none,
  .mk (some 17) (.binOp .eql 3 (.tmp 15) (.tmp 16) 3) none]
def r14_4 : List PS := [.mk (some 4) (.assign (.const (.bool true))) none]
def r14_5 : List PS := [.mk (some 10) (.move (.tmp 5)) none,
  .mk (some 11) (.binOp .add 3 (.tmp 10) (.const (.int .i64 1)) 3) none,
  .mk (some 5) (.assign (.tmp 11)) none]
def r14_6 : List PS := [.mk (some 4) (.assign (.const (.bool false))) none]
def c14 : PC := (.seq (.reg false r14_0) (.seq (.seq (.reg false r14_1) (.block 0 (.loop (.seq (.seq (.reg false r14_2) (.cond (.tmp 9) .skip (.exit 0))) (.seq (.block 1 (.seq (.reg false r14_3) (.cond (.tmp 17) (.seq (.reg false r14_4) .ret) .skip))) (.reg false r14_5)))))) (.seq (.reg false r14_6) .ret)))
theorem e14 {args : List PV} {h : Heap} {K : PV → Heap → Prop} (hl : args.length = 2) (s : pwp Try.prog [] c14 (fin Try.prog [.tmp 4] h K) (slots0 (olds args)) h) : CanP Try.prog 14 args h K :=
  can_of2 (n := 18) mixed Try.func14 rfl (by kernel_rfl) (by rw [hl]; kernel_rfl) rfl (by kernel_rfl) s
/-! ### naskh.naskhref49.Count: function 6 -/
def r6_0 : List PS := [.mk (some 4) (.assign (.const (.int .i64 0))) none]
def r6_1 : List PS := [.mk (some 5) (.assign (.const (.int .i64 0))) none]
def r6_2 : List PS := [.mk (some 6) (.assign (.const (.int .i64 0))) none]
def r6_3 : List PS := [.mk (some 7) (.move (.tmp 6)) none,
  .mk (some 8) (.move (.tmp 0)) none,
  .mk (some 9) (.call ⟨(.builtin .len), #[(.tmp 8)], #[25]⟩) none,
  .mk (some 10) (.binOp .lss 3 (.tmp 7) (.tmp 9) 3) none]
def r6_4 : List PS := [.mk (some 13) (.move (.tmp 1)) none,
  .mk (some 14) (.call ⟨(.builtin .len), #[(.tmp 13)], #[23]⟩) none,
  .mk (some 15) (.binOp .eql 3 (.tmp 14) (.const (.int .i64 0)) 3) none,
  .mk (some 16) (.move (.tmp 15)) none,
  .mk (some 17) (.move (.tmp 1)) (some (16, false)),
  .mk (some 18) (.move (.tmp 0)) (some (16, false)),
  .mk (some 19) (.move (.tmp 6)) (some (16, false)),
  .mk (some 20) (.indexAddr 25 (.tmp 18) (.tmp 19)) (some (16, false)),
  .mk (some 21) (.fieldAddr 28 (.tmp 20) 1) (some (16, false)),
  .mk (some 22) (.load 3 (.tmp 21)) (some (16, false)),
  .mk (some 23) (.call ⟨(.value (.func 14)), #[(.tmp 17), (.tmp 22)], #[23, 3]⟩) (some (16, false)),
  .mk (some 24) (.pick (.tmp 16) (.const (.bool true)) (.tmp 23)) none]
def r6_5 : List PS := [.mk (some 25) (.move (.tmp 5)) none,
  .mk (some 26) (.binOp .add 3 (.tmp 25) (.const (.int .i64 1)) 3) none,
  .mk (some 5) (.assign (.tmp 26)) none]
def r6_6 : List PS := [.mk (some 11) (.move (.tmp 6)) none,
  .mk (some 12) (.binOp .add 3 (.tmp 11) (.const (.int .i64 1)) 3) none,
  .mk (some 6) (.assign (.tmp 12)) none]
def r6_7 : List PS := [.mk (some 27) (.move (.tmp 5)) none,
  .mk (some 4) (.assign (.tmp 27)) none]
def c6 : PC := (.seq (.reg false r6_0) (.seq (.reg false r6_1) (.seq (.seq (.reg false r6_2) (.block 0 (.loop (.seq (.seq (.reg false r6_3) (.cond (.tmp 10) .skip (.exit 0))) (.seq (.block 1 (.seq (.reg false r6_4) (.cond (.tmp 24) (.reg false r6_5) .skip))) (.reg false r6_6)))))) (.seq (.reg false r6_7) .ret))))
theorem e6 {args : List PV} {h : Heap} {K : PV → Heap → Prop} (hl : args.length = 2) (s : pwp Try.prog [] c6 (fin Try.prog [.tmp 4] h K) (slots0 (olds args)) h) : CanP Try.prog 6 args h K :=
  can_of2 (n := 28) mixed Try.func6 rfl (by kernel_rfl) (by rw [hl]; kernel_rfl) rfl (by kernel_rfl) s
/-! ### naskh.naskhref49.Name: function 8 -/
def r8_0 : List PS := [.mk (some 2) (.assign (.const (.string ⟨#[]⟩))) none]
def r8_1 : List PS := [.mk (some 4) (.buildSlice 40 9 #[(0, (.const (.string ⟨#[]⟩))), (1, (.const (.string ⟨#[105, 108, 108]⟩))), (2, (.const (.string ⟨#[111, 112, 101, 110]⟩))), (3, (.const (.string ⟨#[108, 111, 111, 115, 101]⟩))), (4, (.const (.string ⟨#[102, 111, 114, 109, 101, 100]⟩))), (5, (.const (.string ⟨#[98, 97, 114, 101]⟩))), (6, (.const (.string ⟨#[111, 114, 100, 101, 114]⟩))), (7, (.const (.string ⟨#[100, 105, 103, 105, 116, 115]⟩))), (8, (.const (.string ⟨#[114, 111, 119]⟩)))]) none,
  .mk (some 3) (.assign (.tmp 4)) none]
def r8_2 : List PS := [.mk (some 5) (.move (.tmp 0)) none,
  .mk (some 6) (.binOp .lss 3 (.tmp 5) (.const (.int .i64 0)) 3) none,
  .mk (some 7) (.move (.tmp 6)) none,
  .mk (some 8) (.move (.tmp 0)) (some (7, false)),
  .mk (some 9) (.move (.tmp 3)) (some (7, false)),
  .mk (some 10) (.call ⟨(.builtin .len), #[(.tmp 9)], #[40]⟩) (some (7, false)),
  .mk (some 11) (.binOp .geq 3 (.tmp 8) (.tmp 10) 3) (some (7, false)),
  .mk (some 12) (.pick (.tmp 7) (.const (.bool true)) (.tmp 11)) none]
def r8_3 : List PS := [.mk (some 2) (.assign (.const (.string ⟨#[]⟩))) none]
def r8_4 : List PS := [.mk (some 13) (.move (.tmp 3)) none,
  .mk (some 14) (.move (.tmp 0)) none,
  .mk (some 15) (.indexAddr 40 (.tmp 13) (.tmp 14)) none,
  .mk (some 16) (.load 9 (.tmp 15)) none,
  .mk (some 2) (.assign (.tmp 16)) none]
def c8 : PC := (.seq (.reg false r8_0) (.seq (.reg false r8_1) (.seq (.seq (.reg false r8_2) (.cond (.tmp 12) (.seq (.reg false r8_3) .ret) .skip)) (.seq (.reg false r8_4) .ret))))
theorem e8 {args : List PV} {h : Heap} {K : PV → Heap → Prop} (hl : args.length = 1) (s : pwp Try.prog [] c8 (fin Try.prog [.tmp 2] h K) (slots0 (olds args)) h) : CanP Try.prog 8 args h K :=
  can_of2 (n := 17) mixed Try.func8 rfl (by kernel_rfl) (by rw [hl]; kernel_rfl) rfl (by kernel_rfl) s
/-! ### naskh.naskhlaw49.LintCounts: function 3 -/
def r3_0 : List PS := [.mk (some 6) (.assign (.const (.bool false))) none]
def r3_1 : List PS := [.mk (some 10) (.move (.tmp 0)) none,
  .mk (some 11) (.call ⟨(.builtin .len), #[(.tmp 10)], #[22]⟩) none,
  .mk (some 12) (.binOp .gtr 3 (.tmp 11) (.const (.int .i64 100)) 3) none,
  .mk (some 13) (.move (.tmp 12)) none,
  .mk (some 14) (.move (.tmp 1)) (some (13, false)),
  .mk (some 15) (.call ⟨(.builtin .len), #[(.tmp 14)], #[23]⟩) (some (13, false)),
  .mk (some 16) (.binOp .gtr 3 (.tmp 15) (.const (.int .i64 20)) 3) (some (13, false)),
  .mk (some 17) (.pick (.tmp 13) (.const (.bool true)) (.tmp 16)) none]
def r3_2 : List PS := [.mk (some 18) (.call ⟨(.value (.func 4)), #[], #[]⟩) none,
  .mk (some 6) (.assign (.tmp 18)) none]
def r3_3 : List PS := [.mk (some 7) (.assign (.const (.slice none 0 0))) none]
def r3_4 : List PS := [.mk (some 19) (.move (.tmp 0)) none,
  .mk (some 20) (.call ⟨(.builtin .len), #[(.tmp 19)], #[22]⟩) none,
  .mk (some 21) (.move (.const (.int .i64 0))) none]
def r3_5 : List PS := [.mk (some 22) (.binOp .lss 3 (.tmp 21) (.tmp 20) 3) none]
def r3_6 : List PS := [.mk (some 23) (.indexAddr 22 (.tmp 19) (.tmp 21)) none,
  .mk (some 24) (.load 27 (.tmp 23)) none,
  .mk (some 9) (.alloc 27) none,
  .mk none (.store 27 (.tmp 9) (.tmp 24)) none,
  .frz 9]
def r3_7 : List PS := [.mk (some 25) (.move (.tmp 7)) none,
  .mk (some 26) (.fieldAddr 27 (.tmp 9) 0) none,
  .mk (some 27) (.load 3 (.tmp 26)) none,
  .mk (some 28) (.fieldAddr 27 (.tmp 9) 1) none,
  .mk (some 29) (.load 3 (.tmp 28)) none,
  .mk (some 30) (.build 28 #[(0, (.tmp 27)), (1, (.tmp 29))]) none,
  .mk (some 31) (.buildSlice 25 1 #[(0, (.tmp 30))]) none,
  .mk (some 32) (.call ⟨(.builtin .append), #[(.tmp 25), (.tmp 31)], #[25, 25]⟩) none,
  .mk (some 7) (.assign (.tmp 32)) none]
def r3_8 : List PS := [.mk (some 33) (.binOp .add 3 (.tmp 21) (.const (.int .i64 1)) 3) none,
  .mk (some 21) (.move (.tmp 33)) none]
def r3_9 : List PS := [.mk (some 34) (.move (.tmp 0)) none,
  .mk (some 35) (.move (.tmp 1)) none,
  .mk (some 36) (.call ⟨(.value (.func 5)), #[(.tmp 34), (.tmp 35)], #[22, 23]⟩) none,
  .frz 7,
  .mk (some 37) (.move (.tmp 7)) none,
  .mk (some 38) (.move (.tmp 1)) none,
  .mk (some 39) (.call ⟨(.value (.func 6)), #[(.tmp 37), (.tmp 38)], #[25, 23]⟩) none,
  .mk (some 40) (.binOp .eql 3 (.tmp 36) (.tmp 39) 3) none,
  .mk (some 41) (.move (.tmp 40)) none,
  .mk (some 42) (.move (.tmp 2)) (some (41, true)),
  .mk (some 43) (.call ⟨(.value (.func 7)), #[(.tmp 42)], #[3]⟩) (some (41, true)),
  .mk (some 44) (.move (.tmp 2)) (some (41, true)),
  .mk (some 45) (.call ⟨(.value (.func 8)), #[(.tmp 44)], #[3]⟩) (some (41, true)),
  .mk (some 46) (.binOp .eql 9 (.tmp 43) (.tmp 45) 9) (some (41, true)),
  .mk (some 47) (.pick (.tmp 41) (.tmp 46) (.const (.bool false))) none,
  .mk (some 48) (.move (.tmp 47)) none,
  .mk (some 49) (.call ⟨(.value (.func 4)), #[], #[]⟩) (some (48, true)),
  .mk (some 50) (.pick (.tmp 48) (.tmp 49) (.const (.bool false))) none,
  .mk (some 6) (.assign (.tmp 50)) none]
def c3 : PC := (.seq (.reg false r3_0) (.seq (.seq (.reg false r3_1) (.cond (.tmp 17) (.seq (.reg false r3_2) .ret) .skip)) (.seq (.reg false r3_3) (.seq (.seq (.reg false r3_4) (.block 0 (.loop (.seq (.reg false r3_5) (.seq (.cond (.tmp 22) .skip (.exit 0)) (.seq (.block 1 (.seq (.reg false r3_6) (.reg false r3_7))) (.reg false r3_8))))))) (.seq (.reg false r3_9) .ret)))))
theorem e3 {args : List PV} {h : Heap} {K : PV → Heap → Prop} (hl : args.length = 3) (s : pwp Try.prog [9] c3 (fin Try.prog [.tmp 6] h K) (slots0 (olds args)) h) : CanP Try.prog 3 args h K :=
  can_of2 (n := 51) mixed Try.func3 rfl (by kernel_rfl) (by rw [hl]; kernel_rfl) rfl (by kernel_rfl) s
end Go.Proofs.Ytcgaphmndnmfdaa
