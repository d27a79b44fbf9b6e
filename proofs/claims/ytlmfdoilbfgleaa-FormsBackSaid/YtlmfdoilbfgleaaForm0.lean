/-
  Letters and their forms: the table.
  Conditions: none but those that each sentence tells.
-/
import Derived.Test.YtlmfdoilbfgleaaC
import Derived.Test.YtlmfdoilbfgleaaPmR
namespace Go.Proofs.Ytlmfdoilbfgleaa
open Go.Pm
set_option maxRecDepth 100000
set_option linter.unusedSimpArgs false
set_option linter.unusedVariables false

abbrev L5 := Int × Int × Int × Int × Int
def fl (p : L5) : List Int := [p.2.1, p.2.2.1, p.2.2.2.1, p.2.2.2.2]
def l5 (p : L5) : List PV := .int .i64 p.1 :: (fl p).map (.int .i64)
theorem l5_len (p : L5) : (l5 p).length = 5 := rfl
theorem fl_len (p : L5) : (fl p).length = 4 := rfl
theorem old_l5 (l : List L5) : olds (l.flatMap l5) = l.flatMap l5 := olds_flat _ _ (fun g => rfl) l
def lets : List L5 := [
  (1569, 65152, 0, 0, 0), (1570, 65153, 65154, 0, 0), (1571, 65155, 65156, 0, 0),
  (1572, 65157, 65158, 0, 0), (1573, 65159, 65160, 0, 0), (1574, 65161, 65162, 65163, 65164),
  (1575, 65165, 65166, 0, 0), (1576, 65167, 65168, 65169, 65170), (1577, 65171, 65172, 0, 0),
  (1578, 65173, 65174, 65175, 65176), (1579, 65177, 65178, 65179, 65180), (1580, 65181, 65182, 65183, 65184),
  (1581, 65185, 65186, 65187, 65188), (1582, 65189, 65190, 65191, 65192), (1583, 65193, 65194, 0, 0),
  (1584, 65195, 65196, 0, 0), (1585, 65197, 65198, 0, 0), (1586, 65199, 65200, 0, 0),
  (1587, 65201, 65202, 65203, 65204), (1588, 65205, 65206, 65207, 65208), (1589, 65209, 65210, 65211, 65212),
  (1590, 65213, 65214, 65215, 65216), (1591, 65217, 65218, 65219, 65220), (1592, 65221, 65222, 65223, 65224),
  (1593, 65225, 65226, 65227, 65228), (1594, 65229, 65230, 65231, 65232), (1601, 65233, 65234, 65235, 65236),
  (1602, 65237, 65238, 65239, 65240), (1603, 65241, 65242, 65243, 65244), (1604, 65245, 65246, 65247, 65248),
  (1605, 65249, 65250, 65251, 65252), (1606, 65253, 65254, 65255, 65256), (1607, 65257, 65258, 65259, 65260),
  (1608, 65261, 65262, 0, 0), (1609, 65263, 65264, 64488, 64489), (1610, 65265, 65266, 65267, 65268),
  (1649, 64336, 64337, 0, 0), (1655, 64477, 0, 0, 0), (1657, 64358, 64359, 64360, 64361),
  (1658, 64350, 64351, 64352, 64353), (1659, 64338, 64339, 64340, 64341), (1662, 64342, 64343, 64344, 64345),
  (1663, 64354, 64355, 64356, 64357), (1664, 64346, 64347, 64348, 64349), (1667, 64374, 64375, 64376, 64377),
  (1668, 64370, 64371, 64372, 64373), (1670, 64378, 64379, 64380, 64381), (1671, 64382, 64383, 64384, 64385),
  (1672, 64392, 64393, 0, 0), (1676, 64388, 64389, 0, 0), (1677, 64386, 64387, 0, 0),
  (1678, 64390, 64391, 0, 0), (1681, 64396, 64397, 0, 0), (1688, 64394, 64395, 0, 0),
  (1700, 64362, 64363, 64364, 64365), (1702, 64366, 64367, 64368, 64369), (1705, 64398, 64399, 64400, 64401),
  (1709, 64467, 64468, 64469, 64470), (1711, 64402, 64403, 64404, 64405), (1713, 64410, 64411, 64412, 64413),
  (1715, 64406, 64407, 64408, 64409), (1722, 64414, 64415, 0, 0), (1723, 64416, 64417, 64418, 64419),
  (1726, 64426, 64427, 64428, 64429), (1728, 64420, 64421, 0, 0), (1729, 64422, 64423, 64424, 64425),
  (1733, 64480, 64481, 0, 0), (1734, 64473, 64474, 0, 0), (1735, 64471, 64472, 0, 0),
  (1736, 64475, 64476, 0, 0), (1737, 64482, 64483, 0, 0), (1739, 64478, 64479, 0, 0),
  (1740, 64508, 64509, 64510, 64511), (1744, 64484, 64485, 64486, 64487), (1746, 64430, 64431, 0, 0),
  (1747, 64432, 64433, 0, 0)]
theorem Letters (h : Heap) {K : PV → Heap → Prop} (k : K (.list true 5 lets.length (lets.flatMap l5)) h) : CanP Try.prog 27 [] h K := by
  refine e27 rfl ?_
  try simp (maxSteps := 10000000) only [c27, r27_0, r27_1, or_false, false_or, Bool.and_self, Bool.and_true, Bool.true_and, Bool.and_false, Bool.false_and, Bool.not_not, Int.cast_ofNat_Int, beq_self_eq_true, Heap.set_same, Heap.set_set, Heap.kill_kset, Int.toNat_natCast, Int.natCast_nonneg, Int.ofNat_lt, Int.ofNat_le, Int.natCast_inj, pmC, pmE, pmS, pmV, pmK, pmQ, pmL, pmX, pmF, pmO, pmA, pmR, pmW, pmB, Option.isSome_some, ft, olds_ints, olds_bools, ↓reduceIte, Nat.reduceEqDiff, reduceCtorEq, Nat.reduceAdd, Nat.reduceMul, Nat.reduceLeDiff, Nat.reduceLT, Int.reduceLE, Int.reduceLT, Int.reduceEq, Int.reduceToNat, Nat.zero_mul, Nat.zero_add, Nat.mul_one, ne_eq, not_false_eq_true, not_true_eq_false, true_and, and_true, decide_true, decide_false, Bool.not_true, Bool.not_false, Bool.false_eq_true, and_self, Nat.add_zero]
  exact finK_le (Heap.le_refl _) k
theorem old_l51 (p : L5) : olds (l5 p) = l5 p := rfl
theorem wr_l5 (p : L5) : wr [PV.int .i64 0, PV.int .i64 0, PV.int .i64 0, PV.int .i64 0, PV.int .i64 0] 0 (l5 p) = l5 p := by simp [wr, l5, fl]
theorem fl_of (p : L5) : ((l5 p).drop 1).take 4 = (fl p).map (.int .i64) := rfl
end Go.Proofs.Ytlmfdoilbfgleaa
