/-
  The library's sort of a row of numbers, laid at this seat's program. Printed by this project's own program.
  Conditions: none.
-/
import Derived.Test.YtcgaphmndnmfdaaPmW
import Derived.Test.YtcgaphmndnmfdaaC
import Derived.KernelRfl
import Derived.Shelf.Sort.AssemblyIn
import Derived.Shelf.Slices.In.SortNone
import Derived.Sort.EveryDepth
namespace Go.Proofs.Ytcgaphmndnmfdaa
open Go.Pm Go.Shelf
set_option maxRecDepth 100000
def lsortRen : Go.Shelf.Ren := ⟨fun | 189 => 43 | 125 => 60 | 257 => 59 | 128 => 82 | 129 => 83 | 294 => 74 | 295 => 75 | 296 => 76 | 297 => 77 | 298 => 78 | 299 => 79 | 216 => 61 | 300 => 80 | 301 => 81 | 328 => 90 | 329 => 91 | 330 => 92 | 331 => 93 | 332 => 94 | 215 => 84 | 343 => 96 | n => n, fun | 28 => 23 | 3 => 3 | 46 => 106 | 0 => 0 | 51 => 127 | 53 => 129 | 4 => 4 | 183 => 121 | 182 => 120 | 131 => 91 | 5 => 5 | 9 => 9 | 218 => 146 | 222 => 150 | 228 => 157 | 229 => 96 | n => n, fun | n => n⟩
theorem lsortLays : Go.Proofs.Lays.n189 Try.prog lsortRen where
  mixed := by kernel_rfl
  f125 := Try.func60.trans (congrArg some (by kernel_rfl))
  f128 := Try.func82.trans (congrArg some (by kernel_rfl))
  f129 := Try.func83.trans (congrArg some (by kernel_rfl))
  f189 := Try.func43.trans (congrArg some (by kernel_rfl))
  f215 := Try.func84.trans (congrArg some (by kernel_rfl))
  f216 := Try.func61.trans (congrArg some (by kernel_rfl))
  f257 := Try.func59.trans (congrArg some (by kernel_rfl))
  f294 := Try.func74.trans (congrArg some (by kernel_rfl))
  f295 := Try.func75.trans (congrArg some (by kernel_rfl))
  f296 := Try.func76.trans (congrArg some (by kernel_rfl))
  f297 := Try.func77.trans (congrArg some (by kernel_rfl))
  f298 := Try.func78.trans (congrArg some (by kernel_rfl))
  f299 := Try.func79.trans (congrArg some (by kernel_rfl))
  f300 := Try.func80.trans (congrArg some (by kernel_rfl))
  f301 := Try.func81.trans (congrArg some (by kernel_rfl))
  f328 := Try.func90.trans (congrArg some (by kernel_rfl))
  f329 := Try.func91.trans (congrArg some (by kernel_rfl))
  f330 := Try.func92.trans (congrArg some (by kernel_rfl))
  f331 := Try.func93.trans (congrArg some (by kernel_rfl))
  f332 := Try.func94.trans (congrArg some (by kernel_rfl))
  f343 := Try.func96.trans (congrArg some (by kernel_rfl))
  t0 := Try.underlying0
  a0 := Try.isAgg0
  z0 := Try.sizeOf0
  v0 := Try.zeroValue0
  t3 := Try.underlying3
  a3 := Try.isAgg3
  z3 := Try.sizeOf3
  v3 := Try.zeroValue3
  t4 := Try.underlying4
  a4 := Try.isAgg4
  z4 := Try.sizeOf4
  v4 := Try.zeroValue4
  t5 := Try.underlying5
  a5 := Try.isAgg5
  z5 := Try.sizeOf5
  v5 := Try.zeroValue5
  t9 := Try.underlying9
  a9 := Try.isAgg9
  z9 := Try.sizeOf9
  v9 := Try.zeroValue9
  t28 := Try.underlying23
  a28 := Try.isAgg23
  z28 := Try.sizeOf23
  v28 := Try.zeroValue23
  t46 := Try.underlying106
  a46 := Try.isAgg106
  z46 := Try.sizeOf106
  v46 := Try.zeroValue106
  t51 := Try.underlying127
  a51 := Try.isAgg127
  z51 := Try.sizeOf127
  v51 := Try.zeroValue127
  t53 := Try.underlying129
  a53 := Try.isAgg129
  z53 := Try.sizeOf129
  v53 := Try.zeroValue129
  t131 := Try.underlying91
  a131 := Try.isAgg91
  z131 := Try.sizeOf91
  v131 := Try.zeroValue91
  t182 := Try.underlying120
  a182 := Try.isAgg120
  z182 := Try.sizeOf120
  v182 := Try.zeroValue120
  t183 := Try.underlying121
  a183 := Try.isAgg121
  z183 := Try.sizeOf121
  v183 := Try.zeroValue121
  t218 := Try.underlying146
  a218 := Try.isAgg146
  z218 := Try.sizeOf146
  v218 := Try.zeroValue146
  t222 := Try.underlying150
  a222 := Try.isAgg150
  z222 := Try.sizeOf150
  v222 := Try.zeroValue150
  t228 := Try.underlying157
  a228 := Try.isAgg157
  z228 := Try.sizeOf157
  v228 := Try.zeroValue157
  t229 := Try.underlying96
  a229 := Try.isAgg96
  z229 := Try.sizeOf96
  v229 := Try.zeroValue96
theorem sortInts : SortsInts Try.prog 43 := fun blk off cap zs w hH hb hl => calls_of_every_depth fun D => AnyS.slices_Sort_int_in lsortLays D blk off cap zs w hH hb hl
theorem sortNone (p : Option Addr) (cap : Nat) (w : World) : Calls Try.prog 43 #[.slice p 0 cap] w fun e w' => e = .returned (.tuple #[]) ∧ w' = w := calls_of_every_depth fun D => AnyS.slices_Sort_int_none_in lsortLays D p cap w
theorem enterSort : ∃ fn, Try.prog.funcs[43]? = some fn ∧ (fn.name == "runtime.NumGoroutine") = false ∧ fn.body.isNone = false := ⟨_, Try.func43, by kernel_rfl, by kernel_rfl⟩
theorem SortI (X : List Int) (hl : X.length ≤ 1000000) (b : Nat) (h : Heap) (hb : h.f b = some (X.map (.int .i64))) {K : PV → Heap → Prop} (k : K (.tup []) (h.set b ((X.mergeSort fun x y => decide (x ≤ y)).map (.int .i64)))) :
    CanP Try.prog 43 [.buf b 1 0 X.length] h K := sortInts.can enterSort X hl b h hb k
theorem SortN (fr : Bool) (h : Heap) {K : PV → Heap → Prop} (k : K (.tup []) h) : CanP Try.prog 43 [.list fr 1 0 []] h K :=
  ⟨enterSort, fun w cargs hw ha => by
    simp only [TR, VR] at ha
    obtain ⟨v, vs', h1, ⟨a, c, vs, rfl, _⟩, rfl⟩ := ha
    obtain rfl : cargs = #[.slice a 0 c] := by
      apply Array.toList_inj.1; exact h1
    refine (sortNone a c w).mono ?_
    rintro e w' ⟨rfl, rfl⟩
    exact ⟨.tup [], _, _, rfl, St.refl _ _, hw, by simp [VR, TR], k⟩⟩
end Go.Proofs.Ytcgaphmndnmfdaa
