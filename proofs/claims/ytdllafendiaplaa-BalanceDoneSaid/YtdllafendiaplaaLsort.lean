/-
  The library's sort of a row of numbers, laid at this seat's program. Printed by this project's own program.
  Conditions: none.
-/
import Derived.Test.YtdllafendiaplaaPmU
import Derived.Test.YtdllafendiaplaaC
import Derived.KernelRfl
import Derived.Shelf.Sort.AssemblyIn
import Derived.Shelf.Slices.In.SortNone
import Derived.Sort.EveryDepth
namespace Go.Proofs.Ytdllafendiaplaa
open Go.Pm Go.Shelf
set_option maxRecDepth 100000
def lsortRen : Go.Shelf.Ren := ⟨fun | 189 => 24 | 125 => 47 | 257 => 46 | 128 => 76 | 129 => 77 | 294 => 67 | 295 => 68 | 296 => 69 | 297 => 70 | 298 => 71 | 299 => 72 | 216 => 73 | 300 => 74 | 301 => 75 | 328 => 85 | 329 => 86 | 330 => 87 | 331 => 88 | 332 => 89 | 215 => 90 | 343 => 91 | n => n, fun | 28 => 22 | 3 => 3 | 46 => 67 | 0 => 0 | 51 => 102 | 53 => 104 | 4 => 4 | 183 => 95 | 182 => 94 | 131 => 85 | 5 => 5 | 9 => 9 | 218 => 109 | 222 => 113 | 228 => 115 | 229 => 116 | n => n, fun | n => n⟩
theorem lsortLays : Go.Proofs.Lays.n189 Try.prog lsortRen where
  mixed := by kernel_rfl
  f125 := Try.func47.trans (congrArg some (by kernel_rfl))
  f128 := Try.func76.trans (congrArg some (by kernel_rfl))
  f129 := Try.func77.trans (congrArg some (by kernel_rfl))
  f189 := Try.func24.trans (congrArg some (by kernel_rfl))
  f215 := Try.func90.trans (congrArg some (by kernel_rfl))
  f216 := Try.func73.trans (congrArg some (by kernel_rfl))
  f257 := Try.func46.trans (congrArg some (by kernel_rfl))
  f294 := Try.func67.trans (congrArg some (by kernel_rfl))
  f295 := Try.func68.trans (congrArg some (by kernel_rfl))
  f296 := Try.func69.trans (congrArg some (by kernel_rfl))
  f297 := Try.func70.trans (congrArg some (by kernel_rfl))
  f298 := Try.func71.trans (congrArg some (by kernel_rfl))
  f299 := Try.func72.trans (congrArg some (by kernel_rfl))
  f300 := Try.func74.trans (congrArg some (by kernel_rfl))
  f301 := Try.func75.trans (congrArg some (by kernel_rfl))
  f328 := Try.func85.trans (congrArg some (by kernel_rfl))
  f329 := Try.func86.trans (congrArg some (by kernel_rfl))
  f330 := Try.func87.trans (congrArg some (by kernel_rfl))
  f331 := Try.func88.trans (congrArg some (by kernel_rfl))
  f332 := Try.func89.trans (congrArg some (by kernel_rfl))
  f343 := Try.func91.trans (congrArg some (by kernel_rfl))
  t0 := Try.underlying0
  a0 := Try.isAgg0
  z0 := Try.sizeOf0
  v0 := Try.zeroValue0
  t3 := Try.underlying3
  a3 := Try.isAgg3
  z3 := Try.sizeOf3
  v3 := Try.zeroValue3
  t4 := Try.underlying4
  a4 := Try.isAgg4
  z4 := Try.sizeOf4
  v4 := Try.zeroValue4
  t5 := Try.underlying5
  a5 := Try.isAgg5
  z5 := Try.sizeOf5
  v5 := Try.zeroValue5
  t9 := Try.underlying9
  a9 := Try.isAgg9
  z9 := Try.sizeOf9
  v9 := Try.zeroValue9
  t28 := Try.underlying22
  a28 := Try.isAgg22
  z28 := Try.sizeOf22
  v28 := Try.zeroValue22
  t46 := Try.underlying67
  a46 := Try.isAgg67
  z46 := Try.sizeOf67
  v46 := Try.zeroValue67
  t51 := Try.underlying102
  a51 := Try.isAgg102
  z51 := Try.sizeOf102
  v51 := Try.zeroValue102
  t53 := Try.underlying104
  a53 := Try.isAgg104
  z53 := Try.sizeOf104
  v53 := Try.zeroValue104
  t131 := Try.underlying85
  a131 := Try.isAgg85
  z131 := Try.sizeOf85
  v131 := Try.zeroValue85
  t182 := Try.underlying94
  a182 := Try.isAgg94
  z182 := Try.sizeOf94
  v182 := Try.zeroValue94
  t183 := Try.underlying95
  a183 := Try.isAgg95
  z183 := Try.sizeOf95
  v183 := Try.zeroValue95
  t218 := Try.underlying109
  a218 := Try.isAgg109
  z218 := Try.sizeOf109
  v218 := Try.zeroValue109
  t222 := Try.underlying113
  a222 := Try.isAgg113
  z222 := Try.sizeOf113
  v222 := Try.zeroValue113
  t228 := Try.underlying115
  a228 := Try.isAgg115
  z228 := Try.sizeOf115
  v228 := Try.zeroValue115
  t229 := Try.underlying116
  a229 := Try.isAgg116
  z229 := Try.sizeOf116
  v229 := Try.zeroValue116
theorem sortInts : SortsInts Try.prog 24 := fun blk off cap zs w hH hb hl => calls_of_every_depth fun D => AnyS.slices_Sort_int_in lsortLays D blk off cap zs w hH hb hl
theorem sortNone (p : Option Addr) (cap : Nat) (w : World) : Calls Try.prog 24 #[.slice p 0 cap] w fun e w' => e = .returned (.tuple #[]) ∧ w' = w := calls_of_every_depth fun D => AnyS.slices_Sort_int_none_in lsortLays D p cap w
theorem enterSort : ∃ fn, Try.prog.funcs[24]? = some fn ∧ (fn.name == "runtime.NumGoroutine") = false ∧ fn.body.isNone = false := ⟨_, Try.func24, by kernel_rfl, by kernel_rfl⟩
theorem SortI (X : List Int) (hl : X.length ≤ 1000000) (b : Nat) (h : Heap) (hb : h.f b = some (X.map (.int .i64))) {K : PV → Heap → Prop} (k : K (.tup []) (h.set b ((X.mergeSort fun x y => decide (x ≤ y)).map (.int .i64)))) :
    CanP Try.prog 24 [.buf b 1 0 X.length] h K := sortInts.can enterSort X hl b h hb k
theorem SortN (fr : Bool) (h : Heap) {K : PV → Heap → Prop} (k : K (.tup []) h) : CanP Try.prog 24 [.list fr 1 0 []] h K :=
  ⟨enterSort, fun w cargs hw ha => by
    simp only [TR, VR] at ha
    obtain ⟨v, vs', h1, ⟨a, c, vs, rfl, _⟩, rfl⟩ := ha
    obtain rfl : cargs = #[.slice a 0 c] := by
      apply Array.toList_inj.1; exact h1
    refine (sortNone a c w).mono ?_
    rintro e w' ⟨rfl, rfl⟩
    exact ⟨.tup [], _, _, rfl, St.refl _ _, hw, by simp [VR, TR], k⟩⟩
end Go.Proofs.Ytdllafendiaplaa
