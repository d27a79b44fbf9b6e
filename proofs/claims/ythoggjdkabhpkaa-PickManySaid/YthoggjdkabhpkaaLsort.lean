/-
  The library's sort of a row of numbers, laid at this seat's program. Printed by this project's own program.
  Conditions: none.
-/
import Derived.Test.YthoggjdkabhpkaaPmU
import Derived.Test.YthoggjdkabhpkaaC
import Derived.KernelRfl
import Derived.Shelf.Sort.AssemblyIn
import Derived.Shelf.Slices.In.SortNone
import Derived.Sort.EveryDepth
namespace Go.Proofs.Ythoggjdkabhpkaa
open Go.Pm Go.Shelf
set_option maxRecDepth 100000
def lsortRen : Go.Shelf.Ren := ⟨fun | 189 => 36 | 125 => 43 | 257 => 42 | 128 => 54 | 129 => 55 | 294 => 45 | 295 => 46 | 296 => 47 | 297 => 48 | 298 => 49 | 299 => 50 | 216 => 51 | 300 => 52 | 301 => 53 | 328 => 57 | 329 => 58 | 330 => 59 | 331 => 60 | 332 => 61 | 215 => 62 | 343 => 65 | n => n, fun | 28 => 22 | 3 => 3 | 46 => 64 | 0 => 0 | 51 => 75 | 53 => 77 | 4 => 4 | 183 => 67 | 182 => 66 | 131 => 72 | 5 => 5 | 9 => 9 | 218 => 80 | 222 => 84 | 228 => 90 | 229 => 91 | n => n, fun | n => n⟩
theorem lsortLays : Go.Proofs.Lays.n189 Try.prog lsortRen where
  mixed := by kernel_rfl
  f125 := Try.func43.trans (congrArg some (by kernel_rfl))
  f128 := Try.func54.trans (congrArg some (by kernel_rfl))
  f129 := Try.func55.trans (congrArg some (by kernel_rfl))
  f189 := Try.func36.trans (congrArg some (by kernel_rfl))
  f215 := Try.func62.trans (congrArg some (by kernel_rfl))
  f216 := Try.func51.trans (congrArg some (by kernel_rfl))
  f257 := Try.func42.trans (congrArg some (by kernel_rfl))
  f294 := Try.func45.trans (congrArg some (by kernel_rfl))
  f295 := Try.func46.trans (congrArg some (by kernel_rfl))
  f296 := Try.func47.trans (congrArg some (by kernel_rfl))
  f297 := Try.func48.trans (congrArg some (by kernel_rfl))
  f298 := Try.func49.trans (congrArg some (by kernel_rfl))
  f299 := Try.func50.trans (congrArg some (by kernel_rfl))
  f300 := Try.func52.trans (congrArg some (by kernel_rfl))
  f301 := Try.func53.trans (congrArg some (by kernel_rfl))
  f328 := Try.func57.trans (congrArg some (by kernel_rfl))
  f329 := Try.func58.trans (congrArg some (by kernel_rfl))
  f330 := Try.func59.trans (congrArg some (by kernel_rfl))
  f331 := Try.func60.trans (congrArg some (by kernel_rfl))
  f332 := Try.func61.trans (congrArg some (by kernel_rfl))
  f343 := Try.func65.trans (congrArg some (by kernel_rfl))
  t0 := Try.underlying0
  a0 := Try.isAgg0
  z0 := Try.sizeOf0
  v0 := Try.zeroValue0
  t3 := Try.underlying3
  a3 := Try.isAgg3
  z3 := Try.sizeOf3
  v3 := Try.zeroValue3
  t4 := Try.underlying4
  a4 := Try.isAgg4
  z4 := Try.sizeOf4
  v4 := Try.zeroValue4
  t5 := Try.underlying5
  a5 := Try.isAgg5
  z5 := Try.sizeOf5
  v5 := Try.zeroValue5
  t9 := Try.underlying9
  a9 := Try.isAgg9
  z9 := Try.sizeOf9
  v9 := Try.zeroValue9
  t28 := Try.underlying22
  a28 := Try.isAgg22
  z28 := Try.sizeOf22
  v28 := Try.zeroValue22
  t46 := Try.underlying64
  a46 := Try.isAgg64
  z46 := Try.sizeOf64
  v46 := Try.zeroValue64
  t51 := Try.underlying75
  a51 := Try.isAgg75
  z51 := Try.sizeOf75
  v51 := Try.zeroValue75
  t53 := Try.underlying77
  a53 := Try.isAgg77
  z53 := Try.sizeOf77
  v53 := Try.zeroValue77
  t131 := Try.underlying72
  a131 := Try.isAgg72
  z131 := Try.sizeOf72
  v131 := Try.zeroValue72
  t182 := Try.underlying66
  a182 := Try.isAgg66
  z182 := Try.sizeOf66
  v182 := Try.zeroValue66
  t183 := Try.underlying67
  a183 := Try.isAgg67
  z183 := Try.sizeOf67
  v183 := Try.zeroValue67
  t218 := Try.underlying80
  a218 := Try.isAgg80
  z218 := Try.sizeOf80
  v218 := Try.zeroValue80
  t222 := Try.underlying84
  a222 := Try.isAgg84
  z222 := Try.sizeOf84
  v222 := Try.zeroValue84
  t228 := Try.underlying90
  a228 := Try.isAgg90
  z228 := Try.sizeOf90
  v228 := Try.zeroValue90
  t229 := Try.underlying91
  a229 := Try.isAgg91
  z229 := Try.sizeOf91
  v229 := Try.zeroValue91
theorem sortInts : SortsInts Try.prog 36 := fun blk off cap zs w hH hb hl => calls_of_every_depth fun D => AnyS.slices_Sort_int_in lsortLays D blk off cap zs w hH hb hl
theorem sortNone (p : Option Addr) (cap : Nat) (w : World) : Calls Try.prog 36 #[.slice p 0 cap] w fun e w' => e = .returned (.tuple #[]) ∧ w' = w := calls_of_every_depth fun D => AnyS.slices_Sort_int_none_in lsortLays D p cap w
theorem enterSort : ∃ fn, Try.prog.funcs[36]? = some fn ∧ (fn.name == "runtime.NumGoroutine") = false ∧ fn.body.isNone = false := ⟨_, Try.func36, by kernel_rfl, by kernel_rfl⟩
theorem SortI (X : List Int) (hl : X.length ≤ 1000000) (b : Nat) (h : Heap) (hb : h.f b = some (X.map (.int .i64))) {K : PV → Heap → Prop} (k : K (.tup []) (h.set b ((X.mergeSort fun x y => decide (x ≤ y)).map (.int .i64)))) :
    CanP Try.prog 36 [.buf b 1 0 X.length] h K := sortInts.can enterSort X hl b h hb k
theorem SortN (fr : Bool) (h : Heap) {K : PV → Heap → Prop} (k : K (.tup []) h) : CanP Try.prog 36 [.list fr 1 0 []] h K :=
  ⟨enterSort, fun w cargs hw ha => by
    simp only [TR, VR] at ha
    obtain ⟨v, vs', h1, ⟨a, c, vs, rfl, _⟩, rfl⟩ := ha
    obtain rfl : cargs = #[.slice a 0 c] := by
      apply Array.toList_inj.1; exact h1
    refine (sortNone a c w).mono ?_
    rintro e w' ⟨rfl, rfl⟩
    exact ⟨.tup [], _, _, rfl, St.refl _ _, hw, by simp [VR, TR], k⟩⟩
end Go.Proofs.Ythoggjdkabhpkaa
