/-
  The library's sort of a row of numbers, laid at this seat's program. Printed by this project's own program.
  Conditions: none.
-/
import Derived.Test.YtcgaphmndnmfdaaGreatPmW
import Derived.Test.YtcgaphmndnmfdaaGreatC
import Derived.KernelRfl
import Derived.Shelf.Sort.AssemblyIn
import Derived.Shelf.Slices.In.SortNone
import Derived.Sort.EveryDepth
namespace Go.Proofs.YtcgaphmndnmfdaaGreat
open Go.Pm Go.Shelf
set_option maxRecDepth 100000
def lsortRen : Go.Shelf.Ren := ⟨fun | 189 => 90 | 125 => 125 | 257 => 124 | 128 => 145 | 129 => 146 | 294 => 137 | 295 => 138 | 296 => 139 | 297 => 140 | 298 => 141 | 299 => 142 | 216 => 126 | 300 => 143 | 301 => 144 | 328 => 151 | 329 => 152 | 330 => 153 | 331 => 154 | 332 => 155 | 215 => 147 | 343 => 157 | n => n, fun | 28 => 22 | 3 => 3 | 46 => 162 | 0 => 0 | 51 => 185 | 53 => 187 | 4 => 4 | 183 => 179 | 182 => 178 | 131 => 82 | 5 => 5 | 9 => 9 | 218 => 190 | 222 => 194 | 228 => 196 | 229 => 146 | n => n, fun | n => n⟩
theorem lsortLays : Go.Proofs.Lays.n189 Tryz.prog lsortRen where
  mixed := by kernel_rfl
  f125 := Tryz.func125.trans (congrArg some (by kernel_rfl))
  f128 := Tryz.func145.trans (congrArg some (by kernel_rfl))
  f129 := Tryz.func146.trans (congrArg some (by kernel_rfl))
  f189 := Tryz.func90.trans (congrArg some (by kernel_rfl))
  f215 := Tryz.func147.trans (congrArg some (by kernel_rfl))
  f216 := Tryz.func126.trans (congrArg some (by kernel_rfl))
  f257 := Tryz.func124.trans (congrArg some (by kernel_rfl))
  f294 := Tryz.func137.trans (congrArg some (by kernel_rfl))
  f295 := Tryz.func138.trans (congrArg some (by kernel_rfl))
  f296 := Tryz.func139.trans (congrArg some (by kernel_rfl))
  f297 := Tryz.func140.trans (congrArg some (by kernel_rfl))
  f298 := Tryz.func141.trans (congrArg some (by kernel_rfl))
  f299 := Tryz.func142.trans (congrArg some (by kernel_rfl))
  f300 := Tryz.func143.trans (congrArg some (by kernel_rfl))
  f301 := Tryz.func144.trans (congrArg some (by kernel_rfl))
  f328 := Tryz.func151.trans (congrArg some (by kernel_rfl))
  f329 := Tryz.func152.trans (congrArg some (by kernel_rfl))
  f330 := Tryz.func153.trans (congrArg some (by kernel_rfl))
  f331 := Tryz.func154.trans (congrArg some (by kernel_rfl))
  f332 := Tryz.func155.trans (congrArg some (by kernel_rfl))
  f343 := Tryz.func157.trans (congrArg some (by kernel_rfl))
  t0 := Tryz.underlying0
  a0 := Tryz.isAgg0
  z0 := Tryz.sizeOf0
  v0 := Tryz.zeroValue0
  t3 := Tryz.underlying3
  a3 := Tryz.isAgg3
  z3 := Tryz.sizeOf3
  v3 := Tryz.zeroValue3
  t4 := Tryz.underlying4
  a4 := Tryz.isAgg4
  z4 := Tryz.sizeOf4
  v4 := Tryz.zeroValue4
  t5 := Tryz.underlying5
  a5 := Tryz.isAgg5
  z5 := Tryz.sizeOf5
  v5 := Tryz.zeroValue5
  t9 := Tryz.underlying9
  a9 := Tryz.isAgg9
  z9 := Tryz.sizeOf9
  v9 := Tryz.zeroValue9
  t28 := Tryz.underlying22
  a28 := Tryz.isAgg22
  z28 := Tryz.sizeOf22
  v28 := Tryz.zeroValue22
  t46 := Tryz.underlying162
  a46 := Tryz.isAgg162
  z46 := Tryz.sizeOf162
  v46 := Tryz.zeroValue162
  t51 := Tryz.underlying185
  a51 := Tryz.isAgg185
  z51 := Tryz.sizeOf185
  v51 := Tryz.zeroValue185
  t53 := Tryz.underlying187
  a53 := Tryz.isAgg187
  z53 := Tryz.sizeOf187
  v53 := Tryz.zeroValue187
  t131 := Tryz.underlying82
  a131 := Tryz.isAgg82
  z131 := Tryz.sizeOf82
  v131 := Tryz.zeroValue82
  t182 := Tryz.underlying178
  a182 := Tryz.isAgg178
  z182 := Tryz.sizeOf178
  v182 := Tryz.zeroValue178
  t183 := Tryz.underlying179
  a183 := Tryz.isAgg179
  z183 := Tryz.sizeOf179
  v183 := Tryz.zeroValue179
  t218 := Tryz.underlying190
  a218 := Tryz.isAgg190
  z218 := Tryz.sizeOf190
  v218 := Tryz.zeroValue190
  t222 := Tryz.underlying194
  a222 := Tryz.isAgg194
  z222 := Tryz.sizeOf194
  v222 := Tryz.zeroValue194
  t228 := Tryz.underlying196
  a228 := Tryz.isAgg196
  z228 := Tryz.sizeOf196
  v228 := Tryz.zeroValue196
  t229 := Tryz.underlying146
  a229 := Tryz.isAgg146
  z229 := Tryz.sizeOf146
  v229 := Tryz.zeroValue146
theorem sortInts : SortsInts Tryz.prog 90 := fun blk off cap zs w hH hb hl => calls_of_every_depth fun D => AnyS.slices_Sort_int_in lsortLays D blk off cap zs w hH hb hl
theorem sortNone (p : Option Addr) (cap : Nat) (w : World) : Calls Tryz.prog 90 #[.slice p 0 cap] w fun e w' => e = .returned (.tuple #[]) ∧ w' = w := calls_of_every_depth fun D => AnyS.slices_Sort_int_none_in lsortLays D p cap w
theorem enterSort : ∃ fn, Tryz.prog.funcs[90]? = some fn ∧ (fn.name == "runtime.NumGoroutine") = false ∧ fn.body.isNone = false := ⟨_, Tryz.func90, by kernel_rfl, by kernel_rfl⟩
theorem SortI (X : List Int) (hl : X.length ≤ 1000000) (b : Nat) (h : Heap) (hb : h.f b = some (X.map (.int .i64))) {K : PV → Heap → Prop} (k : K (.tup []) (h.set b ((X.mergeSort fun x y => decide (x ≤ y)).map (.int .i64)))) :
    CanP Tryz.prog 90 [.buf b 1 0 X.length] h K := sortInts.can enterSort X hl b h hb k
theorem SortN (fr : Bool) (h : Heap) {K : PV → Heap → Prop} (k : K (.tup []) h) : CanP Tryz.prog 90 [.list fr 1 0 []] h K :=
  ⟨enterSort, fun w cargs hw ha => by
    simp only [TR, VR] at ha
    obtain ⟨v, vs', h1, ⟨a, c, vs, rfl, _⟩, rfl⟩ := ha
    obtain rfl : cargs = #[.slice a 0 c] := by
      apply Array.toList_inj.1; exact h1
    refine (sortNone a c w).mono ?_
    rintro e w' ⟨rfl, rfl⟩
    exact ⟨.tup [], _, _, rfl, St.refl _ _, hw, by simp [VR, TR], k⟩⟩
end Go.Proofs.YtcgaphmndnmfdaaGreat
