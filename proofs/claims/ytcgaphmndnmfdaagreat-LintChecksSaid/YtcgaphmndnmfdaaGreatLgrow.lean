/-
  The library's Grow of a row of numbers, laid at this seat's program. Printed by this project's own program.
  Conditions: none.
-/
import Derived.Test.YtcgaphmndnmfdaaGreatPmW
import Derived.Test.YtcgaphmndnmfdaaGreatC
import Derived.KernelRfl
import Derived.Shelf.Spec.SlicesGrow
namespace Go.Proofs.YtcgaphmndnmfdaaGreat
open Go.Pm Go.Shelf
set_option maxRecDepth 100000
def lgrowRen : Go.Shelf.Ren := ⟨fun | 4 => 116 | n => n, fun | 22 => 22 | 25 => 3 | 3 => 3 | 4 => 4 | 9 => 9 | 20 => 20 | 0 => 0 | n => n, fun | n => n⟩
theorem lgrowLays : Go.Proofs.Lays8.n4 Tryz.prog lgrowRen where
  mixed := by kernel_rfl
  f4 := ⟨ "slices.Grow[[]int,int]", by kernel_rfl, Tryz.func116.trans (congrArg some (by kernel_rfl))⟩
  t0 := Tryz.underlying0
  a0 := Tryz.isAgg0
  z0 := Tryz.sizeOf0
  v0 := Tryz.zeroValue0
  t3 := Tryz.underlying3
  a3 := Tryz.isAgg3
  z3 := Tryz.sizeOf3
  v3 := Tryz.zeroValue3
  t4 := Tryz.underlying4
  a4 := Tryz.isAgg4
  z4 := Tryz.sizeOf4
  v4 := Tryz.zeroValue4
  t9 := Tryz.underlying9
  a9 := Tryz.isAgg9
  z9 := Tryz.sizeOf9
  v9 := Tryz.zeroValue9
  t20 := Tryz.underlying20
  a20 := Tryz.isAgg20
  z20 := Tryz.sizeOf20
  v20 := Tryz.zeroValue20
  t22 := Tryz.underlying22
  a22 := Tryz.isAgg22
  z22 := Tryz.sizeOf22
  v22 := Tryz.zeroValue22
theorem growNil : GrowsNil Tryz.prog 116 := by
  refine ⟨fun w => Any8.slices_Grow_room lgrowLays none 0 0 0 w (by omega) (by omega) (by omega) (by omega), fun n w hn hl => ?_⟩
  have hi : (match Tryz.prog.info? 3 with | some i => i.size == 1 && i.bytes == 8 && (match i.zero with | some z => z.cells.size == 1 | none => false) | none => false) = true := by kernel_rfl
  split at hi
  · rename_i i0 e0
    simp only [Bool.and_eq_true, beq_iff_eq] at hi
    obtain ⟨⟨h1, h2⟩, h3⟩ := hi
    split at h3
    · rename_i z ez
      have hz : z.cells.size = 1 := by simpa using h3
      refine (Any8.slices_Grow_grow lgrowLays i0 z e0 ez (by omega) none 0 0 n [] w (by omega) (by omega) (by rw [h2]; omega) (by omega) (by simp) (fun _ => rfl) (fun a e => by cases e)).mono ?_
      rintro e w' ⟨rfl, rfl⟩
      have hge := grownCap_ge w (0 + n) 0 (lgrowRen.t 25)
      refine ⟨_, _, _, rfl, rfl, ?_, grownCap_le_maxLen w (0 + n) 0 (lgrowRen.t 25) (by unfold maxLen; omega)⟩
      simp only [Array.size_append, Builtin.zeroCells, Array.size_map, Array.size_range, hz, List.size_toArray, List.length_nil]
      omega
    · cases h3
  · cases hi
theorem enterGrow : ∃ fn, Tryz.prog.funcs[116]? = some fn ∧ (fn.name == "runtime.NumGoroutine") = false ∧ fn.body.isNone = false := ⟨_, Tryz.func116, by kernel_rfl, by kernel_rfl⟩
theorem GrowNil (n : Nat) (hn : n ≤ 100000000) (h : Heap) {K : PV → Heap → Prop} (k0 : n = 0 → K .nils h) (k : n ≠ 0 → ∀ b, h.f b = none → K (.buf b 1 0 0) (h.set b [])) :
    CanP Tryz.prog 116 [.nils, .int .i64 n] h K := growNil.can enterGrow n hn h k0 k
end Go.Proofs.YtcgaphmndnmfdaaGreat
