import Derived.Test.YtdfinlpfkmmpkaaDoorProg
import Derived.Shelf.Spec.TrailingZeros
namespace Go.Proofs.YtdfinlpfkmmpkaaDoor
open Go.Shelf
/-! The kit's contract of math/bits.TrailingZeros at this program. -/
def tzRen : Go.Shelf.Ren := ⟨fun | 27 => 22 | 28 => 31 | 29 => 32 | n => n, fun | 0 => 0 | 3 => 3 | 4 => 4 | 5 => 5 | 22 => 66 | 25 => 49 | 27 => 64 | 53 => 78 | 54 => 79 | n => n, fun | 0 => 0 | 1 => 1 | n => n⟩
theorem tzLays : Go.Proofs.Lays7.n27 Tryd.prog tzRen := {
  mixed := by kernel_rfl
  f27 := Tryd.func22.trans (congrArg some (by kernel_rfl))
  f28 := Tryd.func31.trans (congrArg some (by kernel_rfl))
  f29 := Tryd.func32.trans (congrArg some (by kernel_rfl))
  t0 := Tryd.underlying0
  a0 := Tryd.isAgg0
  z0 := Tryd.sizeOf0
  v0 := Tryd.zeroValue0
  i0 := by kernel_rfl
  t3 := Tryd.underlying3
  a3 := Tryd.isAgg3
  z3 := Tryd.sizeOf3
  v3 := Tryd.zeroValue3
  i3 := by kernel_rfl
  t4 := Tryd.underlying4
  a4 := Tryd.isAgg4
  z4 := Tryd.sizeOf4
  v4 := Tryd.zeroValue4
  i4 := by kernel_rfl
  t5 := Tryd.underlying5
  a5 := Tryd.isAgg5
  z5 := Tryd.sizeOf5
  v5 := Tryd.zeroValue5
  i5 := by kernel_rfl
  t22 := Tryd.underlying66
  a22 := Tryd.isAgg66
  z22 := Tryd.sizeOf66
  v22 := Tryd.zeroValue66
  i22 := by kernel_rfl
  t25 := Tryd.underlying49
  a25 := Tryd.isAgg49
  z25 := Tryd.sizeOf49
  v25 := Tryd.zeroValue49
  i25 := by kernel_rfl
  t27 := Tryd.underlying64
  a27 := Tryd.isAgg64
  z27 := Tryd.sizeOf64
  v27 := Tryd.zeroValue64
  i27 := by kernel_rfl
  t53 := Tryd.underlying78
  a53 := Tryd.isAgg78
  z53 := Tryd.sizeOf78
  v53 := Tryd.zeroValue78
  i53 := by kernel_rfl
  t54 := Tryd.underlying79
  a54 := Tryd.isAgg79
  z54 := Tryd.sizeOf79
  g0 := by kernel_rfl
  g1 := by kernel_rfl }
theorem tz_c (x : Nat) (hx : x < 18446744073709551616) (w : World) (hT : ∀ j, j < 64 → w.cell? ⟨1, j, none⟩ = some (.int .u8 (Lib.deBruijn64tab.getD j 0 : Nat))) :
    Calls Tryd.prog 22 #[.int .u64 x] w fun e w' => e = .returned (.int .i64 (Lib.ctz 64 x)) ∧ w' = w :=
  Any7.bits_TrailingZeros tzLays x hx w fun _ j hj => hT j hj
end Go.Proofs.YtdfinlpfkmmpkaaDoor
