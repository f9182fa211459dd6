/- maps.Clone laid at this program: written by the shelf's tool lay-plain. -/
import Derived.Shelf.SlMaps.Clone
import Derived.Test.YtcbonfgkfiapaaaProg
namespace Go.Proofs
open Go.Shelf
def Try.clone121_ren : Go.Shelf.Ren := ⟨fun | 5 => 121 | 7 => 146 | n => n, fun | 23 => 128 | 25 => 9 | 3 => 9 | 4 => 4 | 20 => 20 | n => n, fun | n => n⟩
theorem Try.clone121 : Go.Proofs.SlLaysW.n5 Try.prog Try.clone121_ren := {
  mixed := by kernel_rfl
  f5 := ⟨Try.f121.name, by decide, Try.func121.trans (congrArg some (by kernel_rfl))⟩
  f7 := Try.func146.trans (congrArg some (by kernel_rfl))
  t4 := Try.underlying4
  a4 := Try.isAgg4
  z4 := Try.sizeOf4
  v4 := Try.zeroValue4
  t20 := Try.underlying20
  a20 := Try.isAgg20
  z20 := Try.sizeOf20
  v20 := Try.zeroValue20
  t23 := Try.underlying128
  a23 := Try.isAgg128
  z23 := Try.sizeOf128
  v23 := Try.zeroValue128 }
end Go.Proofs
