/- slices.Sorted and maps.Keys laid at this program: written by the shelf's tool lay-plain. -/
import Derived.Shelf.SlIter.Nil
import Derived.Test.YtcbonfgkfiapaaaProg
namespace Go.Proofs
open Go.Shelf
def Try.keys120_ren : Go.Shelf.Ren := ⟨fun | 7 => 120 | 10 => 145 | n => n, fun | 23 => 128 | 26 => 9 | 3 => 9 | 28 => 108 | 0 => 0 | 27 => 107 | 33 => 25 | 4 => 4 | n => n, fun | n => n⟩
theorem Try.keys120 : Go.Proofs.SlLaysZ.n7 Try.prog Try.keys120_ren := {
  mixed := by kernel_rfl
  f7 := ⟨Try.f120.name, by decide, Try.func120.trans (congrArg some (by kernel_rfl))⟩
  f10 := ⟨Try.f145.name, by decide, Try.func145.trans (congrArg some (by kernel_rfl))⟩
  t0 := Try.underlying0
  a0 := Try.isAgg0
  z0 := Try.sizeOf0
  v0 := Try.zeroValue0
  t4 := Try.underlying4
  a4 := Try.isAgg4
  z4 := Try.sizeOf4
  v4 := Try.zeroValue4
  t23 := Try.underlying128
  a23 := Try.isAgg128
  z23 := Try.sizeOf128
  v23 := Try.zeroValue128
  t26 := Try.underlying9
  a26 := Try.isAgg9
  z26 := Try.sizeOf9
  v26 := Try.zeroValue9
  t27 := Try.underlying107
  a27 := Try.isAgg107
  z27 := Try.sizeOf107
  v27 := Try.zeroValue107
  t28 := Try.underlying108
  a28 := Try.isAgg108
  z28 := Try.sizeOf108
  v28 := Try.zeroValue108
  t33 := Try.underlying25
  a33 := Try.isAgg25
  z33 := Try.sizeOf25
  v33 := Try.zeroValue25 }
def Try.sorted119_ren : Go.Shelf.Ren := ⟨fun | 6 => 119 | 8 => 143 | 9 => 144 | 11 => 167 | 13 => 169 | 12 => 168 | 23 => 192 | 24 => 193 | 14 => 183 | 15 => 184 | 16 => 185 | 17 => 186 | 18 => 187 | 19 => 188 | 20 => 189 | 21 => 190 | 22 => 191 | 25 => 197 | 26 => 198 | 27 => 199 | 28 => 200 | 29 => 201 | 30 => 202 | 31 => 204 | n => n, fun | 26 => 9 | 28 => 108 | 24 => 49 | 0 => 0 | 3 => 3 | 37 => 162 | 48 => 178 | 50 => 180 | 4 => 4 | 40 => 171 | 39 => 170 | 45 => 175 | 5 => 5 | 9 => 9 | 51 => 185 | 55 => 189 | 57 => 191 | 58 => 192 | 33 => 25 | n => n, fun | n => n⟩
theorem Try.sorted119 : Go.Proofs.SlLaysZ.n6 Try.prog Try.sorted119_ren := {
  mixed := by kernel_rfl
  f6 := ⟨Try.f119.name, by decide, Try.func119.trans (congrArg some (by kernel_rfl))⟩
  f8 := ⟨Try.f143.name, by decide, Try.func143.trans (congrArg some (by kernel_rfl))⟩
  f11 := ⟨Try.f167.name, by decide, Try.func167.trans (congrArg some (by kernel_rfl))⟩
  t0 := Try.underlying0
  a0 := Try.isAgg0
  z0 := Try.sizeOf0
  v0 := Try.zeroValue0
  t24 := Try.underlying49
  a24 := Try.isAgg49
  z24 := Try.sizeOf49
  v24 := Try.zeroValue49
  t26 := Try.underlying9
  a26 := Try.isAgg9
  z26 := Try.sizeOf9
  v26 := Try.zeroValue9
  t28 := Try.underlying108
  a28 := Try.isAgg108
  z28 := Try.sizeOf108
  v28 := Try.zeroValue108
  i26 := by kernel_rfl }
end Go.Proofs
