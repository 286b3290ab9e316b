/- The library's contracts at this program: laid by the shelf's own tools. -/
import Derived.Shelf.Sort.Plain
import Derived.Test.YtjdjncfpcbeedaaDoorProg
namespace Go.Proofs
open Go.Shelf
def Tryd.lays189_ren : Go.Shelf.Ren := ⟨fun | 189 => 94 | 125 => 116 | 257 => 115 | 128 => 135 | 129 => 136 | 294 => 126 | 295 => 127 | 296 => 128 | 297 => 129 | 298 => 130 | 299 => 131 | 216 => 132 | 300 => 133 | 301 => 134 | 328 => 144 | 329 => 145 | 330 => 146 | 331 => 147 | 332 => 148 | 215 => 91 | 343 => 153 | n => n, fun | 28 => 29 | 3 => 3 | 46 => 158 | 0 => 0 | 51 => 189 | 53 => 192 | 4 => 4 | 183 => 198 | 182 => 197 | 131 => 47 | 5 => 5 | 9 => 9 | 218 => 212 | 222 => 216 | 228 => 221 | 229 => 87 | n => n, fun | n => n⟩
theorem Tryd.lays189 : Go.Proofs.Lays.n189 Tryd.prog Tryd.lays189_ren := {
  mixed := by kernel_rfl
  f125 := Tryd.func116.trans (congrArg some (by kernel_rfl))
  f128 := Tryd.func135.trans (congrArg some (by kernel_rfl))
  f129 := Tryd.func136.trans (congrArg some (by kernel_rfl))
  f189 := Tryd.func94.trans (congrArg some (by kernel_rfl))
  f215 := Tryd.func91.trans (congrArg some (by kernel_rfl))
  f216 := Tryd.func132.trans (congrArg some (by kernel_rfl))
  f257 := Tryd.func115.trans (congrArg some (by kernel_rfl))
  f294 := Tryd.func126.trans (congrArg some (by kernel_rfl))
  f295 := Tryd.func127.trans (congrArg some (by kernel_rfl))
  f296 := Tryd.func128.trans (congrArg some (by kernel_rfl))
  f297 := Tryd.func129.trans (congrArg some (by kernel_rfl))
  f298 := Tryd.func130.trans (congrArg some (by kernel_rfl))
  f299 := Tryd.func131.trans (congrArg some (by kernel_rfl))
  f300 := Tryd.func133.trans (congrArg some (by kernel_rfl))
  f301 := Tryd.func134.trans (congrArg some (by kernel_rfl))
  f328 := Tryd.func144.trans (congrArg some (by kernel_rfl))
  f329 := Tryd.func145.trans (congrArg some (by kernel_rfl))
  f330 := Tryd.func146.trans (congrArg some (by kernel_rfl))
  f331 := Tryd.func147.trans (congrArg some (by kernel_rfl))
  f332 := Tryd.func148.trans (congrArg some (by kernel_rfl))
  f343 := Tryd.func153.trans (congrArg some (by kernel_rfl))
  t0 := Tryd.underlying0
  a0 := Tryd.isAgg0
  z0 := Tryd.sizeOf0
  v0 := Tryd.zeroValue0
  t3 := Tryd.underlying3
  a3 := Tryd.isAgg3
  z3 := Tryd.sizeOf3
  v3 := Tryd.zeroValue3
  t4 := Tryd.underlying4
  a4 := Tryd.isAgg4
  z4 := Tryd.sizeOf4
  v4 := Tryd.zeroValue4
  t5 := Tryd.underlying5
  a5 := Tryd.isAgg5
  z5 := Tryd.sizeOf5
  v5 := Tryd.zeroValue5
  t9 := Tryd.underlying9
  a9 := Tryd.isAgg9
  z9 := Tryd.sizeOf9
  v9 := Tryd.zeroValue9
  t28 := Tryd.underlying29
  a28 := Tryd.isAgg29
  z28 := Tryd.sizeOf29
  v28 := Tryd.zeroValue29
  t46 := Tryd.underlying158
  a46 := Tryd.isAgg158
  z46 := Tryd.sizeOf158
  v46 := Tryd.zeroValue158
  t51 := Tryd.underlying189
  a51 := Tryd.isAgg189
  z51 := Tryd.sizeOf189
  v51 := Tryd.zeroValue189
  t53 := Tryd.underlying192
  a53 := Tryd.isAgg192
  z53 := Tryd.sizeOf192
  v53 := Tryd.zeroValue192
  t131 := Tryd.underlying47
  a131 := Tryd.isAgg47
  z131 := Tryd.sizeOf47
  v131 := Tryd.zeroValue47
  t182 := Tryd.underlying197
  a182 := Tryd.isAgg197
  z182 := Tryd.sizeOf197
  v182 := Tryd.zeroValue197
  t183 := Tryd.underlying198
  a183 := Tryd.isAgg198
  z183 := Tryd.sizeOf198
  v183 := Tryd.zeroValue198
  t218 := Tryd.underlying212
  a218 := Tryd.isAgg212
  z218 := Tryd.sizeOf212
  v218 := Tryd.zeroValue212
  t222 := Tryd.underlying216
  a222 := Tryd.isAgg216
  z222 := Tryd.sizeOf216
  v222 := Tryd.zeroValue216
  t228 := Tryd.underlying221
  a228 := Tryd.isAgg221
  z228 := Tryd.sizeOf221
  v228 := Tryd.zeroValue221
  t229 := Tryd.underlying87
  a229 := Tryd.isAgg87
  z229 := Tryd.sizeOf87
  v229 := Tryd.zeroValue87 }
open Go.Sort Go.RowKit in
theorem Tryd.slices_Sort_int (blk off cap : Nat) (zs : List Int) (w : World) (hH : Holds (Value.int .i64) w blk off zs.toArray) (hblk : blk < w.heap.size) (hsz : zs.length < 4611686018427387904) :
    Calls Tryd.prog 94 #[.slice (some ⟨blk, off, none⟩) zs.length cap] w fun e w' =>
      e = .returned (.tuple #[]) ∧ ∃ n os, w' = grow (putRow (Value.int .i64) (Sort.ahead w n) blk off (zs.mergeSort fun x y => decide (x ≤ y)).toArray) os := Any.slices_Sort_int Tryd.lays189 blk off cap zs w hH hblk hsz
end Go.Proofs
