/- The library's slices.Sort at integers, at this program: the contract that the kit proved once. No condition is laid on any input. -/
import Derived.Shelf.Sort.Plain
import Derived.Shelf.Slices.In.SortNone
import Derived.Test.YtecdbfbaclgejaaProg
namespace Go.Proofs
open Go.Shelf
def Try.lays189_ren : Go.Shelf.Ren := ⟨fun | 189 => 156 | 125 => 207 | 257 => 206 | 128 => 236 | 129 => 237 | 294 => 227 | 295 => 228 | 296 => 229 | 297 => 230 | 298 => 231 | 299 => 232 | 216 => 233 | 300 => 234 | 301 => 235 | 328 => 252 | 329 => 253 | 330 => 254 | 331 => 255 | 332 => 256 | 215 => 225 | 343 => 262 | n => n, fun | 28 => 30 | 3 => 3 | 46 => 258 | 0 => 0 | 51 => 219 | 53 => 44 | 4 => 4 | 183 => 279 | 182 => 278 | 131 => 155 | 5 => 5 | 9 => 9 | 218 => 301 | 222 => 305 | 228 => 312 | 229 => 313 | n => n, fun | n => n⟩
theorem Try.lays189 : Go.Proofs.Lays.n189 Try.prog Try.lays189_ren := {
  mixed := by kernel_rfl
  f125 := Try.func207.trans (congrArg some (by kernel_rfl))
  f128 := Try.func236.trans (congrArg some (by kernel_rfl))
  f129 := Try.func237.trans (congrArg some (by kernel_rfl))
  f189 := Try.func156.trans (congrArg some (by kernel_rfl))
  f215 := Try.func225.trans (congrArg some (by kernel_rfl))
  f216 := Try.func233.trans (congrArg some (by kernel_rfl))
  f257 := Try.func206.trans (congrArg some (by kernel_rfl))
  f294 := Try.func227.trans (congrArg some (by kernel_rfl))
  f295 := Try.func228.trans (congrArg some (by kernel_rfl))
  f296 := Try.func229.trans (congrArg some (by kernel_rfl))
  f297 := Try.func230.trans (congrArg some (by kernel_rfl))
  f298 := Try.func231.trans (congrArg some (by kernel_rfl))
  f299 := Try.func232.trans (congrArg some (by kernel_rfl))
  f300 := Try.func234.trans (congrArg some (by kernel_rfl))
  f301 := Try.func235.trans (congrArg some (by kernel_rfl))
  f328 := Try.func252.trans (congrArg some (by kernel_rfl))
  f329 := Try.func253.trans (congrArg some (by kernel_rfl))
  f330 := Try.func254.trans (congrArg some (by kernel_rfl))
  f331 := Try.func255.trans (congrArg some (by kernel_rfl))
  f332 := Try.func256.trans (congrArg some (by kernel_rfl))
  f343 := Try.func262.trans (congrArg some (by kernel_rfl))
  t0 := Try.underlying0
  a0 := Try.isAgg0
  z0 := Try.sizeOf0
  v0 := Try.zeroValue0
  t3 := Try.underlying3
  a3 := Try.isAgg3
  z3 := Try.sizeOf3
  v3 := Try.zeroValue3
  t4 := Try.underlying4
  a4 := Try.isAgg4
  z4 := Try.sizeOf4
  v4 := Try.zeroValue4
  t5 := Try.underlying5
  a5 := Try.isAgg5
  z5 := Try.sizeOf5
  v5 := Try.zeroValue5
  t9 := Try.underlying9
  a9 := Try.isAgg9
  z9 := Try.sizeOf9
  v9 := Try.zeroValue9
  t28 := Try.underlying30
  a28 := Try.isAgg30
  z28 := Try.sizeOf30
  v28 := Try.zeroValue30
  t46 := Try.underlying258
  a46 := Try.isAgg258
  z46 := Try.sizeOf258
  v46 := Try.zeroValue258
  t51 := Try.underlying219
  a51 := Try.isAgg219
  z51 := Try.sizeOf219
  v51 := Try.zeroValue219
  t53 := Try.underlying44
  a53 := Try.isAgg44
  z53 := Try.sizeOf44
  v53 := Try.zeroValue44
  t131 := Try.underlying155
  a131 := Try.isAgg155
  z131 := Try.sizeOf155
  v131 := Try.zeroValue155
  t182 := Try.underlying278
  a182 := Try.isAgg278
  z182 := Try.sizeOf278
  v182 := Try.zeroValue278
  t183 := Try.underlying279
  a183 := Try.isAgg279
  z183 := Try.sizeOf279
  v183 := Try.zeroValue279
  t218 := Try.underlying301
  a218 := Try.isAgg301
  z218 := Try.sizeOf301
  v218 := Try.zeroValue301
  t222 := Try.underlying305
  a222 := Try.isAgg305
  z222 := Try.sizeOf305
  v222 := Try.zeroValue305
  t228 := Try.underlying312
  a228 := Try.isAgg312
  z228 := Try.sizeOf312
  v228 := Try.zeroValue312
  t229 := Try.underlying313
  a229 := Try.isAgg313
  z229 := Try.sizeOf313
  v229 := Try.zeroValue313 }
open Go.Sort Go.RowKit in
theorem Try.slices_Sort_int (blk off cap : Nat) (zs : List Int) (w : World) (hH : Holds (Value.int .i64) w blk off zs.toArray) (hblk : blk < w.heap.size) (hsz : zs.length < 4611686018427387904) :
    Calls Try.prog 156 #[.slice (some ⟨blk, off, none⟩) zs.length cap] w fun e w' =>
      e = .returned (.tuple #[]) ∧ ∃ n os, w' = grow (putRow (Value.int .i64) (Sort.ahead w n) blk off (zs.mergeSort fun x y => decide (x ≤ y)).toArray) os := Any.slices_Sort_int Try.lays189 blk off cap zs w hH hblk hsz
open Go.RowKit Go.Sort in
/-- .. and plain. (LAID: no walk: one application.) -/
theorem Try.slices_Sort_int_none (p : Option Addr) (cap : Nat) (w : World) :
    Calls Try.prog 156 #[.slice p 0 cap] w fun e w' => e = .returned (.tuple #[]) ∧ w' = w := Any.slices_Sort_int_none Try.lays189 p cap w
end Go.Proofs
