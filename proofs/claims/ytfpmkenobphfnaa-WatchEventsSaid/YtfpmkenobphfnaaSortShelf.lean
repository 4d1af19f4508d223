/- The library's slices.SortFunc at a struct of this program: the contract that the kit proved once. No condition is laid on any input. -/
import Derived.Ground.SlsfProg
import Derived.Shelf.SlSortCmp.WholeK
import Derived.Shelf.SlSortCmp.NoneTotal
import Derived.Test.YtfpmkenobphfnaaProg
namespace Go.Proofs
open Go.Shelf
def Try.laysSlF06_f190_ren : Go.Shelf.Ren := ⟨fun | 6 => 190 | 15 => 156 | 14 => 231 | 28 => 216 | 29 => 217 | 20 => 252 | 21 => 253 | 22 => 254 | 23 => 255 | 24 => 256 | 25 => 257 | 26 => 258 | 27 => 259 | 46 => 267 | 47 => 237 | 48 => 238 | 49 => 268 | 50 => 269 | 57 => 274 | n => n, fun | 22 => 206 | 24 => 175 | 25 => 264 | 3 => 3 | 39 => 229 | 0 => 0 | 53 => 180 | 55 => 65 | 4 => 4 | 46 => 281 | 45 => 280 | 50 => 164 | 5 => 5 | 9 => 9 | 66 => 312 | 70 => 316 | 76 => 343 | 77 => 344 | n => n, fun | n => n⟩
theorem Try.laysSlF06_f190 : Go.Proofs.SlLaysF0.n6 Try.prog Try.laysSlF06_f190_ren := {
  mixed := by kernel_rfl
  f6 := ⟨Try.f190.name, by decide, Try.func190.trans (congrArg some (by kernel_rfl))⟩
  f14 := ⟨Try.f231.name, by decide, Try.func231.trans (congrArg some (by kernel_rfl))⟩
  f15 := Try.func156.trans (congrArg some (by kernel_rfl))
  f20 := ⟨Try.f252.name, by decide, Try.func252.trans (congrArg some (by kernel_rfl))⟩
  f21 := ⟨Try.f253.name, by decide, Try.func253.trans (congrArg some (by kernel_rfl))⟩
  f22 := ⟨Try.f254.name, by decide, Try.func254.trans (congrArg some (by kernel_rfl))⟩
  f23 := ⟨Try.f255.name, by decide, Try.func255.trans (congrArg some (by kernel_rfl))⟩
  f24 := ⟨Try.f256.name, by decide, Try.func256.trans (congrArg some (by kernel_rfl))⟩
  f25 := ⟨Try.f257.name, by decide, Try.func257.trans (congrArg some (by kernel_rfl))⟩
  f26 := ⟨Try.f258.name, by decide, Try.func258.trans (congrArg some (by kernel_rfl))⟩
  f27 := ⟨Try.f259.name, by decide, Try.func259.trans (congrArg some (by kernel_rfl))⟩
  f28 := Try.func216.trans (congrArg some (by kernel_rfl))
  f29 := Try.func217.trans (congrArg some (by kernel_rfl))
  f46 := ⟨Try.f267.name, by decide, Try.func267.trans (congrArg some (by kernel_rfl))⟩
  f47 := Try.func237.trans (congrArg some (by kernel_rfl))
  f48 := Try.func238.trans (congrArg some (by kernel_rfl))
  f49 := ⟨Try.f268.name, by decide, Try.func268.trans (congrArg some (by kernel_rfl))⟩
  f50 := ⟨Try.f269.name, by decide, Try.func269.trans (congrArg some (by kernel_rfl))⟩
  f57 := ⟨Try.f274.name, by decide, Try.func274.trans (congrArg some (by kernel_rfl))⟩
  t0 := Try.underlying0
  a0 := Try.isAgg0
  z0 := Try.sizeOf0
  v0 := Try.zeroValue0
  t3 := Try.underlying3
  a3 := Try.isAgg3
  z3 := Try.sizeOf3
  v3 := Try.zeroValue3
  t4 := Try.underlying4
  a4 := Try.isAgg4
  z4 := Try.sizeOf4
  v4 := Try.zeroValue4
  t5 := Try.underlying5
  a5 := Try.isAgg5
  z5 := Try.sizeOf5
  v5 := Try.zeroValue5
  t9 := Try.underlying9
  a9 := Try.isAgg9
  z9 := Try.sizeOf9
  v9 := Try.zeroValue9
  t22 := Try.underlying206
  a22 := Try.isAgg206
  z22 := Try.sizeOf206
  v22 := Try.zeroValue206
  t25 := Try.underlying264
  a25 := Try.isAgg264
  z25 := Try.sizeOf264
  v25 := Try.zeroValue264
  t39 := Try.underlying229
  a39 := Try.isAgg229
  z39 := Try.sizeOf229
  v39 := Try.zeroValue229
  t45 := Try.underlying280
  a45 := Try.isAgg280
  z45 := Try.sizeOf280
  v45 := Try.zeroValue280
  t46 := Try.underlying281
  a46 := Try.isAgg281
  z46 := Try.sizeOf281
  v46 := Try.zeroValue281
  t50 := Try.underlying164
  a50 := Try.isAgg164
  z50 := Try.sizeOf164
  v50 := Try.zeroValue164
  t53 := Try.underlying180
  a53 := Try.isAgg180
  z53 := Try.sizeOf180
  v53 := Try.zeroValue180
  t55 := Try.underlying65
  a55 := Try.isAgg65
  z55 := Try.sizeOf65
  v55 := Try.zeroValue65
  t66 := Try.underlying312
  a66 := Try.isAgg312
  z66 := Try.sizeOf312
  v66 := Try.zeroValue312
  t70 := Try.underlying316
  a70 := Try.isAgg316
  z70 := Try.sizeOf316
  v70 := Try.zeroValue316
  t76 := Try.underlying343
  a76 := Try.isAgg343
  z76 := Try.sizeOf343
  v76 := Try.zeroValue343
  t77 := Try.underlying344
  a77 := Try.isAgg344
  z77 := Try.sizeOf344
  v77 := Try.zeroValue344 }
open Go.RowKit Go.Lib Go.Sort in
/-- **slices.SortFunc: WHAT THE ROW HOLDS, TO THE ELEMENT.** (LAID AT THE INSTANCE 'slices.SortFunc[[]vivarium/api.ID,vivarium/api.ID]': no walk: one application.) -/
theorem Try.slices_SortFunc_eq {α : Type} [Inhabited α] (k : Nat) (aE : ∀ w, (isAgg 175).run Try.prog w = .ok true w) (zE : ∀ w, (Go.sizeOf 175).run Try.prog w = .ok k w) (enc : α → List Value) (hk : ∀ x, (enc x).length = k) (h1 : ∀ x, ∀ v ∈ enc x, v.oneCell' = true) (cf : α → α → Int) (hO : SWO (ltOf cf)) (g : Nat) (cb : Array Value) (blk off cap : Nat) (d : Array α) (w : World) (eg : ∀ args w, (callFunc g args).run Try.prog w = .ok (.enter g args) w) (hcmp : CmpLays Try.prog g cb enc k cf blk off d.size w) (hH : HoldsK enc k w blk off d) (hblk : blk < w.heap.size) (hsz : d.size < 4611686018427387904) :
    Calls Try.prog 190 #[.slice (some ⟨blk, off, none⟩) d.size cap, .func (.func g) #[] cb] w fun e w' =>
      e = .returned (.tuple #[]) ∧ ∃ n os, w' = sortWorldK enc k w blk off n (pdq (ltOf cf) d 0 d.size (Lib.bitLen d.size) true true) os := AnyQ.slices_SortFunc_eq Try.laysSlF06_f190 k aE zE enc hk h1 cf hO g cb blk off cap d w eg hcmp hH hblk hsz
open Go.RowKit Go.Lib Go.Sort in
/-- **slices.SortFunc, IN THE DOCUMENTATION's OWN TERMS: A PERMUTATION OF WHAT THE ROW HELD, SORTED BY 'cmp(a, b) < 0'.** Which of two equals comes first is left open ("The sort is not guaranteed to be stable"). (LAID AT THE INSTANCE 'slices.SortFunc[[]vivarium/api.ID,vivarium/api.ID]': no walk: one application.) -/
theorem Try.slices_SortFunc {α : Type} [Inhabited α] (k : Nat) (aE : ∀ w, (isAgg 175).run Try.prog w = .ok true w) (zE : ∀ w, (Go.sizeOf 175).run Try.prog w = .ok k w) (enc : α → List Value) (hk : ∀ x, (enc x).length = k) (h1 : ∀ x, ∀ v ∈ enc x, v.oneCell' = true) (cf : α → α → Int) (hO : SWO (ltOf cf)) (g : Nat) (cb : Array Value) (blk off cap : Nat) (d : Array α) (w : World) (eg : ∀ args w, (callFunc g args).run Try.prog w = .ok (.enter g args) w) (hcmp : CmpLays Try.prog g cb enc k cf blk off d.size w) (hH : HoldsK enc k w blk off d) (hblk : blk < w.heap.size) (hsz : d.size < 4611686018427387904) :
    Calls Try.prog 190 #[.slice (some ⟨blk, off, none⟩) d.size cap, .func (.func g) #[] cb] w fun e w' =>
      e = .returned (.tuple #[]) ∧ ∃ d' n os, PermIn 0 d.size d d' ∧ SortedIn (ltOf cf) 0 d.size d' ∧ w' = sortWorldK enc k w blk off n d' os := AnyQ.slices_SortFunc Try.laysSlF06_f190 k aE zE enc hk h1 cf hO g cb blk off cap d w eg hcmp hH hblk hsz
def Try.laysSlF020_f252_ren : Go.Shelf.Ren := ⟨fun | 20 => 252 | n => n, fun | 24 => 175 | 22 => 206 | 3 => 3 | 25 => 264 | 4 => 4 | 0 => 0 | n => n, fun | n => n⟩
theorem Try.laysSlF020_f252 : Go.Proofs.SlLaysF0.n20 Try.prog Try.laysSlF020_f252_ren := {
  mixed := by kernel_rfl
  f20 := ⟨Try.f252.name, by decide, Try.func252.trans (congrArg some (by kernel_rfl))⟩
  t0 := Try.underlying0
  a0 := Try.isAgg0
  z0 := Try.sizeOf0
  v0 := Try.zeroValue0
  t3 := Try.underlying3
  a3 := Try.isAgg3
  z3 := Try.sizeOf3
  v3 := Try.zeroValue3
  t4 := Try.underlying4
  a4 := Try.isAgg4
  z4 := Try.sizeOf4
  v4 := Try.zeroValue4
  t22 := Try.underlying206
  a22 := Try.isAgg206
  z22 := Try.sizeOf206
  v22 := Try.zeroValue206
  t25 := Try.underlying264
  a25 := Try.isAgg264
  z25 := Try.sizeOf264
  v25 := Try.zeroValue264 }
open Go.RowKit Go.Lib Go.Sort in
theorem Try.insertionSortCmpFunc_none {α : Type} [Inhabited α] (p : Option Addr) (cap : Nat) (fv : Value) (w : World) :
    Calls Try.prog 252 #[.slice p 0 cap, .int .i64 0, .int .i64 0, fv] w fun e w' => e = .returned (.tuple #[]) ∧ w' = w := AnyF.insertionSortCmpFunc_none Try.laysSlF020_f252 p cap fv w
def Try.laysSlF014_f231_ren : Go.Shelf.Ren := ⟨fun | 14 => 231 | 20 => 252 | 21 => 253 | 22 => 254 | 23 => 255 | 24 => 256 | 25 => 257 | 26 => 258 | 27 => 259 | 46 => 267 | 47 => 237 | 48 => 238 | 49 => 268 | 50 => 269 | 15 => 156 | 57 => 274 | 28 => 216 | 29 => 217 | n => n, fun | 24 => 175 | 22 => 206 | 3 => 3 | 25 => 264 | 4 => 4 | 0 => 0 | 46 => 281 | 45 => 280 | 50 => 164 | 66 => 312 | 39 => 229 | 55 => 65 | 70 => 316 | 76 => 343 | 77 => 344 | 53 => 180 | 5 => 5 | 9 => 9 | n => n, fun | n => n⟩
theorem Try.laysSlF014_f231 : Go.Proofs.SlLaysF0.n14 Try.prog Try.laysSlF014_f231_ren := {
  mixed := by kernel_rfl
  f14 := ⟨Try.f231.name, by decide, Try.func231.trans (congrArg some (by kernel_rfl))⟩
  f15 := Try.func156.trans (congrArg some (by kernel_rfl))
  f20 := ⟨Try.f252.name, by decide, Try.func252.trans (congrArg some (by kernel_rfl))⟩
  f21 := ⟨Try.f253.name, by decide, Try.func253.trans (congrArg some (by kernel_rfl))⟩
  f22 := ⟨Try.f254.name, by decide, Try.func254.trans (congrArg some (by kernel_rfl))⟩
  f23 := ⟨Try.f255.name, by decide, Try.func255.trans (congrArg some (by kernel_rfl))⟩
  f24 := ⟨Try.f256.name, by decide, Try.func256.trans (congrArg some (by kernel_rfl))⟩
  f25 := ⟨Try.f257.name, by decide, Try.func257.trans (congrArg some (by kernel_rfl))⟩
  f26 := ⟨Try.f258.name, by decide, Try.func258.trans (congrArg some (by kernel_rfl))⟩
  f27 := ⟨Try.f259.name, by decide, Try.func259.trans (congrArg some (by kernel_rfl))⟩
  f28 := Try.func216.trans (congrArg some (by kernel_rfl))
  f29 := Try.func217.trans (congrArg some (by kernel_rfl))
  f46 := ⟨Try.f267.name, by decide, Try.func267.trans (congrArg some (by kernel_rfl))⟩
  f47 := Try.func237.trans (congrArg some (by kernel_rfl))
  f48 := Try.func238.trans (congrArg some (by kernel_rfl))
  f49 := ⟨Try.f268.name, by decide, Try.func268.trans (congrArg some (by kernel_rfl))⟩
  f50 := ⟨Try.f269.name, by decide, Try.func269.trans (congrArg some (by kernel_rfl))⟩
  f57 := ⟨Try.f274.name, by decide, Try.func274.trans (congrArg some (by kernel_rfl))⟩
  t0 := Try.underlying0
  a0 := Try.isAgg0
  z0 := Try.sizeOf0
  v0 := Try.zeroValue0
  t3 := Try.underlying3
  a3 := Try.isAgg3
  z3 := Try.sizeOf3
  v3 := Try.zeroValue3
  t4 := Try.underlying4
  a4 := Try.isAgg4
  z4 := Try.sizeOf4
  v4 := Try.zeroValue4
  t5 := Try.underlying5
  a5 := Try.isAgg5
  z5 := Try.sizeOf5
  v5 := Try.zeroValue5
  t9 := Try.underlying9
  a9 := Try.isAgg9
  z9 := Try.sizeOf9
  v9 := Try.zeroValue9
  t22 := Try.underlying206
  a22 := Try.isAgg206
  z22 := Try.sizeOf206
  v22 := Try.zeroValue206
  t25 := Try.underlying264
  a25 := Try.isAgg264
  z25 := Try.sizeOf264
  v25 := Try.zeroValue264
  t39 := Try.underlying229
  a39 := Try.isAgg229
  z39 := Try.sizeOf229
  v39 := Try.zeroValue229
  t45 := Try.underlying280
  a45 := Try.isAgg280
  z45 := Try.sizeOf280
  v45 := Try.zeroValue280
  t46 := Try.underlying281
  a46 := Try.isAgg281
  z46 := Try.sizeOf281
  v46 := Try.zeroValue281
  t50 := Try.underlying164
  a50 := Try.isAgg164
  z50 := Try.sizeOf164
  v50 := Try.zeroValue164
  t53 := Try.underlying180
  a53 := Try.isAgg180
  z53 := Try.sizeOf180
  v53 := Try.zeroValue180
  t55 := Try.underlying65
  a55 := Try.isAgg65
  z55 := Try.sizeOf65
  v55 := Try.zeroValue65
  t66 := Try.underlying312
  a66 := Try.isAgg312
  z66 := Try.sizeOf312
  v66 := Try.zeroValue312
  t70 := Try.underlying316
  a70 := Try.isAgg316
  z70 := Try.sizeOf316
  v70 := Try.zeroValue316
  t76 := Try.underlying343
  a76 := Try.isAgg343
  z76 := Try.sizeOf343
  v76 := Try.zeroValue343
  t77 := Try.underlying344
  a77 := Try.isAgg344
  z77 := Try.sizeOf344
  v77 := Try.zeroValue344 }
open Go.RowKit Go.Lib Go.Sort in
theorem Try.pdqsortCmpFunc_none {α : Type} [Inhabited α] (p : Option Addr) (cap : Nat) (lim : Int) (fv : Value) (w : World) :
    Calls Try.prog 231 #[.slice p 0 cap, .int .i64 0, .int .i64 0, .int .i64 lim, fv] w fun e w' => e = .returned (.tuple #[]) ∧ w' = w := AnyF.pdqsortCmpFunc_none Try.laysSlF014_f231 p cap lim fv w
open Go.RowKit Go.Lib Go.Sort in
/-- **slices.SortFunc AT NO ELEMENT, A nil SLICE TOO: nothing turns.** (LAID AT THE INSTANCE 'slices.SortFunc[[]vivarium/api.ID,vivarium/api.ID]': no walk: one application.) -/
theorem Try.slices_SortFunc_none {α : Type} [Inhabited α] (p : Option Addr) (cap : Nat) (fv : Value) (w : World) :
    Calls Try.prog 190 #[.slice p 0 cap, fv] w fun e w' => e = .returned (.tuple #[]) ∧ w' = w := AnyF.slices_SortFunc_none Try.laysSlF06_f190 p cap fv w
open Go.RowKit Go.Lib Go.Sort in
/-- .. at structs. (LAID AT THE INSTANCE 'slices.SortFunc[[]vivarium/api.ID,vivarium/api.ID]': no walk: one application.) -/
theorem Try.slices_SortFunc_total {α : Type} [Inhabited α] (k : Nat) (aE : ∀ w, (isAgg 175).run Try.prog w = .ok true w) (zE : ∀ w, (Go.sizeOf 175).run Try.prog w = .ok k w) (enc : α → List Value) (hk : ∀ x, (enc x).length = k) (h1 : ∀ x, ∀ v ∈ enc x, v.oneCell' = true) (cf : α → α → Int) (hO : SWO (ltOf cf)) (g : Nat) (cb : Array Value) (blk off cap : Nat) (d : Array α) (w : World) (eg : ∀ args w, (callFunc g args).run Try.prog w = .ok (.enter g args) w) (hcmp : CmpLays Try.prog g cb enc k cf blk off d.size w) (hH : HoldsK enc k w blk off d) (hblk : blk < w.heap.size) (hsz : d.size < 4611686018427387904) (hT : ∀ x y, (ltOf cf) x y = false → (ltOf cf) y x = false → x = y) :
    Calls Try.prog 190 #[.slice (some ⟨blk, off, none⟩) d.size cap, .func (.func g) #[] cb] w fun e w' =>
      e = .returned (.tuple #[]) ∧ ∃ n os, w' = sortWorldK enc k w blk off n (d.toList.mergeSort fun x y => !(ltOf cf) y x).toArray os := AnyQ.slices_SortFunc_total Try.laysSlF06_f190 k aE zE enc hk h1 cf hO g cb blk off cap d w eg hcmp hH hblk hsz hT
end Go.Proofs
