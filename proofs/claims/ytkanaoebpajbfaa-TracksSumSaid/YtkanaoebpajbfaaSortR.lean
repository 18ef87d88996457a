/- The library's slices.Sort and slices.Compact at ints and slices.SortFunc at rows: their contracts at this program (written by the kit's lay-shelf and lay-plain; numbers by names). -/
import Derived.Shelf.Sort.Plain
import Derived.Ground.Names2Prog
import Derived.Shelf.Slices.CompactI
import Derived.Ground.SlsfProg
import Derived.Shelf.SlSortCmp.Whole1
import Derived.Test.YtkanaoebpajbfaaProg
namespace Go.Proofs
open Go.Shelf
def Try.lays189_ren : Go.Shelf.Ren := ⟨fun | 189 => 92 | 125 => 89 | 257 => 149 | 128 => 145 | 129 => 146 | 294 => 169 | 295 => 170 | 296 => 171 | 297 => 172 | 298 => 173 | 299 => 174 | 216 => 175 | 300 => 176 | 301 => 177 | 328 => 192 | 329 => 165 | 330 => 166 | 331 => 193 | 332 => 194 | 215 => 147 | 343 => 201 | n => n, fun | 28 => 25 | 3 => 3 | 46 => 155 | 0 => 0 | 51 => 225 | 53 => 227 | 4 => 4 | 183 => 219 | 182 => 218 | 131 => 194 | 5 => 5 | 9 => 9 | 218 => 238 | 222 => 234 | 228 => 259 | 229 => 260 | n => n, fun | n => n⟩
theorem Try.lays189 : Go.Proofs.Lays.n189 Try.prog Try.lays189_ren := {
  mixed := by kernel_rfl
  f125 := Try.func89.trans (congrArg some (by kernel_rfl))
  f128 := Try.func145.trans (congrArg some (by kernel_rfl))
  f129 := Try.func146.trans (congrArg some (by kernel_rfl))
  f189 := Try.func92.trans (congrArg some (by kernel_rfl))
  f215 := Try.func147.trans (congrArg some (by kernel_rfl))
  f216 := Try.func175.trans (congrArg some (by kernel_rfl))
  f257 := Try.func149.trans (congrArg some (by kernel_rfl))
  f294 := Try.func169.trans (congrArg some (by kernel_rfl))
  f295 := Try.func170.trans (congrArg some (by kernel_rfl))
  f296 := Try.func171.trans (congrArg some (by kernel_rfl))
  f297 := Try.func172.trans (congrArg some (by kernel_rfl))
  f298 := Try.func173.trans (congrArg some (by kernel_rfl))
  f299 := Try.func174.trans (congrArg some (by kernel_rfl))
  f300 := Try.func176.trans (congrArg some (by kernel_rfl))
  f301 := Try.func177.trans (congrArg some (by kernel_rfl))
  f328 := Try.func192.trans (congrArg some (by kernel_rfl))
  f329 := Try.func165.trans (congrArg some (by kernel_rfl))
  f330 := Try.func166.trans (congrArg some (by kernel_rfl))
  f331 := Try.func193.trans (congrArg some (by kernel_rfl))
  f332 := Try.func194.trans (congrArg some (by kernel_rfl))
  f343 := Try.func201.trans (congrArg some (by kernel_rfl))
  t0 := Try.underlying0
  a0 := Try.isAgg0
  z0 := Try.sizeOf0
  v0 := Try.zeroValue0
  t3 := Try.underlying3
  a3 := Try.isAgg3
  z3 := Try.sizeOf3
  v3 := Try.zeroValue3
  t4 := Try.underlying4
  a4 := Try.isAgg4
  z4 := Try.sizeOf4
  v4 := Try.zeroValue4
  t5 := Try.underlying5
  a5 := Try.isAgg5
  z5 := Try.sizeOf5
  v5 := Try.zeroValue5
  t9 := Try.underlying9
  a9 := Try.isAgg9
  z9 := Try.sizeOf9
  v9 := Try.zeroValue9
  t28 := Try.underlying25
  a28 := Try.isAgg25
  z28 := Try.sizeOf25
  v28 := Try.zeroValue25
  t46 := Try.underlying155
  a46 := Try.isAgg155
  z46 := Try.sizeOf155
  v46 := Try.zeroValue155
  t51 := Try.underlying225
  a51 := Try.isAgg225
  z51 := Try.sizeOf225
  v51 := Try.zeroValue225
  t53 := Try.underlying227
  a53 := Try.isAgg227
  z53 := Try.sizeOf227
  v53 := Try.zeroValue227
  t131 := Try.underlying194
  a131 := Try.isAgg194
  z131 := Try.sizeOf194
  v131 := Try.zeroValue194
  t182 := Try.underlying218
  a182 := Try.isAgg218
  z182 := Try.sizeOf218
  v182 := Try.zeroValue218
  t183 := Try.underlying219
  a183 := Try.isAgg219
  z183 := Try.sizeOf219
  v183 := Try.zeroValue219
  t218 := Try.underlying238
  a218 := Try.isAgg238
  z218 := Try.sizeOf238
  v218 := Try.zeroValue238
  t222 := Try.underlying234
  a222 := Try.isAgg234
  z222 := Try.sizeOf234
  v222 := Try.zeroValue234
  t228 := Try.underlying259
  a228 := Try.isAgg259
  z228 := Try.sizeOf259
  v228 := Try.zeroValue259
  t229 := Try.underlying260
  a229 := Try.isAgg260
  z229 := Try.sizeOf260
  v229 := Try.zeroValue260 }
open Go.Sort Go.RowKit in
theorem Try.slices_Sort_int (blk off cap : Nat) (zs : List Int) (w : World) (hH : Holds (Value.int .i64) w blk off zs.toArray) (hblk : blk < w.heap.size) (hsz : zs.length < 4611686018427387904) :
    Calls Try.prog 92 #[.slice (some ⟨blk, off, none⟩) zs.length cap] w fun e w' =>
      e = .returned (.tuple #[]) ∧ ∃ n os, w' = grow (putRow (Value.int .i64) (Sort.ahead w n) blk off (zs.mergeSort fun x y => decide (x ≤ y)).toArray) os := Any.slices_Sort_int Try.lays189 blk off cap zs w hH hblk hsz
def Try.laysNm220_ren : Go.Shelf.Ren := ⟨fun | 20 => 93 | n => n, fun | 22 => 25 | 3 => 3 | 4 => 4 | 0 => 0 | n => n, fun | n => n⟩
theorem Try.laysNm220 : Go.Proofs.Lays2.n20 Try.prog Try.laysNm220_ren := {
  mixed := by kernel_rfl
  f20 := Try.func93.trans (congrArg some (by kernel_rfl))
  t0 := Try.underlying0
  a0 := Try.isAgg0
  z0 := Try.sizeOf0
  v0 := Try.zeroValue0
  t3 := Try.underlying3
  a3 := Try.isAgg3
  z3 := Try.sizeOf3
  v3 := Try.zeroValue3
  t4 := Try.underlying4
  a4 := Try.isAgg4
  z4 := Try.sizeOf4
  v4 := Try.zeroValue4
  t22 := Try.underlying25
  a22 := Try.isAgg25
  z22 := Try.sizeOf25
  v22 := Try.zeroValue25
  i3 := by kernel_rfl }
open Go.RowKit Go.Lib Go.Sort in
/-- slices.Compact at []int, over an array: the library's two loops are walked. (LAID: no walk: one application.) -/
theorem Try.slices_Compact_int_arr (blk off cap : Nat) (d : Array Int) (w : World) (hH : Holds encI w blk off d) (hsz : d.size ≤ 9223372036854775807) (hcap : d.size ≤ cap) :
    Calls Try.prog 93 #[.slice (some ⟨blk, off, none⟩) d.size cap] w fun e w' => e = .returned (.slice (some ⟨blk, off, none⟩) (compactUpTo d d.size).length cap) ∧ ∃ q, w' = putRow encI (Sort.ahead w q) blk off (compactUpTo d d.size ++ List.replicate (d.size - (compactUpTo d d.size).length) 0).toArray := Any.slices_Compact_int_arr Try.laysNm220 blk off cap d w hH hsz hcap
open Go.RowKit Go.Lib Go.Sort in
/-- slices.Compact at []int: "Compact replaces consecutive runs of equal elements with a single copy. This is like the uniq command found on Unix. Compact modifies the contents of the slice s and returns the modified slice, which may have a smaller length. Compact zeroes the elements between the new length and the original length. The result preserves the nilness of s.": IT RETURNS THE SLICE CUT TO 'Lib.compact zs'; ITS CELLS HOLD 'Lib.compact zs', THEN ZERO VALUES up to the old length; all else is as it was, but for the count of draws. IN THE WORDS OF slices.Sort's CONTRACT ('Holds', 'putRow'): so the everyday 'slices.Sort(xs); xs = slices.Compact(xs)' goes from the one contract to the other. It asks 'zs.length ≤ cap' (every slice's: the reslicing 's[:k]' looks at it). Length 0, nil: '.._empty'. (LAID: no walk: one application.) -/
theorem Try.slices_Compact_int (blk off cap : Nat) (zs : List Int) (w : World) (hH : Holds (Value.int .i64) w blk off zs.toArray) (hsz : zs.length ≤ 9223372036854775807) (hcap : zs.length ≤ cap) :
    Calls Try.prog 93 #[.slice (some ⟨blk, off, none⟩) zs.length cap] w fun e w' => e = .returned (.slice (some ⟨blk, off, none⟩) (Lib.compact zs).length cap) ∧ ∃ q, w' = putRow (Value.int .i64) (Sort.ahead w q) blk off (Lib.compact zs ++ List.replicate (zs.length - (Lib.compact zs).length) 0).toArray := Any.slices_Compact_int Try.laysNm220 blk off cap zs w hH hsz hcap
open Go.RowKit Go.Lib Go.Sort in
/-- The same at a slice of length 0, a nil one too: it comes back as it is. (LAID: no walk: one application.) -/
theorem Try.slices_Compact_int_empty (a : Option Addr) (cap : Nat) (w : World) :
    Calls Try.prog 93 #[.slice a 0 cap] w fun e w' => e = .returned (.slice a 0 cap) ∧ w' = w := Any.slices_Compact_int_empty Try.laysNm220 a cap w
end Go.Proofs
