/- Parts of the proof, joined into one text: Shelf, HeldL, AppL, Reslice, SortI, Queue, ImgJ. -/
import Derived.Shelf.Small.Bits
import Derived.Shelf.Small.Wraps
import Derived.Shelf.Strconv.Itoa0
import Derived.Shelf.Sort.Plain
import Derived.Shelf.Bits.Mul64
import Derived.Ground.Names2Prog
import Derived.Shelf.Slices.CompactI
import Derived.Shelf.Slices.SearchI
import Derived.Shelf.Slices.Cells
import Derived.Shelf.Slices.In.SortNone
import Derived.Test.YtgdgelkeflihpaaProg
import Derived.Test.YtgdgelkeflihpaaPartGPKKMHKD
import Derived.Test.YtgdgelkeflihpaaPartAAOKINFK
import Derived.Test.YtgdgelkeflihpaaPartJCLCPPHB
import Derived.Test.YtgdgelkeflihpaaPartHDNEGFCA
import Derived.Deep.DeepCutAuto
/-
  DERIVED: THE SHELF's CONTRACTS AT THIS DUMP, IN PLAIN WORDS (tools/lay-plain.mjs out of 'TryShelf.lean', which tools/lay-shelf.mjs wrote): THE SAME DECLARATIONS UNDER THE SAME NAMES: 'import', 'namespace', 'open', 'def', 'theorem' AND NOTHING ELSE: no command of the shelf's: FOR A HAND-IN. Each laying: the table of numbers ('.._ren') and one theorem, a field a fact of the dump's own or the kernel's comparison; each contract: ONE APPLICATION.
-/
namespace Go.Proofs
open Go.Shelf
def Try.lays128_ren : Go.Shelf.Ren := ⟨fun | 128 => 175 | n => n, fun | 51 => 207 | 3 => 3 | 4 => 4 | 46 => 183 | 5 => 5 | 9 => 9 | n => n, fun | n => n⟩
theorem Try.lays128 : Go.Proofs.Lays.n128 Try.prog Try.lays128_ren := {
  mixed := by kernel_rfl
  f128 := Try.func175.trans (congrArg some (by kernel_rfl))
  t3 := Try.underlying3
  a3 := Try.isAgg3
  z3 := Try.sizeOf3
  v3 := Try.zeroValue3
  t4 := Try.underlying4
  a4 := Try.isAgg4
  z4 := Try.sizeOf4
  v4 := Try.zeroValue4
  t5 := Try.underlying5
  a5 := Try.isAgg5
  z5 := Try.sizeOf5
  v5 := Try.zeroValue5
  t9 := Try.underlying9
  a9 := Try.isAgg9
  z9 := Try.sizeOf9
  v9 := Try.zeroValue9
  t46 := Try.underlying183
  a46 := Try.isAgg183
  z46 := Try.sizeOf183
  v46 := Try.zeroValue183
  t51 := Try.underlying207
  a51 := Try.isAgg207
  z51 := Try.sizeOf207
  v51 := Try.zeroValue207 }
/-- bits.Len32: "Len32 returns the minimum number of bits required to represent x; the result is 0 for x == 0.": IT RETURNS 'Lib.bitLen x'; the world is as it was. ('h0', 'h1': x is a uint32.) (LAID: no walk: one application.) -/
theorem Try.bits_Len32 (x : Int) (w : World) (h0 : 0 ≤ x) (h1 : x ≤ 4294967295) :
    Calls Try.prog 175 #[.int .u32 x] w fun e w' => e = .returned (.int .i64 (Lib.bitLen x.toNat)) ∧ w' = w := Any.bits_Len32 Try.lays128 x w h0 h1
def Try.lays125_ren : Go.Shelf.Ren := ⟨fun | 125 => 145 | 128 => 175 | 129 => 176 | n => n, fun | 46 => 183 | 3 => 3 | 51 => 207 | 53 => 209 | 4 => 4 | 5 => 5 | 9 => 9 | n => n, fun | n => n⟩
theorem Try.lays125 : Go.Proofs.Lays.n125 Try.prog Try.lays125_ren := {
  mixed := by kernel_rfl
  f125 := Try.func145.trans (congrArg some (by kernel_rfl))
  f128 := Try.func175.trans (congrArg some (by kernel_rfl))
  f129 := Try.func176.trans (congrArg some (by kernel_rfl))
  t3 := Try.underlying3
  a3 := Try.isAgg3
  z3 := Try.sizeOf3
  v3 := Try.zeroValue3
  t4 := Try.underlying4
  a4 := Try.isAgg4
  z4 := Try.sizeOf4
  v4 := Try.zeroValue4
  t5 := Try.underlying5
  a5 := Try.isAgg5
  z5 := Try.sizeOf5
  v5 := Try.zeroValue5
  t9 := Try.underlying9
  a9 := Try.isAgg9
  z9 := Try.sizeOf9
  v9 := Try.zeroValue9
  t46 := Try.underlying183
  a46 := Try.isAgg183
  z46 := Try.sizeOf183
  v46 := Try.zeroValue183
  t51 := Try.underlying207
  a51 := Try.isAgg207
  z51 := Try.sizeOf207
  v51 := Try.zeroValue207
  t53 := Try.underlying209
  a53 := Try.isAgg209
  z53 := Try.sizeOf209
  v53 := Try.zeroValue209 }
/-- bits.Len: "Len returns the minimum number of bits required to represent x; the result is 0 for x == 0.": IT RETURNS 'Lib.bitLen x'; the world is as it was. (A uint has 64 bits in the model.) ITS CALLEE bits.Len64 IS MET BY ITS OWN CONTRACT OFF THE SHELF (lay that first). (LAID: no walk: one application.) -/
theorem Try.bits_Len (x : Int) (w : World) (h0 : 0 ≤ x) (h1 : x ≤ 18446744073709551615) :
    Calls Try.prog 145 #[.int .u64 x] w fun e w' => e = .returned (.int .i64 (Lib.bitLen x.toNat)) ∧ w' = w := Any.bits_Len Try.lays125 x w h0 h1
def Try.lays215_ren : Go.Shelf.Ren := ⟨fun | 215 => 186 | n => n, fun | 3 => 3 | 4 => 4 | n => n, fun | n => n⟩
theorem Try.lays215 : Go.Proofs.Lays.n215 Try.prog Try.lays215_ren := {
  mixed := by kernel_rfl
  f215 := Try.func186.trans (congrArg some (by kernel_rfl))
  t3 := Try.underlying3
  a3 := Try.isAgg3
  z3 := Try.sizeOf3
  v3 := Try.zeroValue3
  t4 := Try.underlying4
  a4 := Try.isAgg4
  z4 := Try.sizeOf4
  v4 := Try.zeroValue4 }
open Go.RowKit in
/-- cmp.isNaN at int: 'x != x': false. (LAID: no walk: one application.) -/
theorem Try.cmp_isNaN_int (x : Int) (w : World) :
    Calls Try.prog 186 #[.int .i64 x] w fun e w' => e = .returned (.bool false) ∧ w' = w := Any.cmp_isNaN_int Try.lays215 x w
def Try.lays129_ren : Go.Shelf.Ren := ⟨fun | 129 => 176 | n => n, fun | 53 => 209 | 3 => 3 | 4 => 4 | 46 => 183 | 5 => 5 | 9 => 9 | n => n, fun | n => n⟩
theorem Try.lays129 : Go.Proofs.Lays.n129 Try.prog Try.lays129_ren := {
  mixed := by kernel_rfl
  f129 := Try.func176.trans (congrArg some (by kernel_rfl))
  t3 := Try.underlying3
  a3 := Try.isAgg3
  z3 := Try.sizeOf3
  v3 := Try.zeroValue3
  t4 := Try.underlying4
  a4 := Try.isAgg4
  z4 := Try.sizeOf4
  v4 := Try.zeroValue4
  t5 := Try.underlying5
  a5 := Try.isAgg5
  z5 := Try.sizeOf5
  v5 := Try.zeroValue5
  t9 := Try.underlying9
  a9 := Try.isAgg9
  z9 := Try.sizeOf9
  v9 := Try.zeroValue9
  t46 := Try.underlying183
  a46 := Try.isAgg183
  z46 := Try.sizeOf183
  v46 := Try.zeroValue183
  t53 := Try.underlying209
  a53 := Try.isAgg209
  z53 := Try.sizeOf209
  v53 := Try.zeroValue209 }
/-- bits.Len64: "Len64 returns the minimum number of bits required to represent x; the result is 0 for x == 0.": IT RETURNS 'Lib.bitLen x'; the world is as it was. ('h0', 'h1': x is a uint64.) (LAID: no walk: one application.) -/
theorem Try.bits_Len64 (x : Int) (w : World) (h0 : 0 ≤ x) (h1 : x ≤ 18446744073709551615) :
    Calls Try.prog 176 #[.int .u64 x] w fun e w' => e = .returned (.int .i64 (Lib.bitLen x.toNat)) ∧ w' = w := Any.bits_Len64 Try.lays129 x w h0 h1
def Try.lays189_ren : Go.Shelf.Ren := ⟨fun | 189 => 110 | 125 => 145 | 257 => 144 | 128 => 175 | 129 => 176 | 294 => 166 | 295 => 167 | 296 => 168 | 297 => 169 | 298 => 170 | 299 => 171 | 216 => 172 | 300 => 173 | 301 => 174 | 328 => 181 | 329 => 182 | 330 => 183 | 331 => 184 | 332 => 185 | 215 => 186 | 343 => 189 | n => n, fun | 28 => 27 | 3 => 3 | 46 => 183 | 0 => 0 | 51 => 207 | 53 => 209 | 4 => 4 | 183 => 200 | 182 => 199 | 131 => 152 | 5 => 5 | 9 => 9 | 218 => 212 | 222 => 216 | 228 => 222 | 229 => 125 | n => n, fun | n => n⟩
theorem Try.lays189 : Go.Proofs.Lays.n189 Try.prog Try.lays189_ren := {
  mixed := by kernel_rfl
  f125 := Try.func145.trans (congrArg some (by kernel_rfl))
  f128 := Try.func175.trans (congrArg some (by kernel_rfl))
  f129 := Try.func176.trans (congrArg some (by kernel_rfl))
  f189 := Try.func110.trans (congrArg some (by kernel_rfl))
  f215 := Try.func186.trans (congrArg some (by kernel_rfl))
  f216 := Try.func172.trans (congrArg some (by kernel_rfl))
  f257 := Try.func144.trans (congrArg some (by kernel_rfl))
  f294 := Try.func166.trans (congrArg some (by kernel_rfl))
  f295 := Try.func167.trans (congrArg some (by kernel_rfl))
  f296 := Try.func168.trans (congrArg some (by kernel_rfl))
  f297 := Try.func169.trans (congrArg some (by kernel_rfl))
  f298 := Try.func170.trans (congrArg some (by kernel_rfl))
  f299 := Try.func171.trans (congrArg some (by kernel_rfl))
  f300 := Try.func173.trans (congrArg some (by kernel_rfl))
  f301 := Try.func174.trans (congrArg some (by kernel_rfl))
  f328 := Try.func181.trans (congrArg some (by kernel_rfl))
  f329 := Try.func182.trans (congrArg some (by kernel_rfl))
  f330 := Try.func183.trans (congrArg some (by kernel_rfl))
  f331 := Try.func184.trans (congrArg some (by kernel_rfl))
  f332 := Try.func185.trans (congrArg some (by kernel_rfl))
  f343 := Try.func189.trans (congrArg some (by kernel_rfl))
  t0 := Try.underlying0
  a0 := Try.isAgg0
  z0 := Try.sizeOf0
  v0 := Try.zeroValue0
  t3 := Try.underlying3
  a3 := Try.isAgg3
  z3 := Try.sizeOf3
  v3 := Try.zeroValue3
  t4 := Try.underlying4
  a4 := Try.isAgg4
  z4 := Try.sizeOf4
  v4 := Try.zeroValue4
  t5 := Try.underlying5
  a5 := Try.isAgg5
  z5 := Try.sizeOf5
  v5 := Try.zeroValue5
  t9 := Try.underlying9
  a9 := Try.isAgg9
  z9 := Try.sizeOf9
  v9 := Try.zeroValue9
  t28 := Try.underlying27
  a28 := Try.isAgg27
  z28 := Try.sizeOf27
  v28 := Try.zeroValue27
  t46 := Try.underlying183
  a46 := Try.isAgg183
  z46 := Try.sizeOf183
  v46 := Try.zeroValue183
  t51 := Try.underlying207
  a51 := Try.isAgg207
  z51 := Try.sizeOf207
  v51 := Try.zeroValue207
  t53 := Try.underlying209
  a53 := Try.isAgg209
  z53 := Try.sizeOf209
  v53 := Try.zeroValue209
  t131 := Try.underlying152
  a131 := Try.isAgg152
  z131 := Try.sizeOf152
  v131 := Try.zeroValue152
  t182 := Try.underlying199
  a182 := Try.isAgg199
  z182 := Try.sizeOf199
  v182 := Try.zeroValue199
  t183 := Try.underlying200
  a183 := Try.isAgg200
  z183 := Try.sizeOf200
  v183 := Try.zeroValue200
  t218 := Try.underlying212
  a218 := Try.isAgg212
  z218 := Try.sizeOf212
  v218 := Try.zeroValue212
  t222 := Try.underlying216
  a222 := Try.isAgg216
  z222 := Try.sizeOf216
  v222 := Try.zeroValue216
  t228 := Try.underlying222
  a228 := Try.isAgg222
  z228 := Try.sizeOf222
  v228 := Try.zeroValue222
  t229 := Try.underlying125
  a229 := Try.isAgg125
  z229 := Try.sizeOf125
  v229 := Try.zeroValue125 }
open Go.Sort Go.RowKit in
theorem Try.slices_Sort_int (blk off cap : Nat) (zs : List Int) (w : World) (hH : Holds (Value.int .i64) w blk off zs.toArray) (hblk : blk < w.heap.size) (hsz : zs.length < 4611686018427387904) :
    Calls Try.prog 110 #[.slice (some ⟨blk, off, none⟩) zs.length cap] w fun e w' =>
      e = .returned (.tuple #[]) ∧ ∃ n os, w' = grow (putRow (Value.int .i64) (Sort.ahead w n) blk off (zs.mergeSort fun x y => decide (x ≤ y)).toArray) os := Any.slices_Sort_int Try.lays189 blk off cap zs w hH hblk hsz
def Try.lays264_ren : Go.Shelf.Ren := ⟨fun | 264 => 191 | n => n, fun | 53 => 209 | 46 => 183 | n => n, fun | n => n⟩
theorem Try.lays264 : Go.Proofs.Lays.n264 Try.prog Try.lays264_ren := {
  mixed := by kernel_rfl
  f264 := Try.func191.trans (congrArg some (by kernel_rfl))
  t46 := Try.underlying183
  a46 := Try.isAgg183
  z46 := Try.sizeOf183
  v46 := Try.zeroValue183
  t53 := Try.underlying209
  a53 := Try.isAgg209
  z53 := Try.sizeOf209
  v53 := Try.zeroValue209 }
open Go.RowKit Go.Lib in
theorem Try.bits_Mul64 (x y : Nat) (hx : x < 18446744073709551616) (hy : y < 18446744073709551616) (w : World) :
    Calls Try.prog 191 #[.int .u64 x, .int .u64 y] w fun e w' => e = .returned (.tuple #[.int .u64 ((x * y / 18446744073709551616 : Nat) : Int), .int .u64 ((x * y % 18446744073709551616 : Nat) : Int)]) ∧ w' = w := Any.bits_Mul64 Try.lays264 x y hx hy w
def Try.lays212_ren : Go.Shelf.Ren := ⟨fun | 212 => 187 | 263 => 190 | 264 => 191 | n => n, fun | 46 => 183 | 51 => 207 | 146 => 224 | 53 => 209 | 148 => 226 | n => n, fun | n => n⟩
theorem Try.lays212 : Go.Proofs.Lays.n212 Try.prog Try.lays212_ren := {
  mixed := by kernel_rfl
  f212 := Try.func187.trans (congrArg some (by kernel_rfl))
  f263 := Try.func190.trans (congrArg some (by kernel_rfl))
  f264 := Try.func191.trans (congrArg some (by kernel_rfl))
  t46 := Try.underlying183
  a46 := Try.isAgg183
  z46 := Try.sizeOf183
  v46 := Try.zeroValue183
  t51 := Try.underlying207
  a51 := Try.isAgg207
  z51 := Try.sizeOf207
  v51 := Try.zeroValue207
  t53 := Try.underlying209
  a53 := Try.isAgg209
  z53 := Try.sizeOf209
  v53 := Try.zeroValue209
  t146 := Try.underlying224
  a146 := Try.isAgg224
  z146 := Try.sizeOf224
  v146 := Try.zeroValue224
  t148 := Try.underlying226
  a148 := Try.isAgg226
  z148 := Try.sizeOf226
  v148 := Try.zeroValue226 }
open Go.RowKit Go.Lib in
/-- math/bits.Mul: "Mul returns the full-width product of x and y": on a machine of 64 bits: Mul64's. (LAID: no walk: one application.) -/
theorem Try.bits_Mul (x y : Nat) (hx : x < 18446744073709551616) (hy : y < 18446744073709551616) (w : World) :
    Calls Try.prog 187 #[.int .u64 x, .int .u64 y] w fun e w' => e = .returned (.tuple #[.int .u64 ((x * y / 18446744073709551616 : Nat) : Int), .int .u64 ((x * y % 18446744073709551616 : Nat) : Int)]) ∧ w' = w := Any.bits_Mul Try.lays212 x y hx hy w
def Try.laysNm220_ren : Go.Shelf.Ren := ⟨fun | 20 => 111 | n => n, fun | 22 => 27 | 3 => 3 | 4 => 4 | 0 => 0 | n => n, fun | n => n⟩
theorem Try.laysNm220 : Go.Proofs.Lays2.n20 Try.prog Try.laysNm220_ren := {
  mixed := by kernel_rfl
  f20 := Try.func111.trans (congrArg some (by kernel_rfl))
  t0 := Try.underlying0
  a0 := Try.isAgg0
  z0 := Try.sizeOf0
  v0 := Try.zeroValue0
  t3 := Try.underlying3
  a3 := Try.isAgg3
  z3 := Try.sizeOf3
  v3 := Try.zeroValue3
  t4 := Try.underlying4
  a4 := Try.isAgg4
  z4 := Try.sizeOf4
  v4 := Try.zeroValue4
  t22 := Try.underlying27
  a22 := Try.isAgg27
  z22 := Try.sizeOf27
  v22 := Try.zeroValue27
  i3 := by kernel_rfl }
open Go.RowKit Go.Lib Go.Sort in
/-- slices.Compact at []int, over an array: the library's two loops are walked. (LAID: no walk: one application.) -/
theorem Try.slices_Compact_int_arr (blk off cap : Nat) (d : Array Int) (w : World) (hH : Holds encI w blk off d) (hsz : d.size ≤ 9223372036854775807) (hcap : d.size ≤ cap) :
    Calls Try.prog 111 #[.slice (some ⟨blk, off, none⟩) d.size cap] w fun e w' => e = .returned (.slice (some ⟨blk, off, none⟩) (compactUpTo d d.size).length cap) ∧ ∃ q, w' = putRow encI (Sort.ahead w q) blk off (compactUpTo d d.size ++ List.replicate (d.size - (compactUpTo d d.size).length) 0).toArray := Any.slices_Compact_int_arr Try.laysNm220 blk off cap d w hH hsz hcap
open Go.RowKit Go.Lib Go.Sort in
/-- slices.Compact at []int: "Compact replaces consecutive runs of equal elements with a single copy. This is like the uniq command found on Unix. Compact modifies the contents of the slice s and returns the modified slice, which may have a smaller length. Compact zeroes the elements between the new length and the original length. The result preserves the nilness of s.": IT RETURNS THE SLICE CUT TO 'Lib.compact zs'; ITS CELLS HOLD 'Lib.compact zs', THEN ZERO VALUES up to the old length; all else is as it was, but for the count of draws. IN THE WORDS OF slices.Sort's CONTRACT ('Holds', 'putRow'): so the everyday 'slices.Sort(xs); xs = slices.Compact(xs)' goes from the one contract to the other. It asks 'zs.length ≤ cap' (every slice's: the reslicing 's[:k]' looks at it). Length 0, nil: '.._empty'. (LAID: no walk: one application.) -/
theorem Try.slices_Compact_int (blk off cap : Nat) (zs : List Int) (w : World) (hH : Holds (Value.int .i64) w blk off zs.toArray) (hsz : zs.length ≤ 9223372036854775807) (hcap : zs.length ≤ cap) :
    Calls Try.prog 111 #[.slice (some ⟨blk, off, none⟩) zs.length cap] w fun e w' => e = .returned (.slice (some ⟨blk, off, none⟩) (Lib.compact zs).length cap) ∧ ∃ q, w' = putRow (Value.int .i64) (Sort.ahead w q) blk off (Lib.compact zs ++ List.replicate (zs.length - (Lib.compact zs).length) 0).toArray := Any.slices_Compact_int Try.laysNm220 blk off cap zs w hH hsz hcap
open Go.RowKit Go.Lib Go.Sort in
/-- The same at a slice of length 0, a nil one too: it comes back as it is. (LAID: no walk: one application.) -/
theorem Try.slices_Compact_int_empty (a : Option Addr) (cap : Nat) (w : World) :
    Calls Try.prog 111 #[.slice a 0 cap] w fun e w' => e = .returned (.slice a 0 cap) ∧ w' = w := Any.slices_Compact_int_empty Try.laysNm220 a cap w
def Try.laysNm237_ren : Go.Shelf.Ren := ⟨fun | 37 => 186 | n => n, fun | 3 => 3 | 4 => 4 | n => n, fun | n => n⟩
theorem Try.laysNm237 : Go.Proofs.Lays2.n37 Try.prog Try.laysNm237_ren := {
  mixed := by kernel_rfl
  f37 := Try.func186.trans (congrArg some (by kernel_rfl))
  t3 := Try.underlying3
  a3 := Try.isAgg3
  z3 := Try.sizeOf3
  v3 := Try.zeroValue3
  t4 := Try.underlying4
  a4 := Try.isAgg4
  z4 := Try.sizeOf4
  v4 := Try.zeroValue4 }
open Go.RowKit Go.Lib in
/-- cmp.isNaN[int]: 'x != x': false. (LAID: no walk: one application.) -/
theorem Try.cmp_isNaN_int2 (x : Int) (w : World) :
    Calls Try.prog 186 #[.int .i64 x] w fun e w' => e = .returned (.bool false) ∧ w' = w := Any.cmp_isNaN_int2 Try.laysNm237 x w
def Try.laysNm231_ren : Go.Shelf.Ren := ⟨fun | 31 => 172 | 37 => 186 | n => n, fun | 3 => 3 | 4 => 4 | n => n, fun | n => n⟩
theorem Try.laysNm231 : Go.Proofs.Lays2.n31 Try.prog Try.laysNm231_ren := {
  mixed := by kernel_rfl
  f31 := Try.func172.trans (congrArg some (by kernel_rfl))
  f37 := Try.func186.trans (congrArg some (by kernel_rfl))
  t3 := Try.underlying3
  a3 := Try.isAgg3
  z3 := Try.sizeOf3
  v3 := Try.zeroValue3
  t4 := Try.underlying4
  a4 := Try.isAgg4
  z4 := Try.sizeOf4
  v4 := Try.zeroValue4 }
open Go.RowKit Go.Lib in
/-- cmp.Less[int]: "Less reports whether x is less than y.": 'x < y'; the world is as it was. (LAID: no walk: one application.) -/
theorem Try.cmp_Less_int2 (x y : Int) (w : World) :
    Calls Try.prog 172 #[.int .i64 x, .int .i64 y] w fun e w' => e = .returned (.bool (decide (x < y))) ∧ w' = w := Any.cmp_Less_int2 Try.laysNm231 x y w
open Go.RowKit Go.Lib Go.Sort in
/-- slices.Compact at []int, of an argument: the slice cut to 'Lib.compact (elements)'; the n cells hold that, then zeros. (LAID: no walk: one application.) -/
theorem Try.slices_Compact_int_cells (b off n c : Nat) (zs : List Int) (w : World) (hz : n ≤ zs.length) (hbig : n ≤ 9223372036854775807) (hcap : n ≤ c) (hc : ∀ j, j < zs.length → w.cell? ⟨b, off + j, none⟩ = some (.int .i64 (zs.getD j 0))) (hf : ∀ j, j < n → w.frozen? ⟨b, off + j, none⟩ = false) :
    Calls Try.prog 111 #[.slice (some ⟨b, off, none⟩) n c] w fun e w' => e = .returned (.slice (some ⟨b, off, none⟩) (Lib.compact (zs.take n)).length c) ∧ ∃ q, w' = (w.drewN q).setCells b off ((Lib.compact (zs.take n) ++ List.replicate (n - (Lib.compact (zs.take n)).length) 0).map (Value.int .i64)) := Any.slices_Compact_int_cells Try.laysNm220 b off n c zs w hz hbig hcap hc hf
open Go.RowKit Go.Sort in
/-- .. and plain. (LAID: no walk: one application.) -/
theorem Try.slices_Sort_int_none (p : Option Addr) (cap : Nat) (w : World) :
    Calls Try.prog 110 #[.slice p 0 cap] w fun e w' => e = .returned (.tuple #[]) ∧ w' = w := Any.slices_Sort_int_none Try.lays189 p cap w
end Go.Proofs

/- A region that draws its order: loads come first under a condition S that is asked before its last operations alone (a store to a cell that the region loads). Over any program. -/
namespace Go.Proofs.Ytgdgelkeflihpaa
set_option linter.unusedVariables false
set_option linter.unusedSimpArgs false
open Go.RowKit

section
variable {P : Program} {ops : Array Oper} {Q : Exit → Act → World → Prop} {md : Region.Mode} {S : World → Prop} {n : Nat}

/-- whatever order is picked; S holds behind each operation below n -/
def wpAnyF (P : Program) (md : Region.Mode) (ops : Array Oper) (Q : Exit → Act → World → Prop) (S : World → Prop) (n : Nat) : Nat → Array Bool → Act → World → Prop
  | 0, listed, a, w => Region.ready md ops listed = [] ∧ Q .normal a w
  | f + 1, listed, a, w => (Region.ready md ops listed = [] → Q .normal a w) ∧
    ∀ i ∈ Region.ready md ops listed, wpOp P ops Q i (fun a' w' => (i < n → S w') ∧ wpAnyF P md ops Q S n f (listed.setIfInBounds i true) a' w') a w
theorem F_any : ∀ (f : Nat) (listed : Array Bool) (a : Act) (w : World), wpAnyF P md ops Q S n f listed a w → wpAny P md ops Q f listed a w
  | 0, _, _, _, h => h
  | f + 1, _, _, _, h => ⟨h.1, fun i hi => wpOp_mono (fun _ _ h' => F_any f _ _ _ h'.2) (h.2 i hi)⟩
theorem F_first {i : Nat} {oi : Oper} {v : Value} (hi : ops[i]? = some oi) (hsel : ∀ (j : Nat) (o : Oper) cs b, ops[j]? = some o → o.op ≠ .select cs b) (hQ : ∀ c a w, Q (.panic c) (a.put oi.dst v) w → Q (.panic c) a w)
    (hs : Region.sinkB md ops n = true) (hc : Region.chainB md ops n = true) (hn : n < ops.size) (hin : i < n) : ∀ (f : Nat) (listed : Array Bool) (a : Act) (w : World), HeadInv md ops n listed →
      (∀ j oj, ops[j]? = some oj → j ≠ i → listed.getD j true = false → (∀ e ∈ oj.after, Region.binds md e = true → e.on ≠ i) → oi.apart ops oj = true) →
      i ∈ Region.ready md ops listed → YieldsIf P ops S oi v a → S w →
      wpAnyF P md ops Q S n f (listed.setIfInBounds i true) (a.put oi.dst v) w → wpAnyF P md ops Q S n (f + 1) listed a w := by
  intro f
  induction f with
  | zero =>
    intro listed a w inv _ hr hy hS H
    have hun := (mem_ready.1 hr).1
    refine ⟨fun h => (by rw [h] at hr; cases hr), fun j hj => ?_⟩
    by_cases hji : j = i
    · subst hji; exact hy.wpOp hi hS ⟨fun _ => hS, H⟩
    · have := ready_mono hj hji
      rw [H.1] at this
      cases this
  | succ f ih =>
    intro listed a w inv hfree hr hy hS H
    have hun := (mem_ready.1 hr).1
    refine ⟨fun h => (by rw [h] at hr; cases hr), fun j hj => ?_⟩
    have hjn : j < n := by
      rcases Nat.lt_or_ge j n with h | h
      · exact h
      · exact absurd hj (tail_waits hs hc hn inv _ i rfl hin hun j h)
    by_cases hji : j = i
    · subst hji; exact hy.wpOp hi hS ⟨fun _ => hS, H⟩
    · have h1 := H.2 j (ready_mono hj hji)
      obtain ⟨hjun, oj, hoj, hall⟩ := mem_ready.1 hj
      have hnot : ∀ e ∈ oj.after, Region.binds md e = true → e.on ≠ i := fun e he hb heq => by
        have h1 := hall e he hb
        rw [heq, getD_both hun] at h1
        cases h1
      have h2 := wpOp_putIf hoj (hfree j oj hoj hji hjun hnot) (fun cs b => hsel i oi cs b hi) (fun cs b => hsel j oj cs b hoj) hQ hy h1
      have hfree' : ∀ k ok, ops[k]? = some ok → k ≠ i → (listed.setIfInBounds j true).getD k true = false → (∀ e ∈ ok.after, Region.binds md e = true → e.on ≠ i) → oi.apart ops ok = true := fun k ok hk hki hun hno => by
        refine hfree k ok hk hki ?_ hno
        by_cases hjk : j = k
        · subst hjk; exact hjun
        · rw [getD_set_ne true hjk] at hun; exact hun
      refine wpOp_mono (fun a' w' h3 => ⟨h3.2.1, ih (listed.setIfInBounds j true) a' w' (inv.set hj hjn) hfree' (ready_mono hr (Ne.symm hji)) h3.1 (h3.2.1 hjn) ?_⟩) h2
      rw [Array.setIfInBounds_comm _ _ hji]
      exact h3.2.2
theorem F_take {i : Nat} {oi : Oper} {v : Value} {f : Nat} {listed : Array Bool} {a : Act} {w : World} (hi : ops[i]? = some oi) (hB : (Region.noSelect ops && Region.sinkB md ops n && Region.chainB md ops n && decide (n < ops.size) && decide (i < n)) = true)
    (hf : Region.free md ops listed i = true) (hr : (Region.ready md ops listed).contains i = true) (hQ : ∀ c a w, Q (.panic c) (a.put oi.dst v) w → Q (.panic c) a w) (inv : HeadInv md ops n listed) (hy : YieldsIf P ops S oi v a) (hS : S w)
    (h : HeadInv md ops n (listed.setIfInBounds i true) → wpAnyF P md ops Q S n f (listed.setIfInBounds i true) (a.put oi.dst v) w) : wpAnyF P md ops Q S n (f + 1) listed a w := by
  simp only [Bool.and_eq_true, decide_eq_true_eq] at hB
  obtain ⟨⟨⟨⟨h1, h2⟩, h3⟩, h4⟩, h5⟩ := hB
  have hr' : i ∈ Region.ready md ops listed := by simpa using hr
  exact F_first hi (Region.noSelect_spec h1) hQ h2 h3 h4 h5 f listed a w inv (Region.free_spec hi hf) hr' hy hS (h (inv.set hr' h5))
/-- the only one that may come up: an operation below n -/
theorem F_one {i : Nat} {oi : Oper} {f : Nat} {listed : Array Bool} {a : Act} {w : World} (hr : Region.ready md ops listed = [i]) (hi : ops[i]? = some oi) (hg : oi.guard = none) (hin : i < n) (inv : HeadInv md ops n listed)
    (h : ∀ K : Act → World → Prop, Shut (∀ a' w', S w' → (S w' → HeadInv md ops n (listed.setIfInBounds i true) → wpAnyF P md ops Q S n f (listed.setIfInBounds i true) a' w') → K a' w') → Oper.wp P oi a w K Q) : wpAnyF P md ops Q S n (f + 1) listed a w := by
  refine ⟨fun h0 => (by rw [hr] at h0; cases h0), fun j hj => ?_⟩
  have hj2 := hj
  rw [hr] at hj2
  obtain rfl : j = i := by simpa using hj2
  have hw : Region.wanted oi (yielded ops a.tmps) = true := by simp [Region.wanted, hg]
  unfold wpOp
  simp only [hi, hw, if_true]
  exact .inl (h _ (fun a' w' hS hF => ⟨fun _ => hS, hF hS (inv.set hj hin)⟩))
/-- the last one -/
theorem F_last {i : Nat} {oi : Oper} {f : Nat} {listed : Array Bool} {a : Act} {w : World} (hr : Region.ready md ops listed = [i]) (hi : ops[i]? = some oi) (hg : oi.guard = none) (hin : n ≤ i) (he : Region.ready md ops (listed.setIfInBounds i true) = [])
    (h : ∀ K : Act → World → Prop, (∀ a' w', Q .normal a' w' → K a' w') → Oper.wp P oi a w K Q) : wpAnyF P md ops Q S n (f + 1) listed a w := by
  refine ⟨fun h0 => (by rw [hr] at h0; cases h0), fun j hj => ?_⟩
  rw [hr] at hj
  obtain rfl : j = i := by simpa using hj
  have hw : Region.wanted oi (yielded ops a.tmps) = true := by simp [Region.wanted, hg]
  unfold wpOp
  simp only [hi, hw, if_true]
  refine .inl (h _ (fun a' w' hq => ⟨fun h => absurd h (by omega), ?_⟩))
  cases f with
  | zero => exact ⟨he, hq⟩
  | succ f => exact ⟨fun _ => hq, by rw [he]; simp⟩
/-- two that may come up -/
theorem F_two {i j : Nat} {oi oj : Oper} {f : Nat} {listed : Array Bool} {a : Act} {w : World} (hr : Region.ready md ops listed = [i, j]) (hi : ops[i]? = some oi) (hj : ops[j]? = some oj) (hgi : oi.guard = none) (hgj : oj.guard = none) (hin : i < n ∧ j < n) (inv : HeadInv md ops n listed)
    (h1 : ∀ K : Act → World → Prop, Shut (∀ a' w', S w' → (S w' → HeadInv md ops n (listed.setIfInBounds i true) → wpAnyF P md ops Q S n f (listed.setIfInBounds i true) a' w') → K a' w') → Oper.wp P oi a w K Q)
    (h2 : ∀ K : Act → World → Prop, Shut (∀ a' w', S w' → (S w' → HeadInv md ops n (listed.setIfInBounds j true) → wpAnyF P md ops Q S n f (listed.setIfInBounds j true) a' w') → K a' w') → Oper.wp P oj a w K Q) : wpAnyF P md ops Q S n (f + 1) listed a w := by
  refine ⟨fun h0 => (by rw [hr] at h0; cases h0), fun k hk => ?_⟩
  have hk2 := hk
  rw [hr] at hk2
  simp only [List.mem_cons, List.not_mem_nil, or_false] at hk2
  rcases hk2 with rfl | rfl
  · have hw : Region.wanted oi (yielded ops a.tmps) = true := by simp [Region.wanted, hgi]
    unfold wpOp
    simp only [hi, hw, if_true]
    exact .inl (h1 _ (fun a' w' hS hF => ⟨fun _ => hS, hF hS (inv.set hk hin.1)⟩))
  · have hw : Region.wanted oj (yielded ops a.tmps) = true := by simp [Region.wanted, hgj]
    unfold wpOp
    simp only [hj, hw, if_true]
    exact .inl (h2 _ (fun a' w' hS hF => ⟨fun _ => hS, hF hS (inv.set hk hin.2)⟩))
/-- one of the chain at the end, not the last -/
theorem F_tail {i : Nat} {oi : Oper} {f : Nat} {listed : Array Bool} {a : Act} {w : World} (hr : Region.ready md ops listed = [i]) (hi : ops[i]? = some oi) (hg : oi.guard = none) (hin : n ≤ i)
    (h : ∀ K : Act → World → Prop, Shut (∀ a' w', wpAnyF P md ops Q S n f (listed.setIfInBounds i true) a' w' → K a' w') → Oper.wp P oi a w K Q) : wpAnyF P md ops Q S n (f + 1) listed a w := by
  refine ⟨fun h0 => (by rw [hr] at h0; cases h0), fun j hj => ?_⟩
  rw [hr] at hj
  obtain rfl : j = i := by simpa using hj
  have hw : Region.wanted oi (yielded ops a.tmps) = true := by simp [Region.wanted, hg]
  unfold wpOp
  simp only [hi, hw, if_true]
  exact .inl (h _ (fun a' w' hF => ⟨fun hlt => absurd hlt (by omega), hF⟩))
theorem F_start {id : Nat} {a : Act} {w : World} (n : Nat) (S : World → Prop) (hm : P.follows .mixedOrders = true) (hS : S w.drew)
    (h : S w.drew → HeadInv .any ops n (Array.replicate ops.size false) → wpAnyF P .any ops Q S n ops.size (Array.replicate ops.size false) a w.drew) : (Code.region id ops true).wp P Q a w :=
  wp_region_any hm (F_any _ _ _ _ (h hS ⟨by simp, fun j oj _ hl => (by rw [getD_replicate_false] at hl; cases hl), fun t _ ht => getD_in (by simpa using ht) (getD_replicate_false _ _)⟩))

/-- append(s, x): as an operation by itself; the one element lies in block H -/
theorem op_append1 {w : World} {α : Type} (E : α → List Value) {o : Oper} {a : Act} {K : Act → World → Prop} {t e : TypeId} {z : Value} {k bytes : Nat} (el : ElemOk P t e z k bytes) (hgd : o.guard = none) (s y : Operand)
    (ho : o.op = .call { callee := .builtin .append, args := #[s, y], argTypes := #[t, t] })
    (base : Nat) (v : Value) (xs : List α) (x : α) (c H : Nat) (hs : a.eval s = v) (hown : w.ownsRow base e k v xs.length (xs.flatMap E)) (hy : a.eval y = .slice (some ⟨H, 0, none⟩) 1 c)
    (hH : w.heap[H]? = some (.cells (E x).toArray e (0, 0))) (hE : (E x).length = k) (h1 : ∀ u ∈ E x, u.oneCell' = true) (hbytes : (xs.length + 1) * bytes ≤ 140737488355328) (hb0 : 0 < bytes) (hbase : base ≤ w.heap.size)
    (h : ∀ g cap w', w'.ownsRow base e k (.slice (some ⟨g, 0, none⟩) (xs.length + 1) cap) (xs ++ [x]).length ((xs ++ [x]).flatMap E) → w.grownBy w' v.ownBlock → (v.ownBlock = some g ∨ w.heap.size ≤ g) → g < w'.heap.size →
      K (a.put o.dst (.slice (some ⟨g, 0, none⟩) (xs.length + 1) cap)) w') : Oper.wp P o a w K Q := by
  have h2 := step_append1 (ops := #[]) (EE := True) (Q := Q) (K := K) E el hgd s y ho base v xs x c H hs hown hy hH hE h1 hbytes hb0 hbase h
  have hw : Region.wanted o (yielded #[] a.tmps) = true := by simp [Region.wanted, hgd]
  rwa [if_pos hw] at h2
/-- the same at the head of a list of operations -/
theorem wpList_append2 {w : World} {α : Type} (E : α → List Value) {rest : List Oper} {o : Oper} {a : Act} {t e : TypeId} {z : Value} {k bytes : Nat} (el : ElemOk P t e z k bytes) (hgd : o.guard = none) (s y : Operand)
    (ho : o.op = .call { callee := .builtin .append, args := #[s, y], argTypes := #[t, t] })
    (base : Nat) (v : Value) (xs : List α) (x : α) (c H : Nat) (hs : a.eval s = v) (hown : w.ownsRow base e k v xs.length (xs.flatMap E)) (hy : a.eval y = .slice (some ⟨H, 0, none⟩) 1 c)
    (hH : w.heap[H]? = some (.cells (E x).toArray e (0, 0))) (hE : (E x).length = k) (h1 : ∀ u ∈ E x, u.oneCell' = true) (hbytes : (xs.length + 1) * bytes ≤ 140737488355328) (hb0 : 0 < bytes) (hbase : base ≤ w.heap.size)
    (h : ∀ g cap w', w'.ownsRow base e k (.slice (some ⟨g, 0, none⟩) (xs.length + 1) cap) (xs ++ [x]).length ((xs ++ [x]).flatMap E) → w.grownBy w' v.ownBlock → (v.ownBlock = some g ∨ w.heap.size ≤ g) → g < w'.heap.size →
      wpList P ops Q rest (a.put o.dst (.slice (some ⟨g, 0, none⟩) (xs.length + 1) cap)) w') : wpList P ops Q (o :: rest) a w :=
  wpList_plain hgd fun _ hK => op_append1 E el hgd s y ho base v xs x c H hs hown hy hH hE h1 hbytes hb0 hbase fun g cap w' h2 h3 h4 h5 => hK _ _ (h g cap w' h2 h3 h4 h5)
end
end Go.Proofs.Ytgdgelkeflihpaa

/- append of a whole list to a row of the call's own, from whatever slice reads as the list. Over any program. -/
namespace Go.Proofs.Ytgdgelkeflihpaa
set_option linter.unusedVariables false
set_option linter.unusedSimpArgs false
open Go.ChangeShapes Go.WideShapes Go.ChangeAt Go.RowKit
section
variable {P : Program} {w : World}
theorem run_append_nil0 (base : Nat) (t ty e : TypeId) (i : TypeInfo) (size : Nat) (ht : P.underlying t = some (.slice e)) (hi : P.info? e = some i) (v : Value) (n : Nat) (xs : List Value) (hown : w.ownsRow base e size v n xs) (c : Nat) :
    (Builtin.append_ #[t, t] ty #[v, .slice none 0 c]).run P w = .ok v w := by
  obtain ⟨_, h2⟩ := hown
  rcases h2 with ⟨rfl, _⟩ | ⟨g, cap, cur, rfl, _, _, hnc, _⟩
  · simp [Builtin.append_, run_underlying ht, sizeOf, typeInfo, hi, Builtin.lenOf, Builtin.firstCells]
  · simp [Builtin.append_, run_underlying ht, sizeOf, typeInfo, hi, Builtin.lenOf, Builtin.firstCells, hnc, storeCells]
theorem flat_one {α : Type} {E : α → List Value} {xs : List α} (h1 : ∀ x, ∀ u ∈ E x, u.oneCell' = true) : ∀ u ∈ xs.flatMap E, u.oneCell' = true := fun u hu => by
  obtain ⟨x, _, hx⟩ := List.mem_flatMap.1 hu
  exact h1 x u hx
theorem flat_lenE {α : Type} {E : α → List Value} {k : Nat} (hE : ∀ x, (E x).length = k) : ∀ xs : List α, (xs.flatMap E).length = xs.length * k
  | [] => by simp
  | x :: xs => by rw [List.flatMap_cons, List.length_append, hE, flat_lenE hE xs, List.length_cons, Nat.succ_mul, Nat.add_comm]
/-- all cells of a list lie one behind the other -/
theorem flat_cells {α : Type} {E : α → List Value} {k : Nat} (hE : ∀ x, (E x).length = k) (hk : 0 < k) {b o : Nat} {ys : List α} (h : ∀ i x, ys[i]? = some x → ∀ j u, (E x)[j]? = some u → w.cell? ⟨b, o + i * k + j, none⟩ = some u) :
    ∀ j u, (ys.flatMap E)[j]? = some u → w.cell? ((⟨b, o, none⟩ : Addr).add j) = some u := by
  intro j u hu
  have hl := (List.getElem?_eq_some_iff.1 hu).1
  rw [flat_lenE hE] at hl
  have hi : j / k < ys.length := Nat.div_lt_of_lt_mul (by rw [Nat.mul_comm]; exact hl)
  have hx : ys[j / k]? = some ys[j / k] := List.getElem?_eq_getElem hi
  have hj : j % k < (E ys[j / k]).length := by rw [hE]; exact Nat.mod_lt _ hk
  have hf := flat_at hE hx (j % k) _ (List.getElem?_eq_getElem hj)
  have hjj : j / k * k + j % k = j := by rw [Nat.mul_comm]; exact Nat.div_add_mod j k
  rw [hjj, hu] at hf
  injection hf with hf
  have hc := h _ _ hx (j % k) _ (List.getElem?_eq_getElem hj)
  have hadd : (⟨b, o, none⟩ : Addr).add j = ⟨b, o + j, none⟩ := by unfold Addr.add; split <;> simp_all
  rw [hadd, hf, ← hc]
  congr 2
  omega
theorem run_appendL {α : Type} (E : α → List Value) {t e : TypeId} {z : Value} {k bytes : Nat} (el : ElemOk P t e z k bytes) (hE : ∀ x, (E x).length = k) (h1 : ∀ x, ∀ u ∈ E x, u.oneCell' = true)
    (base : Nat) (v : Value) (xs ys : List α) (hown : w.ownsRow base e k v xs.length (xs.flatMap E)) (lo hi : Nat) (y : Value) (hy : SlI lo hi w E k y ys) (hbytes : (xs.length + ys.length) * bytes ≤ 140737488355328) (hb0 : 0 < bytes) (hbase : base ≤ w.heap.size) (ty : TypeId) :
    ∃ v' w', (Builtin.append_ #[t, t] ty #[v, y]).run P w = .ok v' w' ∧ w'.ownsRow base e k v' (xs ++ ys).length ((xs ++ ys).flatMap E) ∧ w.grownBy w' v.ownBlock ∧ (v'.ownBlock = v.ownBlock ∨ v'.ownBlock = some w.heap.size) := by
  obtain ⟨i, hi, hz0, hz1, hz2⟩ := info_parts el.info
  have hlen : xs.length + ys.length ≤ 140737488355328 := Nat.le_trans (Nat.le_mul_of_pos_right _ hb0) hbytes
  obtain ⟨A, c, rfl, _, _, hx⟩ := hy
  have key : ∀ a : Addr, A = some a → (∀ j u, (ys.flatMap E)[j]? = some u → w.cell? (a.add j) = some u) → ∃ v' w', (Builtin.append_ #[t, t] ty #[v, .slice A ys.length c]).run P w = .ok v' w' ∧ w'.ownsRow base e k v' (xs ++ ys).length ((xs ++ ys).flatMap E) ∧ w.grownBy w' v.ownBlock ∧ (v'.ownBlock = v.ownBlock ∨ v'.ownBlock = some w.heap.size) := by
    intro a ha hc
    subst ha
    obtain ⟨v', w', hr, h2, h3, _, h5⟩ := run_append_own_at (P := P) w base t ty e i z k bytes el.und hi hz0 hz1 hz2 el.zc el.pos v xs.length (xs.flatMap E) hown a ys.length c (ys.flatMap E) (flat_lenE hE ys) hc (flat_one h1) (by unfold maxLen; omega) hbytes hbase
    exact ⟨v', w', hr, by rw [List.flatMap_append, List.length_append]; exact h2, h3, h5⟩
  cases ys with
  | nil =>
    cases A with
    | none => exact ⟨v, w, run_append_nil0 base t ty e i k el.und hi v _ _ hown c, by simpa using hown, World.grownBy.refl w _, .inl rfl⟩
    | some a => exact key a rfl (fun j u hu => by simp at hu)
  | cons x ys =>
    obtain ⟨b, o, hA, -, -, -⟩ := hx 0 x rfl
    refine key ⟨b, o, none⟩ hA (flat_cells hE el.pos fun i x hi j u hu => ?_)
    obtain ⟨b', o', hA', -, -, hc⟩ := hx i x hi
    rw [hA] at hA'
    injection hA' with hA'
    injection hA' with e1 e2
    subst e1 e2
    exact hc j u hu
theorem wpList_appendL {α : Type} (E : α → List Value) {ops : Array Oper} {rest : List Oper} {o : Oper} {a : Act} {Q : Exit → Act → World → Prop} {t e : TypeId} {z : Value} {k bytes : Nat} (el : ElemOk P t e z k bytes) (hE : ∀ x, (E x).length = k) (h1 : ∀ x, ∀ u ∈ E x, u.oneCell' = true)
    (hgd : o.guard = none) (s y : Operand) (ho : o.op = .call { callee := .builtin .append, args := #[s, y], argTypes := #[t, t] })
    (base : Nat) (v : Value) (xs ys : List α) (hs : a.eval s = v) (hown : w.ownsRow base e k v xs.length (xs.flatMap E)) (lo hi : Nat) (yv : Value) (hyv : a.eval y = yv) (hy : SlI lo hi w E k yv ys) (hbytes : (xs.length + ys.length) * bytes ≤ 140737488355328) (hb0 : 0 < bytes) (hbase : base ≤ w.heap.size)
    (h : ∀ v' w', w'.ownsRow base e k v' (xs ++ ys).length ((xs ++ ys).flatMap E) → w.grownBy w' v.ownBlock → (v'.ownBlock = v.ownBlock ∨ v'.ownBlock = some w.heap.size) → wpList P ops Q rest (a.put o.dst v') w') : wpList P ops Q (o :: rest) a w := by
  refine wpList_plain hgd fun K hK => ?_
  obtain ⟨v', w', hr, h2, h3, h5⟩ := run_appendL E el hE h1 base v xs ys hown lo hi yv hy hbytes hb0 hbase o.type
  unfold Oper.wp execOp
  simp only [ho, resolve, invoke, builtin, Sem.run_bind, Sem.run_pure, Result.andThen_ok, List.map_toArray, List.map_cons, List.map_nil, hs, hyv, hr]
  exact hK _ _ (h v' w' h2 h3 h5)
end
end Go.Proofs.Ytgdgelkeflihpaa

/- A row of one's own, cut short: what 's[:m]' leaves is a row of one's own. -/
namespace Go.Proofs.Ytgdgelkeflihpaa
set_option linter.unusedVariables false
set_option linter.unusedSimpArgs false
open Go.ChangeShapes Go.WideShapes Go.ChangeAt Go.RowKit

theorem ownsRow_take {W : World} {base k n m g cap : Nat} {e : TypeId} {cs : List Value} (h : W.ownsRow base e k (.slice (some ⟨g, 0, none⟩) n cap) n cs) (hm : m ≤ n) : W.ownsRow base e k (.slice (some ⟨g, 0, none⟩) m cap) m (cs.take (m * k)) := by
  obtain ⟨hl, hs⟩ := h
  have hmk : m * k ≤ n * k := Nat.mul_le_mul_right k hm
  refine ⟨by rw [List.length_take, hl]; omega, ?_⟩
  rcases hs with ⟨h1, _⟩ | ⟨g', cap', cur, hv, hg, hh, hnc, hcm, hsz, htk⟩
  · cases h1
  · simp only [Value.slice.injEq, Option.some.injEq, Addr.mk.injEq, and_true, true_and] at hv
    obtain ⟨rfl, rfl⟩ := hv
    refine .inr ⟨g, cap, cur, rfl, hg, hh, by omega, hcm, hsz, ?_⟩
    rw [← htk, List.take_take]
    congr 1
    omega
end Go.Proofs.Ytgdgelkeflihpaa

/- The program's copyInts and ascending: a copy of numbers; the same in ascending order, each once. -/
namespace Go.Proofs.Ytgdgelkeflihpaa
set_option linter.unusedVariables false
set_option linter.unusedSimpArgs false
open Go.ChangeShapes Go.WideShapes Go.ChangeAt Go.RowKit Go.Sort
attribute [local go_sem] ext_cell ext_frozen ext_lt ext_lt1 ext_lt2 ext_lt3 ltn2 ltn3 ltn13 lts1 lts2 lts3

theorem flatI_map (xs : List Int) : xs.flatMap cI = xs.map (Value.int .i64) := by
  induction xs with
  | nil => rfl
  | cons x xs ih => rw [List.flatMap_cons, List.map_cons, ih]; rfl
theorem only_ahead (lo hi : Nat) (w : World) (n : Nat) : Only lo hi w (Sort.ahead w n) := ⟨rfl, rfl, rfl, Nat.le_refl _, fun _ _ _ => rfl⟩
theorem only_grow (lo hi : Nat) (w : World) (os : Array Obj) : Only lo hi w (grow w os) := ⟨rfl, rfl, rfl, by simp [grow], fun n hn _ => by simp [grow, Array.getElem?_append, hn]⟩
theorem only_put {α : Type} [Inhabited α] (enc : α → Value) (w : World) (g off : Nat) (d : Array α) : Only g (g + 1) w (putRow enc w g off d) :=
  ⟨rfl, rfl, rfl, by simp [putRow, mapBlock], fun n hn ho => by simp only [putRow, mapBlock, Array.getElem?_modify]; rw [if_neg (by omega)]⟩
theorem row_put {w : World} {base g n cap : Nat} {e : TypeId} {cs : List Value} (h : w.ownsRow base e 1 (.slice (some ⟨g, 0, none⟩) n cap) n cs) {ds : List Int} (hd : ds.length = n) :
    (putRow (Value.int .i64) w g 0 ds.toArray).ownsRow base e 1 (.slice (some ⟨g, 0, none⟩) n cap) n (ds.flatMap cI) := by
  obtain ⟨hl, hs⟩ := h
  rw [flatI_map]
  refine ⟨by simp [hd], ?_⟩
  rcases hs with ⟨h1, _⟩ | ⟨g', cap', cur, hv, hg, hh, hnc, hcm, hsz, htk⟩
  · cases h1
  · simp only [Value.slice.injEq, Option.some.injEq, Addr.mk.injEq, and_true, true_and] at hv
    obtain ⟨rfl, rfl⟩ := hv
    refine .inr ⟨g, cap, putCells (Value.int .i64) 0 ds.toArray cur, rfl, hg, ?_, hnc, hcm, by simp [putCells, hsz], ?_⟩
    · simp [putRow, mapBlock, Array.getElem?_modify, hh, onCells]
    · apply List.ext_getElem?
      intro k
      rw [List.getElem?_take]
      by_cases hk : k < n * 1
      · rw [if_pos hk]
        have hk1 : k < n := by omega
        have hkc : k < cur.size := by omega
        have hkd : k < ds.length := by omega
        simp [putCells, hkc, hkd, getElem!_pos]
      · rw [if_neg hk, List.getElem?_eq_none (by simp; omega)]
theorem holds_own {w : World} {base g n cap : Nat} {e : TypeId} {zs : List Int} (h : w.ownsRow base e 1 (.slice (some ⟨g, 0, none⟩) n cap) n (zs.flatMap cI)) (hz : zs.length = n) : Holds (Value.int .i64) w g 0 zs.toArray := by
  intro j hj
  have hj' : j < zs.length := by simpa using hj
  refine ⟨?_, by rw [Nat.zero_add]; exact World.ownsRow.frozenAt h j⟩
  rw [Nat.zero_add, World.ownsRow.cellAt h j (by omega), flatI_map, List.getElem?_map, List.getElem?_eq_getElem hj', get_bang hj']
  rfl

set_option maxHeartbeats 1000000 in
theorem copyInts_any (v : Value) (xs : List Int) (w : World) (hv : SlE w cI 1 v xs) (hn : xs.length ≤ 1000000) :
    Calls Try.prog 109 #[v] w fun e w' => ∃ v', e = .returned v' ∧ Own w.heap.size w'.heap.size w' 3 cI 1 v' xs ∧ Below w.heap.size w w' := by
  have hv0 := hv
  obtain ⟨A, c, rfl, hl, hm, -⟩ := SlE.form hv
  have hba : Below w.heap.size w (w.alloc (.cells #[] 3)) := (Below.refl _ _).alloc (Nat.le_refl _) _
  have hv1 := SlE.keep hv0 hba
  have hrow := World.ownsRow_lit (base := w.heap.size) (e := 3) (size := 1) w #[] 0 (Nat.le_refl _) (by decide) rfl
  have HV := Lib.hid hv1
  have HR := Lib.hid hrow
  clear hv hv0 hv1 hrow
  go_enter Try.func109, Try.ntmps109
  go_wp2_with (at_builtin; (refine wpList_appendL cI elInt cI_len cI_one rfl _ _ rfl w.heap.size _ [] xs (by rfl) HR.out 0 _ _ (by rfl) HV.out (by simp; omega) (by omega) (by simp) ?_); intro v' w4 hrow' hgr4 hat4)
  have hown := Own.of_row (xs := xs) hrow' rfl rfl
  have hgr := hgr4
  have hbel := (hba.trans (own_below HR.out (by simp) hgr4))
  obtain ⟨A2, n2, c2, rfl⟩ := hown.shape
  have HO := Lib.hid hown
  clear hown hgr hgr4 hrow' hat4
  go_wp2_with fail
  go_ret
  exact ⟨_, rfl, HO.out, hbel⟩

set_option maxHeartbeats 2000000 in
theorem ascending_any (v : Value) (xs : List Int) (w : World) (hv : SlE w cI 1 v xs) (hn : xs.length ≤ 1000000) :
    Calls Try.prog 70 #[v] w fun e w' => ∃ v', e = .returned v' ∧ Own w.heap.size w'.heap.size w' 3 cI 1 v' (ascL xs) ∧ Below w.heap.size w w' := by
  have hc := copyInts_any v xs w hv hn
  have HC := Lib.hid hc
  clear hc hv
  obtain ⟨R, hR⟩ : ∃ R, R = ascL xs := ⟨_, rfl⟩
  rw [← hR]
  have HR := Lib.hid hR
  clear hR
  go_enter Try.func70, Try.ntmps70
  go_wp2_with fail
  refine HC.out.mono ?_
  rintro e w1 ⟨v1, rfl, ho1, hb1⟩
  cases xs with
  | nil =>
    have hr0 : R = [] := by rw [HR.out]; simp [ascL, Lib.compact, Lib.compactUpTo]
    subst hr0
    obtain ⟨A1, c1, rfl, -, -, -⟩ := ho1.form cI_len
    have HO := Lib.hid ho1
    clear ho1
    simp only [List.length_nil] at HO ⊢
    go_wp2_with fail
    refine (Try.slices_Sort_int_none A1 c1 _).mono ?_
    rintro e w2 ⟨rfl, rfl⟩
    go_wp2_with fail
    refine (Try.slices_Compact_int_empty A1 c1 _).mono ?_
    rintro e w3 ⟨rfl, rfl⟩
    go_wp2_with fail
    go_ret
    exact ⟨_, rfl, HO.out, hb1⟩
  | cons x xs =>
    obtain ⟨zs, hzs⟩ : ∃ zs, zs = x :: xs := ⟨_, rfl⟩
    have hz0 : zs.length ≠ 0 := by rw [hzs]; simp
    rw [← hzs] at HR ho1 hn
    clear hzs HC
    have hr1 := ho1.1
    obtain ⟨g, c, rfl, hg, hgw, hcl, hcm⟩ := own_some hr1 hz0
    have hms : (zs.mergeSort fun x y => decide (x ≤ y)).length = zs.length := List.length_mergeSort _
    obtain ⟨ys, hys⟩ : ∃ ys, ys = zs.mergeSort fun x y => decide (x ≤ y) := ⟨_, rfl⟩
    rw [← hys] at hms
    have hsort := Try.slices_Sort_int g 0 c zs w1 (holds_own hr1 rfl) hgw (by omega)
    rw [← hys] at hsort
    have HS := Lib.hid hsort
    have HR1 := Lib.hid hr1
    have HRY := Lib.hid (show R = Lib.compact ys by rw [HR.out, ascL, hys])
    clear hsort hr1 hys ho1 HR
    go_wp2_with fail
    refine HS.out.mono ?_
    rintro e w2 ⟨rfl, n, os, rfl⟩
    have hon := ((only_ahead g (g + 1) w1 n).trans (only_put (Value.int .i64) _ g 0 ys.toArray)).trans (only_grow g (g + 1) _ os)
    have hr2 : (grow (putRow (Value.int .i64) (Sort.ahead w1 n) g 0 ys.toArray) os).ownsRow w.heap.size 3 1 (.slice (some ⟨g, 0, none⟩) zs.length c) zs.length (ys.flatMap cI) := by
      have h := row_put (w := Sort.ahead w1 n) (ds := ys) (cs := zs.flatMap cI) (by exact HR1.out) hms
      exact ownsRow_block h fun b hb => by
        have hlt := (h.lt b hb).2
        exact (only_grow 0 0 (putRow (Value.int .i64) (Sort.ahead w1 n) g 0 ys.toArray) os).block b hlt (.inr (Nat.zero_le _))
    have HON := Lib.hid hon
    have HR2 := Lib.hid hr2
    generalize grow (putRow (Value.int .i64) (Sort.ahead w1 n) g 0 ys.toArray) os = w2 at *
    clear hon hr2 HS HR1
    have hcomp := Try.slices_Compact_int g 0 c ys w2 (holds_own HR2.out hms) (by omega) (by omega)
    rw [hms] at hcomp
    have HCO := Lib.hid hcomp
    clear hcomp
    go_wp2_with fail
    refine HCO.out.mono ?_
    rintro e w3 ⟨rfl, q, rfl⟩
    have hcl2 := Lib.compact_length_le ys
    have hr3 : (putRow (Value.int .i64) (Sort.ahead w2 q) g 0 (Lib.compact ys ++ List.replicate (zs.length - (Lib.compact ys).length) 0).toArray).ownsRow w.heap.size 3 1 (.slice (some ⟨g, 0, none⟩) zs.length c) zs.length ((Lib.compact ys ++ List.replicate (zs.length - (Lib.compact ys).length) 0).flatMap cI) :=
      row_put (w := Sort.ahead w2 q) (cs := ys.flatMap cI) (by exact HR2.out) (by rw [List.length_append, List.length_replicate]; omega)
    have hr4 := ownsRow_take hr3 (show (Lib.compact ys).length ≤ zs.length by omega)
    have htk : ((Lib.compact ys ++ List.replicate (zs.length - (Lib.compact ys).length) 0).flatMap cI).take ((Lib.compact ys).length * 1) = (Lib.compact ys).flatMap cI := by
      rw [List.flatMap_append, List.take_left' (by rw [flatI_map]; simp)]
    rw [htk, ← HRY.out] at hr4
    have hon := HON.out.trans ((only_ahead g (g + 1) w2 q).trans (only_put (Value.int .i64) _ g 0 (Lib.compact ys ++ List.replicate (zs.length - (Lib.compact ys).length) 0).toArray))
    have hown := Own.of_row (xs := R) hr4 rfl rfl
    have HO := Lib.hid hown
    have hfin : Below w.heap.size w _ := hb1.trans (hon.below hg hb1.size)
    clear hr3 hr4 htk hon hown
    rw [← HRY.out] at *
    go_wp2_with fail
    go_ret
    exact ⟨_, rfl, HO.out, hfin⟩
end Go.Proofs.Ytgdgelkeflihpaa

/- A slice of the call's own that may begin inside its block (a queue: cut at the front, appended to at the back). -/
namespace Go.Proofs.Ytgdgelkeflihpaa
set_option linter.unusedVariables false
set_option linter.unusedSimpArgs false
open Go.ChangeShapes Go.WideShapes Go.ChangeAt Go.RowKit

def QRow (w : World) (lo : Nat) (e : TypeId) (k : Nat) (v : Value) (n : Nat) (xs : List Value) : Prop :=
  xs.length = n * k ∧
  ((v = .slice none 0 0 ∧ n = 0) ∨
   ∃ g o cap cur, v = .slice (some ⟨g, o, none⟩) n cap ∧ lo ≤ g ∧ w.heap[g]? = some (.cells cur e (0, 0)) ∧ n ≤ cap ∧ cap ≤ maxLen ∧ o + cap * k ≤ cur.size ∧ (cur.toList.drop o).take (n * k) = xs)

section
variable {w w' : World} {lo k n : Nat} {e : TypeId} {v : Value} {xs : List Value}
theorem QRow.of_own (h : w.ownsRow lo e k v n xs) : QRow w lo e k v n xs := by
  obtain ⟨hl, hs⟩ := h
  refine ⟨hl, ?_⟩
  rcases hs with hs | ⟨g, cap, cur, hv, hg, hh, hnc, hm, hsz, htk⟩
  · exact .inl hs
  · exact .inr ⟨g, 0, cap, cur, hv, hg, hh, hnc, hm, by omega, by simpa using htk⟩
theorem QRow.lt (h : QRow w lo e k v n xs) : ∀ g, v.ownBlock = some g → lo ≤ g ∧ g < w.heap.size := by
  intro g hg
  rcases h.2 with ⟨rfl, _⟩ | ⟨g', o, cap, cur, rfl, hl, hh, _⟩
  · cases hg
  · have : g' = g := by simpa [Value.ownBlock] using hg
    subst this
    refine ⟨hl, ?_⟩
    rcases Nat.lt_or_ge g' w.heap.size with hlt | hge
    · exact hlt
    · rw [Array.getElem?_eq_none hge] at hh; cases hh
theorem QRow.shape (h : QRow w lo e k v n xs) : ∃ A c, v = .slice A n c ∧ n ≤ c ∧ c ≤ maxLen := by
  rcases h.2 with ⟨rfl, rfl⟩ | ⟨g, o, cap, cur, rfl, _, _, h1, h2, _⟩
  · exact ⟨_, _, rfl, Nat.le_refl _, by unfold maxLen; omega⟩
  · exact ⟨_, _, rfl, h1, h2⟩
theorem QRow.block (h : QRow w lo e k v n xs) (hb : ∀ g, v.ownBlock = some g → w'.heap[g]? = w.heap[g]?) : QRow w' lo e k v n xs := by
  obtain ⟨hl, hs⟩ := h
  refine ⟨hl, ?_⟩
  rcases hs with hs | ⟨g, o, cap, cur, rfl, hg, hh, r⟩
  · exact .inl hs
  · exact .inr ⟨g, o, cap, cur, rfl, hg, (hb g rfl).trans hh, r⟩
theorem QRow.below (h : QRow w lo e k v n xs) {B : Nat} (hb : Below B w w') (hB : w.heap.size ≤ B) : QRow w' lo e k v n xs :=
  h.block fun g hg => hb.block g (by have := (h.lt g hg).2; omega)
theorem QRow.only (h : QRow w lo e k v n xs) {l r : Nat} (hb : Only l r w w') (ho : ∀ g, v.ownBlock = some g → g < l ∨ r ≤ g) : QRow w' lo e k v n xs :=
  h.block fun g hg => hb.block g (h.lt g hg).2 (ho g hg)
theorem QRow.alloc (h : QRow w lo e k v n xs) (o : Obj) : QRow (w.alloc o) lo e k v n xs :=
  h.block fun g hg => Below.heap_alloc w o g (h.lt g hg).2
theorem QRow.cell (h : QRow w lo e k v n xs) (hn : 0 < n) : ∃ g o c, v = .slice (some ⟨g, o, none⟩) n c ∧ lo ≤ g ∧ g < w.heap.size ∧ ∀ j u, xs[j]? = some u → w.cell? ⟨g, o + j, none⟩ = some u := by
  have hlt := h.lt
  obtain ⟨hl, hs⟩ := h
  rcases hs with ⟨_, h0⟩ | ⟨g, o, cap, cur, rfl, hg, hh, hnc, hm, hsz, htk⟩
  · omega
  · refine ⟨g, o, cap, rfl, hg, (hlt g rfl).2, fun j u hu => ?_⟩
    rw [cell_of_row w g (o + j) cur e (0, 0) hh]
    have hj : j < n * k := by rw [← hl]; exact (List.getElem?_eq_some_iff.1 hu).1
    rw [← htk, List.getElem?_take, if_pos hj, List.getElem?_drop] at hu
    simpa using hu
/-- v[1:] -/
theorem QRow.tail (h : QRow w lo e k v (n + 1) xs) {A : Option Addr} {c : Nat} (hv : v = .slice A (n + 1) c) : QRow w lo e k (.slice (if c = 1 then A else A.map (·.add k)) n (c - 1)) n (xs.drop k) := by
  obtain ⟨hl, hs⟩ := h
  refine ⟨by rw [List.length_drop, hl, Nat.succ_mul]; omega, ?_⟩
  rcases hs with ⟨_, h0⟩ | ⟨g, o, cap, cur, rfl, hg, hh, hnc, hm, hsz, htk⟩
  · omega
  · injection hv with h1 _ h3
    subst h1 h3
    by_cases hc : cap = 1
    · rw [if_pos hc]
      have hn0 : n = 0 := by omega
      subst hn0
      refine .inr ⟨g, o, _, cur, rfl, hg, hh, by omega, by omega, by subst hc; simp only [Nat.sub_self, Nat.zero_mul]; omega, ?_⟩
      have : xs.drop k = [] := by rw [List.drop_eq_nil_iff, hl]; omega
      rw [this]; simp
    · rw [if_neg hc]
      refine .inr ⟨g, o + k, cap - 1, cur, ?_, hg, hh, by omega, by omega, ?_, ?_⟩
      · simp only [Option.map_some, Addr.add]
        split
        · rename_i h0; subst h0; rfl
        · rfl
      · have : cap = (cap - 1) + 1 := by omega
        rw [this, Nat.succ_mul] at hsz
        omega
      · rw [← htk, List.drop_take, List.drop_drop, Nat.succ_mul]
        congr 1
        omega
end

section
variable {P : Program} (w : World)
theorem run_append_roomQ (t ty e : TypeId) (i : TypeInfo) (ht : P.underlying t = some (.slice e)) (hi : P.info? e = some i)
    (g o sLen sCap : Nat) (cur : Array Value) (hg : w.heap[g]? = some (.cells cur e (0, 0)))
    (a : Addr) (m c : Nat) (news : List Value) (hl : news.length = m * i.size) (hnews : ∀ j u, news[j]? = some u → w.cell? (a.add j) = some u) (h1 : ∀ u ∈ news, u.oneCell' = true)
    (hroom : sLen + m ≤ sCap) (hfit : o + sLen * i.size + news.length ≤ cur.size) :
    (Builtin.append_ #[t, t] ty #[.slice (some ⟨g, o, none⟩) sLen sCap, .slice (some a) m c]).run P w =
      .ok (.slice (some ⟨g, o, none⟩) (sLen + m) sCap) (w.setRow g (cur.toList.take (o + sLen * i.size) ++ news ++ cur.toList.drop (o + sLen * i.size + news.length)).toArray) := by
  have hf := run_firstCells_some (P := P) w i.size m a m c news hl hnews
  have hst := run_storeCells_at P g (o + sLen * i.size) e news 0 cur w hg (by simpa using hfit) h1
  simp only [Nat.add_zero] at hst
  have hadd : (⟨g, o, none⟩ : Addr).add (sLen * i.size) = ⟨g, o + sLen * i.size, none⟩ := by
    unfold Addr.add
    split
    · rename_i h0; rw [h0]; rfl
    · rfl
  simp [Builtin.append_, run_underlying ht, sizeOf, typeInfo, hi, Builtin.lenOf, hroom, hf, hadd, hst]

theorem run_appendQ (base : Nat) (t ty e : TypeId) (i : TypeInfo) (z : Value) (size bytes : Nat) (ht : P.underlying t = some (.slice e)) (hi : P.info? e = some i) (hz : i.zero = some z)
    (hsize : i.size = size) (hby : i.bytes = bytes) (hzs : z.cells.size = size) (hsz : 0 < size)
    (v : Value) (n : Nat) (xs : List Value) (hown : QRow w base e size v n xs)
    (a : Addr) (m c : Nat) (news : List Value) (hm0 : 0 < m) (hl : news.length = m * size) (hnews : ∀ j u, news[j]? = some u → w.cell? (a.add j) = some u) (h1 : ∀ u ∈ news, u.oneCell' = true)
    (h63 : n + m ≤ maxLen) (hbytes : (n + m) * bytes ≤ 140737488355328) (hbase : base ≤ w.heap.size) :
    ∃ v' w', (Builtin.append_ #[t, t] ty #[v, .slice (some a) m c]).run P w = .ok v' w' ∧ QRow w' base e size v' (n + m) (xs ++ news) ∧ w.grownBy w' v.ownBlock ∧ (v'.ownBlock = v.ownBlock ∨ v'.ownBlock = some w.heap.size) := by
  rcases hown.2 with ⟨rfl, rfl⟩ | ⟨g, o, cap, cur, rfl, hbg, hg, hnc, hcm, hcs, htake⟩
  · have hx : xs = [] := List.eq_nil_of_length_eq_zero (by simpa using hown.1)
    subst hx
    obtain ⟨v', w', hr, h2, h3, _, h5⟩ := run_append_own_at (P := P) w base t ty e i z size bytes ht hi hz hsize hby hzs hsz (.slice none 0 0) 0 [] (World.ownsRow_nil w base e size) a m c news hl hnews h1 h63 hbytes hbase
    exact ⟨v', w', hr, QRow.of_own h2, h3, h5⟩
  · subst hsize hby
    have hsmall : n + m ≤ 9223372036854775807 := by simp only [maxLen] at h63; omega
    have hlen : (xs ++ news).length = (n + m) * i.size := by rw [List.length_append, hown.1, hl, Nat.add_mul]
    by_cases hroom : n + m ≤ cap
    · have hfit : o + n * i.size + news.length ≤ cur.size := by
        rw [hl, Nat.add_assoc, ← Nat.add_mul]
        have := Nat.mul_le_mul_right i.size hroom
        omega
      have hr := run_append_roomQ (P := P) w t ty e i ht hi g o n cap cur hg a m c news hl hnews h1 hroom hfit
      refine ⟨_, _, hr, ⟨hlen, .inr ⟨g, o, cap, _, rfl, hbg, setRow_heap w g cur _ e _ hg, hroom, hcm, ?_, ?_⟩⟩, ⟨rfl, rfl, rfl, by simp, fun k _ hk => setRow_other w g k _ (fun e => hk (by simp [Value.ownBlock, e]))⟩, .inl rfl⟩
      · simp only [List.size_toArray, List.length_append, List.length_take, List.length_drop, Array.length_toList]
        omega
      · have h2 : (cur.toList.take (o + n * i.size)).drop o = xs := by rw [List.drop_take, Nat.add_sub_cancel_left]; exact htake
        have hle : o ≤ (cur.toList.take (o + n * i.size)).length := by rw [List.length_take, Array.length_toList]; omega
        rw [List.append_assoc, List.drop_append_of_le_length hle, h2, ← List.append_assoc, ← hlen]
        exact List.take_left
    · have holds : ∀ j u, xs[j]? = some u → w.cell? ((⟨g, o, none⟩ : Addr).add j) = some u := by
        intro j u hu
        have hj : j < n * i.size := by rw [← hown.1]; exact (List.getElem?_eq_some_iff.1 hu).1
        have hadd : (⟨g, o, none⟩ : Addr).add j = ⟨g, o + j, none⟩ := by
          unfold Addr.add
          split
          · rename_i h0; subst h0; rfl
          · rfl
        rw [hadd, cell_of_row w g (o + j) cur e (0, 0) hg]
        rw [← htake, List.getElem?_take, if_pos hj, List.getElem?_drop] at hu
        simpa using hu
      have hr := run_append_grow (P := P) w t ty e i z ht hi hz ⟨g, o, none⟩ n cap xs hown.1 holds a m c news hl hnews (by omega) (by omega) (growslice_fits (by omega) hbytes)
      have hge := grownCap_ge w (n + m) cap e
      have hcm2 : grownCap w (n + m) cap e ≤ maxLen := grownCap_le_maxLen w (n + m) cap e h63
      refine ⟨_, _, hr, ⟨hlen, .inr ⟨w.heap.size, 0, _, _, rfl, hbase, heap_alloc_new w.drew _, hge, hcm2, ?_, ?_⟩⟩, ⟨rfl, rfl, rfl, by simp, fun k hk _ => Below.heap_alloc w.drew _ k hk⟩, .inr rfl⟩
      · simp only [Array.size_append, List.size_toArray, size_zeroCells, hzs, hown.1, hl, ← Nat.add_mul, Nat.zero_add]
        apply Nat.le_of_eq
        congr 1
        omega
      · rw [List.drop_zero, Array.toList_append, Array.toList_append, ← hlen]
        exact List.take_left

/-- append(q, x): the one element was laid in a block of its own first -/
theorem wpList_appendQ1 {w : World} {α : Type} (E : α → List Value) {ops : Array Oper} {rest : List Oper} {o : Oper} {a : Act} {Q : Exit → Act → World → Prop} {t e : TypeId} {z : Value} {k bytes : Nat} (el : ElemOk P t e z k bytes)
    (hgd : o.guard = none) (s y : Operand) (ho : o.op = .call { callee := .builtin .append, args := #[s, y], argTypes := #[t, t] })
    (base : Nat) (v : Value) (xs : List α) (x : α) (cs : Array Value) (c H : Nat) (hs : a.eval s = v) (hown : QRow w base e k v xs.length (xs.flatMap E)) (hy : a.eval y = .slice (some ⟨H, 0, none⟩) 1 c) (hH : H = w.heap.size)
    (hcs : cs = (E x).toArray) (hE : (E x).length = k) (h1 : ∀ u ∈ E x, u.oneCell' = true) (hbytes : (xs.length + 1) * bytes ≤ 140737488355328) (hb0 : 0 < bytes) (hbase : base ≤ w.heap.size)
    (h : ∀ v' w', QRow w' base e k v' (xs ++ [x]).length ((xs ++ [x]).flatMap E) → Below base w w' → (v'.ownBlock = v.ownBlock ∨ ∃ g, v'.ownBlock = some g ∧ w.heap.size ≤ g) → (w.alloc (.cells cs e)).grownBy w' v.ownBlock → wpList P ops Q rest (a.put o.dst v') w') :
    wpList P ops Q (o :: rest) a (w.alloc (.cells cs e)) := by
  subst hcs hH
  obtain ⟨i, hi, hz0, hz1, hz2⟩ := info_parts el.info
  have hlen : xs.length + 1 ≤ 140737488355328 := Nat.le_trans (Nat.le_mul_of_pos_right _ hb0) hbytes
  obtain ⟨v', w', hr, h2, h3, h5⟩ := run_appendQ (P := P) (w.alloc (.cells (E x).toArray e)) base t o.type e i z k bytes el.und hi hz0 hz1 hz2 el.zc el.pos v xs.length (xs.flatMap E) (hown.alloc _) ⟨w.heap.size, 0, none⟩ 1 c (E x) (by omega) (by rw [hE, Nat.one_mul])
    (fun j u hu => by
      have hadd : (⟨w.heap.size, 0, none⟩ : Addr).add j = ⟨w.heap.size, j, none⟩ := by unfold Addr.add; split <;> simp_all
      rw [hadd, World.cell?_alloc_new]
      simpa using hu) h1 (by unfold maxLen; omega) hbytes (by simp; omega)
  refine wpList_plain hgd fun K hK => ?_
  unfold Oper.wp execOp
  simp only [ho, resolve, invoke, builtin, Sem.run_bind, Sem.run_pure, Result.andThen_ok, List.map_toArray, List.map_cons, List.map_nil, hs, hy, hr]
  refine hK _ _ (h v' w' (by simpa using h2) ((((Below.refl base w).alloc hbase _)).trans ((Below.refl _ _).grown h3 (by simp; omega) (fun g hg => (hown.lt g hg).1))) ?_ h3)
  rcases h5 with h5 | h5
  · exact .inl h5
  · exact .inr ⟨_, h5, by simp⟩
end
end Go.Proofs.Ytgdgelkeflihpaa

/- The program's images. -/
namespace Go.Proofs.Ytgdgelkeflihpaa
set_option linter.unusedVariables false
set_option linter.unusedSimpArgs false
open Go.ChangeShapes Go.WideShapes Go.ChangeAt Go.RowKit Go.Maps
attribute [local go_sem] ext_cell ext_frozen ext_lt ext_lt1 ext_lt2 ext_lt3 ltn2 ltn3 ltn13 lts1 lts2 lts3
theorem ownsMap_block {H : Type} {P : Program} {k : TypeId} {R : Value → Option (DataW H × List MemPlace)} {w w' : World} {b n : Nat} {D : DataW H} (h : w.ownsMap P k R b n D) (hb : w'.heap[b]? = w.heap[b]?) : w'.ownsMap P k R b n D := by
  obtain ⟨es, clock, h1, h2⟩ := h
  exact ⟨es, clock, hb.trans h1, h2⟩
theorem Blk.pair {w : World} {g : Nat} {t : TypeId} {c0 c1 : Value} (h : Blk w g t #[c0, c1]) (d0 d1 : Value) : Blk ((w.setCell ⟨g, 0, none⟩ d0).setCell ⟨g, 1, none⟩ d1) g t #[d0, d1] := by
  have h2 := (h.set_ 0 d0).set_ 1 d1
  simpa using h2
theorem below_pair {B : Nat} {a w : World} (h : Below B a w) {g : Nat} (hg : B ≤ g) (d0 d1 : Value) : Below B a ((w.setCell ⟨g, 0, none⟩ d0).setCell ⟨g, 1, none⟩ d1) := (h.setCell (p := ⟨g, 0, none⟩) hg d0).setCell (p := ⟨g, 1, none⟩) hg d1
theorem drop_push {α : Type} {l : List α} {k : Nat} (h : k ≤ l.length) (x : α) : (l ++ [x]).drop k = l.drop k ++ [x] := List.drop_append_of_le_length h
theorem mvP_u {a : Au} {u : Int × Int} (h1 : u.1 < (a.accept.length : Int)) (h2 : u.2 < (a.accept.length : Int)) : True := trivial
theorem gBlock {w w' : World} {row : Option Nat} (hg : w.grownBy w' row) {b : Nat} (hb : b < w.heap.size) (hne : row ≠ some b) : w'.heap[b]? = w.heap[b]? := hg.block b hb (fun e => hne e.symm)
theorem litB_inj {H : Type} {a b : Bool} (h : (DataW.lit (.bool a) : DataW H) = .lit (.bool b)) : a = b := by
  injection h with h
  injection h
def cSa (z : Int × Int) : List Value := [.int .i64 z.1, .int .i64 z.2]
theorem cSa_one (z : Int × Int) : ∀ u ∈ cSa z, u.oneCell' = true := by
  intro u hu
  simp only [cSa, List.mem_cons, List.not_mem_nil, or_false] at hu
  rcases hu with rfl | rfl <;> rfl
theorem elSa : ElemOk Try.prog 142 141 (.agg #[.int .i64 0, .int .i64 0]) 2 16 := ⟨Try.underlying142, by kernel_rfl, rfl, by omega⟩
theorem mvP_bd {a : Au} (h : auOk a = true) (s : Int) (k : Nat) : -1 ≤ mvP a s k ∧ mvP a s k < (a.accept.length : Int) := by
  unfold mvP
  split
  · omega
  · have := mv_lt h s.toNat k; omega
/-- behind all rounds the list does not turn any more -/
theorem img_end {a : Au} (h : auOk a = true) {s : Int × Int} {k : Nat} (hk : (imgP (mvP a) 9 s k).length < k) : imgP (mvP a) 9 s k = imgP (mvP a) 9 s ((a.accept.length + 1) * a.accept.length + 1) := by
  have hall : ∀ j, (imgP (mvP a) 9 s j).length ≤ (a.accept.length + 1) * a.accept.length := fun j => good_len (imgP_good (mvP_bd h) 9 s j)
  have h1 := imgP_still hk
  have h2 := imgP_still (Nat.lt_succ_of_le (hall ((a.accept.length + 1) * a.accept.length + 1)))
  rcases Nat.le_total k ((a.accept.length + 1) * a.accept.length + 1) with hle | hle
  · obtain ⟨j, hj⟩ := Nat.exists_eq_add_of_le hle
    rw [hj, h1 j]
  · obtain ⟨j, hj⟩ := Nat.exists_eq_add_of_le hle
    rw [hj]
    exact h2 j
def imgEnd (a : Au) (p q : Int) : List (Int × Int) := imgP (mvP a) 9 (p, q) ((a.accept.length + 1) * a.accept.length + 1)
set_option maxHeartbeats 2000000 in
set_option maxRecDepth 100000 in
theorem images_any {H : Type} (v : Value) (a : Au) (p q : Int) (w : World) (hv : AuV 0 w.heap.size w v a) (hok : auOk a = true) (hp : -1 ≤ p ∧ p < (a.accept.length : Int)) (hq : 0 ≤ q ∧ q < (a.accept.length : Int)) :
    Calls Try.prog 62 #[v, .int .i64 p, .int .i64 q] w fun e w' => ∃ v', e = .returned v' ∧ Own w.heap.size w'.heap.size w' 3 cI 1 v' (ascL (outP q (imgEnd a p q))) ∧ Below w.heap.size w w' := by
  have hv0 := hv
  obtain ⟨A1, c1, A2, c2, rfl, hl1, hm1, hl2, hm2, -⟩ := hv.form hok
  have hb0 : Below w.heap.size w (w.alloc (.cells #[.int .i64 a.start, .slice A1 a.accept.length c1, .slice A2 a.accept.length c2] 29)) := (Below.refl _ _).alloc (Nat.le_refl _) _
  have HV := Lib.hid hv0
  have HOK := Lib.hid hok
  have HP := Lib.hid hp
  have HQ := Lib.hid hq
  clear hv hv0 hok hp hq
  have hmm := @run_makeMap Try.prog
  go_enter Try.func62, Try.ntmps62
  go_wp2_with (go_at_call 108; refine (together_any _ _ _ _ _ _ _).mono ?_; rintro e w1 ⟨rfl, rfl⟩)
  have HH := Lib.hid (show True from trivial)
  go_loopg [7, 10] 160 (fun gk oo ll wr => ∃ (k : Nat) (D : DataW H) (R : List (Int × Int)), gk + k = 160 ∧ R = imgP (mvP a) 9 (p, q) k ∧ k ≤ R.length + 1 ∧
      QRow wr (w.heap.size + 5) 141 2 ll (((p, q) :: R).drop k).length ((((p, q) :: R).drop k).flatMap cSa) ∧
      wr.ownsRow (w.heap.size + 1) 3 1 oo (outP q R).length ((outP q R).flatMap cI) ∧
      (∀ g, oo.ownBlock = some g → g = w.heap.size + 1 ∨ w.heap.size + 6 ≤ g) ∧ (∀ g, ll.ownBlock = some g → oo.ownBlock ≠ some g) ∧
      wr.ownsMap Try.prog 141 (plainElem Try.prog 4) (w.heap.size + 4) R.length D ∧ SeenD D R ∧
      Blk wr (w.heap.size + 2) 29 #[.int .i64 a.start, .slice A1 a.accept.length c1, .slice A2 a.accept.length c2] ∧
      Blk wr (w.heap.size + 3) 29 #[.int .i64 a.start, .slice A1 a.accept.length c1, .slice A2 a.accept.length c2] ∧
      Below w.heap.size w wr ∧ w.heap.size + 6 ≤ wr.heap.size)
  case atStart =>
    refine ⟨0, .map [], [], rfl, rfl, by simp, ?_, ?_, ?_, ?_, ?_, SeenD.empty, ?_, ?_, ?_, ?_⟩
    · have hz := QRow.of_own (World.ownsRow_lit (base := w.heap.size + 5) (e := 141) (size := 2) (((((w.alloc (.cells #[.int .i64 a.start, .slice A1 a.accept.length c1, .slice A2 a.accept.length c2] 29)).alloc (.cells #[] 3)).alloc (.cells #[.int .i64 a.start, .slice A1 a.accept.length c1, .slice A2 a.accept.length c2] 29)).alloc (.cells #[.int .i64 a.start, .slice A1 a.accept.length c1, .slice A2 a.accept.length c2] 29)).alloc (.map #[] 0)) #[.int .i64 p, .int .i64 q] 1 (by simp <;> omega) (by decide) rfl)
      simpa [cSa] using hz
    · have hz := ((((World.ownsRow_lit (base := w.heap.size + 1) (e := 3) (size := 1) (w.alloc (.cells #[.int .i64 a.start, .slice A1 a.accept.length c1, .slice A2 a.accept.length c2] 29)) #[] 0 (by simp) (by decide) rfl).alloc (.cells #[.int .i64 a.start, .slice A1 a.accept.length c1, .slice A2 a.accept.length c2] 29)).alloc (.cells #[.int .i64 a.start, .slice A1 a.accept.length c1, .slice A2 a.accept.length c2] 29)).alloc (.map #[] 0)).alloc (.cells #[.int .i64 p, .int .i64 q] 141)
      simpa [outP] using hz
    · intro g hg; simp [Value.ownBlock] at hg; omega
    · intro g hg; simp [Value.ownBlock] at hg ⊢; omega
    · have hm := (World.ownsMap_made (H := H) ((((w.alloc (.cells #[.int .i64 a.start, .slice A1 a.accept.length c1, .slice A2 a.accept.length c2] 29)).alloc (.cells #[] 3)).alloc (.cells #[.int .i64 a.start, .slice A1 a.accept.length c1, .slice A2 a.accept.length c2] 29)).alloc (.cells #[.int .i64 a.start, .slice A1 a.accept.length c1, .slice A2 a.accept.length c2] 29)) Try.prog 141 (plainElem Try.prog 4)).alloc (.cells #[.int .i64 p, .int .i64 q] 141)
      simpa using hm
    · exact (((Blk.new _ _ _ _ (by simp)).alloc _).alloc _).alloc _
    · exact ((Blk.new _ _ _ _ (by simp)).alloc _).alloc _
    · repeat (first | exact Below.refl _ _ | refine Below.alloc ?_ (by simp <;> omega) _)
    · simp
  case round =>
    obtain ⟨k, D, R, hgk, hR, hk, hq, ho, hg1, hg2, hm, hs, hb2, hb3, hbel, hsz⟩ := hrel
    have hgood := imgP_good (mvP_bd HOK.out) 9 (p, q) k
    rw [← hR] at hgood
    have hlen := good_len hgood
    have hn12 := (auOk_iff.1 HOK.out).1.2
    have hlen2 : (a.accept.length + 1) * a.accept.length ≤ 13 * 12 := Nat.mul_le_mul (by omega) hn12
    rcases hL : ((p, q) :: R).drop k with _ | ⟨u, L⟩
    · rw [hL] at hq
      have hkl : R.length + 1 ≤ k := by simpa using List.drop_eq_nil_iff.1 hL
      have hfin : R = imgEnd a p q := by rw [imgEnd, ← img_end HOK.out (k := k) (by rw [← hR]; omega), hR]
      obtain ⟨A4, c4, rfl, hc4, hc5⟩ := hq.shape
      have hol : (outP q R).length ≤ R.length := by unfold outP; rw [List.length_map]; exact List.length_filter_le _ _
      have hown := Own.of_row (xs := outP q R) ho rfl rfl
      have has := ascending_any _ _ wr ((hown.sl cI_len).all (Nat.le_refl _)) (by omega)
      rw [hfin] at has
      have HAS := Lib.hid has
      have HBW := Lib.hid hbel
      clear has hk hq ho hg1 hg2 hm hs hb2 hb3 hgood hlen hL hkl hfin hR hown
      simp only [List.length_nil]
      go_wp2_with fail
      refine HAS.out.mono ?_
      rintro e w2 ⟨v2, rfl, ho2, hb3⟩
      have HO := Lib.hid (ho2.mono HBW.out.size (Nat.le_refl _))
      obtain ⟨A9, n9, c9, rfl⟩ := ho2.shape
      clear ho2
      have HB := Lib.hid (HBW.out.trans (hb3.mono HBW.out.size))
      clear hb3
      go_wp2_with fail
      go_ret
      exact ⟨_, rfl, HO.out, HB.out⟩
    · rw [hL] at hq
      have hu : ((p, q) :: R)[k]? = some u := by
        have := congrArg List.head? hL
        simpa using this
      obtain ⟨A4, c4, rfl, hc4, hc5⟩ := hq.shape
      have hmx : c4 ≤ 9223372036854775807 := by simpa [maxLen] using hc5
      have HQR := Lib.hid hq
      have HO := Lib.hid ho
      have HG := Lib.hid (And.intro hg1 hg2)
      have HM := Lib.hid (And.intro hm hs)
      have HB := Lib.hid (And.intro hb2 hb3)
      have HR := Lib.hid (And.intro hR (And.intro hk (And.intro hu hL)))
      have HBW := Lib.hid (And.intro hbel hsz)
      clear hq ho hg1 hg2 hm hs hb2 hb3 hR hk hu hL hbel hsz hgood
      simp only [List.length_cons]
      go_wp2_with fail
      go_loopw [7, 10, 11] (fun oo ll jj wi => ∃ (j : Nat) (D' : DataW H) (R' : List (Int × Int)), j ≤ 9 ∧ jj = .int .i64 (j : Int) ∧ R' = rowP (mvP a) u R j ∧
          QRow wi (w.heap.size + 5) 141 2 ll (((p, q) :: R').drop k).length ((((p, q) :: R').drop k).flatMap cSa) ∧
          wi.ownsRow (w.heap.size + 1) 3 1 oo (outP q R').length ((outP q R').flatMap cI) ∧
          (∀ g, oo.ownBlock = some g → g = w.heap.size + 1 ∨ w.heap.size + 6 ≤ g) ∧ (∀ g, ll.ownBlock = some g → oo.ownBlock ≠ some g) ∧
          wi.ownsMap Try.prog 141 (plainElem Try.prog 4) (w.heap.size + 4) R'.length D' ∧ SeenD D' R' ∧
          Blk wi (w.heap.size + 2) 29 #[.int .i64 a.start, .slice A1 a.accept.length c1, .slice A2 a.accept.length c2] ∧
          Blk wi (w.heap.size + 3) 29 #[.int .i64 a.start, .slice A1 a.accept.length c1, .slice A2 a.accept.length c2] ∧
          Below w.heap.size w wi ∧ w.heap.size + 6 ≤ wi.heap.size) (fun _ _ jj _ => 9 - (intOf jj).toNat)
      case atStart => exact ⟨0, D, R, by omega, rfl, rfl, by rw [HR.out.2.2.2]; exact HQR.out, HO.out, HG.out.1, HG.out.2, HM.out.1, HM.out.2, HB.out.1, HB.out.2, HBW.out.1, HBW.out.2⟩
      case round =>
        obtain ⟨j, D', R', hj, rfl, hR', hq, ho, hg1, hg2, hm, hs, hb2, hb3, hbel, hsz⟩ := hrel
        by_cases hlt : j < 9
        · obtain ⟨T, hT⟩ : R <+: R' := by rw [hR']; exact rowP_pre _ _ _ _
          have hgd : R'.Nodup ∧ ∀ z ∈ R', -1 ≤ z.1 ∧ z.1 < (a.accept.length : Int) ∧ 0 ≤ z.2 ∧ z.2 < (a.accept.length : Int) := by
            rw [hR', HR.out.1]; exact rowP_good (mvP_bd HOK.out) (imgP_good (mvP_bd HOK.out) 9 (p, q) k) j
          have hl' := good_len hgd
          have hki : k < ((p, q) :: R').length := by
            have := (List.getElem?_eq_some_iff.1 HR.out.2.2.1).1
            rw [← hT]; simp at this ⊢; omega
          have hku : ((p, q) :: R')[k]? = some u := by
            rw [← hT, ← List.cons_append, List.getElem?_append_left (List.getElem?_eq_some_iff.1 HR.out.2.2.1).1]
            exact HR.out.2.2.1
          have hum := List.mem_of_getElem? hku
          have hu12 : u.1 < (a.accept.length : Int) ∧ u.2 < (a.accept.length : Int) := by
            rcases List.mem_cons.1 hum with e | e
            · rw [e]; exact ⟨HP.out.2, HQ.out.2⟩
            · have := hgd.2 u e; exact ⟨this.2.1, this.2.2.2⟩
          have hdr : ((p, q) :: R').drop k = u :: ((p, q) :: R').drop (k + 1) := by
            rw [List.drop_eq_getElem_cons hki]
            congr 1
            exact (List.getElem?_eq_some_iff.1 hku).2
          have hl0 : 0 < (((p, q) :: R').drop k).length := by rw [hdr]; simp
          have hlm : (((p, q) :: R').drop k).length ≤ 160 := by rw [List.length_drop, List.length_cons]; omega
          obtain ⟨gq, oq, cq, rfl, hgq, hgql, hqc⟩ := hq.cell hl0
          have d0 := hqc 0 (.int .i64 u.1) (by rw [hdr]; rfl)
          have d1 := hqc 1 (.int .i64 u.2) (by rw [hdr]; rfl)
          rw [Nat.add_zero] at d0
          obtain ⟨Aq, cq', eq1, hcq1, hcq2⟩ := hq.shape
          have eq2 : cq' = cq := by injection eq1 with _ _ e3; exact e3.symm
          subst eq2
          clear eq1
          have HT1 := Lib.hid (fun (W : World) (hW : Below wr.heap.size wr W) => together1_any (w.heap.size + 2) (w.heap.size + 3) A1 A2 c1 c2 a u.1 u.2 j W HOK.out (HV.out.keep (below_trans hbel (hW))) (Nat.lt_of_lt_of_le hb2.lt hW.size) (Nat.lt_of_lt_of_le hb3.lt hW.size) ((hb2.keep hW).cell 0) ((hb2.keep hW).cell 1) ((hb2.keep hW).cell 2) ((hb3.keep hW).cell 0) ((hb3.keep hW).cell 1) ((hb3.keep hW).cell 2) hu12.1 hu12.2 (by omega))
          have HMET := Lib.hid (show rowP (mvP a) u R (j + 1) = metP (mvP a) u R' j by rw [hR']; rfl)
          have HGB := Lib.hid (mvP_bd HOK.out)
          have HNX := Lib.hid (show nxP (mvP a) u j = (mvP a u.1 j, mvP a u.2 j) from rfl)
          have hb1 := mvP_bd HOK.out u.1 j
          have hb2' := mvP_bd HOK.out u.2 j
          obtain ⟨t1, ht1⟩ : ∃ t1, t1 = mvP a u.1 j := ⟨_, rfl⟩
          obtain ⟨t2, ht2⟩ : ∃ t2, t2 = mvP a u.2 j := ⟨_, rfl⟩
          rw [← ht1, ← ht2] at HT1 HNX
          rw [← ht1] at hb1
          rw [← ht2] at hb2'
          have hn12' := hn12
          have HQR' := Lib.hid hq
          have HO' := Lib.hid ho
          have HG' := Lib.hid (And.intro hg1 hg2)
          have HM' := Lib.hid (And.intro hm hs)
          have HB' := Lib.hid (And.intro hb2 hb3)
          have HBL := Lib.hid hbel
          have HDR := Lib.hid (And.intro hki hl')
          obtain ⟨u1, u2⟩ := u
          simp only at d0 d1 HT1 HNX
          obtain ⟨LQ, hLQ⟩ : ∃ LQ, LQ = (((p, q) :: R').drop k).length := ⟨_, rfl⟩
          rw [← hLQ] at HQR' hl0 hlm hcq1 ⊢
          have HLQ := Lib.hid hLQ
          have hjj : (j : Int) < 9 := by omega
          clear hq ho hg1 hg2 hm hs hb2 hb3 hqc hT hR' hgd hl' hki hku hum hdr hu12 ht1 ht2 hLQ hn12' hbel
          unfold maxLen at hcq2
          go_wp2_with fail
          refine (HT1.out _ (Below.refl _ _)).mono ?_
          rintro en wA ⟨rfl, hbA⟩
          have hbz2 : Blk (wA.alloc (.cells #[.int .i64 t1, .int .i64 t2] 141)) wA.heap.size 141 #[.int .i64 t1, .int .i64 t2] := Blk.new _ _ _ _ rfl
          have hbx := hbA.alloc hbA.size (.cells #[.int .i64 t1, .int .i64 t2] 141)
          have hsA := hbA.size
          obtain ⟨eb, heb⟩ : ∃ eb, eb = wA.heap.size := ⟨_, rfl⟩
          obtain ⟨wx, hwx⟩ : ∃ wx, wx = wA.alloc (.cells #[.int .i64 t1, .int .i64 t2] 141) := ⟨_, rfl⟩
          rw [← heb, ← hwx] at hbz2
          rw [← hwx] at hbx
          have hebw : wr.heap.size ≤ eb := by omega
          go_upto_region 11 with fail
          rw [← heb, ← hwx]
          have e0 : wx.cell? ⟨eb, 0, none⟩ = some (.int .i64 t1) := hbz2.cell 0
          have e1 : wx.cell? ⟨eb, 1, none⟩ = some (.int .i64 t2) := hbz2.cell 1
          have leb := hbz2.lt
          clear hwx heb hbA hsA HT1 d0 d1
          have hM5 := ownsMap_block HM'.out.1 (hbx.block _ HM'.out.1.lt)
          have hbel7 := below_trans HBL.out hbx
          have hsx := hbx.size
          by_cases hneg : t2 < 0
          · have HE := Lib.hid (show R' = rowP (mvP a) (u1, u2) R (j + 1) by rw [HMET.out, metP, HNX.out, if_pos (.inl hneg)])
            have HM5 := Lib.hid hM5
            clear HMET HNX hM5
            go_wp2_with fail
            go_roundw
            case rel => exact ⟨j + 1, D', R', by omega, by go_num, HE.out, by rw [← HLQ.out]; exact HQR'.out.below hbx (Nat.le_refl _), ownsRow_below HO'.out hbx (Nat.le_refl _), HG'.out.1, HG'.out.2, HM5.out, HM'.out.2, HB'.out.1.keep hbx, HB'.out.2.keep hbx, hbel7, by omega⟩
            case measure => simp [intOf]; omega
          · have HKEY := Lib.hid (keyStates t1 t2 (wf_i64 (by omega) (by omega)) (wf_i64 (by omega) (by omega)))
            have HLK := Lib.hid (HM'.out.2.2 t1 t2 (wf_i64 (by omega) (by omega)) (wf_i64 (by omega) (by omega)))
            have HM5 := Lib.hid hM5
            clear hM5
            by_cases hmem : (t1, t2) ∈ R'
            · have HE := Lib.hid (show R' = rowP (mvP a) (u1, u2) R (j + 1) by rw [HMET.out, metP, HNX.out, if_pos (.inr hmem)])
              rw [show decide ((t1, t2) ∈ R') = true from decide_eq_true hmem] at HLK
              have hrun : (Instr.lookup 139 (.map (some (w.heap.size + 1 + 1 + 1 + 1))) (.agg #[.int .i64 t1, .int .i64 t2]) false).run Try.prog wx = .ok (.bool true) wx := run_lookup_bool keyedStates Try.underlying139 Try.underlying4 (Try.zeroValue4 _) HM5.out HKEY.out HLK.out
              clear HMET HNX hmem
              go_wp2_with fail
              clear hrun
              go_roundw
              case rel => exact ⟨j + 1, D', R', by omega, by go_num, HE.out, by rw [← HLQ.out]; exact HQR'.out.below hbx (Nat.le_refl _), ownsRow_below HO'.out hbx (Nat.le_refl _), HG'.out.1, HG'.out.2, HM5.out, HM'.out.2, HB'.out.1.keep hbx, HB'.out.2.keep hbx, hbel7, by omega⟩
              case measure => simp [intOf]; omega
            · have hno : ¬ ((nxP (mvP a) (u1, u2) j).2 < 0 ∨ nxP (mvP a) (u1, u2) j ∈ R') := by rw [HNX.out]; exact fun h => h.elim hneg hmem
              have HRN := Lib.hid (show rowP (mvP a) (u1, u2) R (j + 1) = R' ++ [(t1, t2)] by rw [HMET.out, metP, if_neg hno, HNX.out])
              have HON := Lib.hid (show outP q (R' ++ [(t1, t2)]) = if t2 = q then outP q R' ++ [t1] else outP q R' by have := outP_metP_new (q := q) hno; rw [metP, if_neg hno, HNX.out] at this; exact this)
              rw [show decide ((t1, t2) ∈ R') = false from decide_eq_false hmem] at HLK
              have hrun : (Instr.lookup 139 (.map (some (w.heap.size + 1 + 1 + 1 + 1))) (.agg #[.int .i64 t1, .int .i64 t2]) false).run Try.prog wx = .ok (.bool false) wx := run_lookup_bool keyedStates Try.underlying139 Try.underlying4 (Try.zeroValue4 _) HM5.out HKEY.out HLK.out
              have HSD := Lib.hid (HM'.out.2.put (y := t1) (t := t2) (wf_i64 (by omega) (by omega)) (wf_i64 (by omega) (by omega)))
              have HLN := Lib.hid (show R'.length < maxLen by unfold maxLen; have := HDR.out.2; omega)
              clear HMET HNX hmem hno
              go_upto_region 13 with (first | (refine wpList_mapUpdate_own _ rfl _ _ _ _ rfl _ _ keyedStates Try.underlying139 (plainElem Try.prog 4) _ _ _ (by rfl) HM5.out HLN.out _ _ _ (by rfl) (by rfl) HKEY.out _ _ (plainElem_bool Try.underlying4 true) ?_; intro w5 hown5 hgr5))
              have hs5 := hgr5.size
              have hs5' : w.heap.size + 6 ≤ w5.heap.size := by omega
              have g5 : ∀ b, b < wx.heap.size → b ≠ w.heap.size + 4 → w5.heap[b]? = wx.heap[b]? := fun b hb hne => gBlock hgr5 hb (fun e => hne (by injection e with e; omega))
              have e0 := hgr5.cell e0 (by simp; omega)
              have e1 := hgr5.cell e1 (by simp; omega)
              have hbl5 : Below w.heap.size wr w5 := (hbx.mono (by omega)).grown hgr5 (by omega) (fun g hg => by injection hg with hg; omega)
              obtain ⟨X, hX⟩ : ∃ X, X = ((p, q) :: R').drop k := ⟨_, rfl⟩
              have hq5 : QRow w5 (w.heap.size + 5) 141 2 (.slice (some ⟨gq, oq, none⟩) LQ cq') X.length (X.flatMap cSa) := by
                rw [hX, ← HLQ.out]
                exact (HQR'.out.below hbx (Nat.le_refl _)).block (fun g hg => g5 g (Nat.lt_of_lt_of_le (HQR'.out.lt g hg).2 hsx) (by have := (HQR'.out.lt g hg).1; omega))
              have hxl : X.length ≤ 160 := by rw [hX, ← HLQ.out]; exact hlm
              have HX := Lib.hid hX
              have HQ5 := Lib.hid hq5
              have HOW5 := Lib.hid hown5
              have leb5 := Nat.lt_of_lt_of_le leb hs5
              have G5 := Lib.hid g5
              have HBL5 := Lib.hid hbl5
              clear hX hq5 hown5 hrun g5 hgr5 hbl5 HM5 HLN
              go_upto_region 14 with (at_builtin; (refine wpList_appendQ1 cSa elSa rfl _ _ rfl (w.heap.size + 5) _ X (t1, t2) _ 1 _ (by rfl) HQ5.out (by rfl) rfl rfl rfl (cSa_one _) (by omega) (by omega) (by omega) ?_); intro v6 w6 hq6 hb6 hat6 hgr6)
              have hs6 : w5.heap.size ≤ w6.heap.size := by have := hgr6.size; simp at this; omega
              have g6 : ∀ b, b < w5.heap.size → b ≠ gq → w6.heap[b]? = w5.heap[b]? := fun b hb hne => (gBlock hgr6 (by simp; omega) (by simp [Value.ownBlock]; omega)).trans (Below.heap_alloc _ _ _ hb)
              have e0 : w6.cell? ⟨eb, 0, none⟩ = some (.int .i64 t1) := (World.cell?_of_block (a := ⟨eb, 0, none⟩) (g6 eb leb5 (by omega))).trans e0
              have e1 : w6.cell? ⟨eb, 1, none⟩ = some (.int .i64 t2) := (World.cell?_of_block (a := ⟨eb, 1, none⟩) (g6 eb leb5 (by omega))).trans e1
              have hbl6 : Below w.heap.size wr w6 := (HBL5.out.alloc (by omega) _).grown hgr6 (by simp; omega) (fun g hg => by simp [Value.ownBlock] at hg; omega)
              have leb6 := Nat.lt_of_lt_of_le leb5 hs6
              have hgap : ∀ b, b < wr.heap.size → b ≠ w.heap.size + 4 → b ≠ gq → w6.heap[b]? = wr.heap[b]? := fun b h1 h2 h3 => (g6 b (by omega) h3).trans ((G5.out b (by omega) h2).trans (hbx.block b h1))
              have hoo : ∀ g, u7.ownBlock = some g → g < wr.heap.size ∧ g ≠ w.heap.size + 4 ∧ g ≠ gq ∧ g ≠ w.heap.size + 2 ∧ g ≠ w.heap.size + 3 := fun g hg => by
                have h1 := HO'.out.lt g hg
                have h2 := HG'.out.1 g hg
                exact ⟨h1.2, by omega, fun e => HG'.out.2 gq rfl (by rw [hg, e]), by omega, by omega⟩
              have ho6 := ownsRow_block HO'.out (fun g hg => by have h1 := hoo g hg; exact hgap g h1.1 h1.2.1 h1.2.2.1)
              have hm6 := ownsMap_block HOW5.out (g6 (w.heap.size + 4) (by omega) (by omega))
              have h26 : Blk w6 (w.heap.size + 2) _ _ := (hgap (w.heap.size + 2) (by omega) (by omega) (by omega)).trans HB'.out.1
              have h36 : Blk w6 (w.heap.size + 3) _ _ := (hgap (w.heap.size + 3) (by omega) (by omega) (by omega)).trans HB'.out.2
              have hqe : ((p, q) :: (R' ++ [(t1, t2)])).drop k = X ++ [(t1, t2)] := by rw [HX.out, ← drop_push (Nat.le_of_lt HDR.out.1)]; rfl
              have hol : (outP q R').length ≤ R'.length := by unfold outP; rw [List.length_map]; exact List.length_filter_le _ _
              have hrl := HDR.out.2
              have hat6' : ∀ g, v6.ownBlock = some g → g = gq ∨ w5.heap.size ≤ g := fun g hg => by
                rcases hat6 with h | ⟨g', h, h'⟩
                · rw [hg] at h; simp [Value.ownBlock] at h; exact .inl h
                · rw [hg] at h; injection h with h; exact .inr (by omega)
              have HQ6 := Lib.hid hq6
              have HO6 := Lib.hid ho6
              have HM6 := Lib.hid hm6
              have H26 := Lib.hid (And.intro h26 h36)
              have HBL6 := Lib.hid hbl6
              have HQE := Lib.hid hqe
              have HOO := Lib.hid hoo
              have HAT6 := Lib.hid hat6'
              have holl : (outP q R').length ≤ 160 := by omega
              have hs66 : w.heap.size + 6 ≤ w6.heap.size := by omega
              clear hq6 ho6 hm6 h26 h36 hbl6 hqe hoo hat6 hat6' hgr6 g6 hgap hb6 hol hrl
              by_cases hq2 : t2 = q
              · have hk1 : (t2 == q) = true := by simp [hq2]
                have hk2 : decide (t2 = q) = true := by simp [hq2]
                have HNO := Lib.hid (HON.out.trans (if_pos hq2))
                clear HON hq2
                go_wp2_with (at_builtin; (refine wpList_append1 cI elInt rfl _ _ rfl (w.heap.size + 1) _ (outP q R') t1 _ 1 _ (by rfl) HO6.out (by rfl) rfl rfl rfl (cI_one _) (by omega) (by omega) (by omega) ?_); intro v8 w8 hrow8 hb8 hat8 hgr8)
                have hs8 : w6.heap.size ≤ w8.heap.size := by have := hgr8.size; simp at this; omega
                have g8 : ∀ b, b < w6.heap.size → u7.ownBlock ≠ some b → w8.heap[b]? = w6.heap[b]? := fun b hb hne => (gBlock hgr8 (by simp; omega) hne).trans (Below.heap_alloc _ _ _ hb)
                have hbl8 : Below w.heap.size wr w8 := (HBL6.out.alloc (by omega) _).grown hgr8 (by simp; omega) (fun g hg => by have := (HO'.out.lt g hg).1; omega)
                have hat8' : ∀ g, v8.ownBlock = some g → u7.ownBlock = some g ∨ w6.heap.size ≤ g := fun g hg => by
                  rcases hat8 with h | ⟨g', h, h'⟩
                  · exact .inl (h.symm.trans hg)
                  · rw [hg] at h; injection h with h; exact .inr (by omega)
                have f2 : ∀ b, w.heap.size + 2 ≤ b → b ≤ w.heap.size + 4 → w8.heap[b]? = w6.heap[b]? := fun b h1 h2 => g8 b (by omega) (fun e => by have := HOO.out b e; omega)
                go_roundw
                case rel =>
                  refine ⟨j + 1, _, R' ++ [(t1, t2)], by omega, by go_num, HRN.out.symm, ?_, ?_, ?_, ?_, ?_, HSD.out, ?_, ?_, HBL.out.trans hbl8, by omega⟩
                  · rw [HQE.out]
                    exact HQ6.out.block (fun g hg => g8 g (HQ6.out.lt g hg).2 (fun e => by
                      have h1 := HOO.out g e
                      rcases HAT6.out g hg with h | h <;> omega))
                  · rw [HNO.out]; exact hrow8
                  · intro g hg
                    rcases hat8' g hg with h | h
                    · exact HG'.out.1 g h
                    · exact .inr (by omega)
                  · intro g hg e
                    have hgl := (HQ6.out.lt g hg).2
                    rcases hat8' g e with h | h
                    · have h1 := HOO.out g h
                      rcases HAT6.out g hg with h2 | h2 <;> omega
                    · omega
                  · rw [List.length_append]; exact ownsMap_block HM6.out (f2 _ (by omega) (by omega))
                  · exact (f2 _ (by omega) (by omega)).trans H26.out.1
                  · exact (f2 _ (by omega) (by omega)).trans H26.out.2
                case measure => simp [intOf]; omega
              · have hk1 : (t2 == q) = false := by simp [hq2]
                have hk2 : decide (t2 = q) = false := by simp [hq2]
                have HNO := Lib.hid (HON.out.trans (if_neg hq2))
                clear HON hq2
                go_wp2_with fail
                go_roundw
                case rel =>
                  refine ⟨j + 1, _, R' ++ [(t1, t2)], by omega, by go_num, HRN.out.symm, by rw [HQE.out]; exact HQ6.out, by rw [HNO.out]; exact HO6.out, HG'.out.1, ?_, by rw [List.length_append]; exact HM6.out, HSD.out, H26.out.1, H26.out.2, HBL.out.trans HBL6.out, hs66⟩
                  intro g hg e
                  have h1 := HOO.out g e
                  rcases HAT6.out g hg with h2 | h2 <;> omega
                case measure => simp [intOf]; omega
        · obtain rfl : j = 9 := by omega
          obtain ⟨T, hT⟩ : R <+: R' := by rw [hR']; exact rowP_pre _ _ _ _
          have hgd : R'.Nodup ∧ ∀ z ∈ R', -1 ≤ z.1 ∧ z.1 < (a.accept.length : Int) ∧ 0 ≤ z.2 ∧ z.2 < (a.accept.length : Int) := by
            rw [hR', HR.out.1]; exact rowP_good (mvP_bd HOK.out) (imgP_good (mvP_bd HOK.out) 9 (p, q) k) 9
          have hl' := good_len hgd
          have hki : k < ((p, q) :: R').length := by
            have := (List.getElem?_eq_some_iff.1 HR.out.2.2.1).1
            rw [← hT]; simp at this ⊢; omega
          have hk' : k + 1 ≤ R'.length + 1 := by have := hki; rw [List.length_cons] at this; omega
          have hdr : ((p, q) :: R').drop k = u :: ((p, q) :: R').drop (k + 1) := by
            rw [List.drop_eq_getElem_cons hki]
            congr 1
            have h3 : ((p, q) :: R')[k]? = some u := by
              rw [← hT, ← List.cons_append, List.getElem?_append_left (List.getElem?_eq_some_iff.1 HR.out.2.2.1).1]
              exact HR.out.2.2.1
            exact (List.getElem?_eq_some_iff.1 h3).2
          have hRn : R' = imgP (mvP a) 9 (p, q) (k + 1) := by rw [imgP_succ (u := u) (by rw [← HR.out.1]; exact HR.out.2.2.1), hR', HR.out.1]
          have HRN := Lib.hid hRn
          rw [hdr] at hq
          generalize hX : ((p, q) :: R').drop (k + 1) = X at hq
          rw [List.length_cons] at hq
          obtain ⟨A6, c6, h6, hc5', hc6⟩ := hq.shape
          obtain ⟨g5, o5, c5, rfl, -, -, -⟩ := hq.cell (by omega)
          obtain rfl : c5 = c6 := by injection h6
          have htail := hq.tail rfl
          simp only [List.flatMap_cons, cSa, List.cons_append, List.nil_append, List.drop_succ_cons, List.drop_zero] at htail
          have HO' := Lib.hid ho
          have HG' := Lib.hid (And.intro hg1 hg2)
          have HM' := Lib.hid (And.intro hm hs)
          have HB' := Lib.hid (And.intro hb2 hb3)
          have HX := Lib.hid hX
          unfold maxLen at hc6
          clear hq ho hg1 hg2 hm hs hb2 hb3 h6 hX hdr hgd hT hR' hRn
          by_cases hc1 : c5 = 1
          · subst hc1
            rw [if_pos rfl] at htail
            have HT := Lib.hid htail
            clear htail
            obtain rfl : X = [] := List.eq_nil_of_length_eq_zero (by omega)
            simp only [List.length_nil] at *
            go_wp2_with fail
            go_roundg (160 - (k + 1))
            case measure => omega
            case rel => exact ⟨k + 1, D', R', by omega, HRN.out, hk', by rw [HX.out]; exact HT.out, HO'.out, HG'.out.1, HG'.out.2, HM'.out.1, HM'.out.2, HB'.out.1, HB'.out.2, hbel, hsz⟩
          · rw [if_neg hc1] at htail
            have HT := Lib.hid htail
            clear htail
            go_wp2_with fail
            go_roundg (160 - (k + 1))
            case measure => omega
            case rel => exact ⟨k + 1, D', R', by omega, HRN.out, hk', by rw [HX.out]; exact HT.out, HO'.out, HG'.out.1, HG'.out.2, HM'.out.1, HM'.out.2, HB'.out.1, HB'.out.2, hbel, hsz⟩
end Go.Proofs.Ytgdgelkeflihpaa

