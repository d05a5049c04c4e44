/- Parts of the proof, joined into one text: Shelf, RepeatI, Queue, SpreadI, GoalI, DistI, PstI. -/
import Derived.Shelf.Small.Bits
import Derived.Shelf.Small.Wraps
import Derived.Shelf.Strconv.Itoa0
import Derived.Shelf.Sort.Plain
import Derived.Shelf.Bits.Mul64
import Derived.Shelf.Slices.Turned
import Derived.Ground.Names2Prog
import Derived.Shelf.Slices.CompactI
import Derived.Shelf.Slices.SearchI
import Derived.Shelf.Slices.Cells
import Derived.Shelf.Slices.In.SortNone
import Derived.Test.YtallglnmeeahiaaProg
import Derived.Test.YtallglnmeeahiaaPartGEEOALPK
import Derived.Test.YtallglnmeeahiaaPartDHAIKELB
import Derived.Laws.CopyOwn
import Derived.Deep.RegionLaw
import Derived.Test.YtallglnmeeahiaaPartEHONMLDA
import Derived.Test.YtallglnmeeahiaaPartNBJMBDKF
import Derived.Deep.LoopGhost
import Derived.Test.YtallglnmeeahiaaPartNBHFPOFO
import Derived.Test.YtallglnmeeahiaaPartGGCGNECC
/-
  DERIVED: THE SHELF's CONTRACTS AT THIS DUMP, IN PLAIN WORDS (tools/lay-plain.mjs out of 'TryShelf.lean', which tools/lay-shelf.mjs wrote): THE SAME DECLARATIONS UNDER THE SAME NAMES: 'import', 'namespace', 'open', 'def', 'theorem' AND NOTHING ELSE: no command of the shelf's: FOR A HAND-IN. Each laying: the table of numbers ('.._ren') and one theorem, a field a fact of the dump's own or the kernel's comparison; each contract: ONE APPLICATION.
-/
namespace Go.Proofs
open Go.Shelf
def Try.lays128_ren : Go.Shelf.Ren := ⟨fun | 128 => 123 | n => n, fun | 51 => 151 | 3 => 3 | 4 => 4 | 46 => 123 | 5 => 5 | 9 => 9 | n => n, fun | n => n⟩
theorem Try.lays128 : Go.Proofs.Lays.n128 Try.prog Try.lays128_ren := {
  mixed := by kernel_rfl
  f128 := Try.func123.trans (congrArg some (by kernel_rfl))
  t3 := Try.underlying3
  a3 := Try.isAgg3
  z3 := Try.sizeOf3
  v3 := Try.zeroValue3
  t4 := Try.underlying4
  a4 := Try.isAgg4
  z4 := Try.sizeOf4
  v4 := Try.zeroValue4
  t5 := Try.underlying5
  a5 := Try.isAgg5
  z5 := Try.sizeOf5
  v5 := Try.zeroValue5
  t9 := Try.underlying9
  a9 := Try.isAgg9
  z9 := Try.sizeOf9
  v9 := Try.zeroValue9
  t46 := Try.underlying123
  a46 := Try.isAgg123
  z46 := Try.sizeOf123
  v46 := Try.zeroValue123
  t51 := Try.underlying151
  a51 := Try.isAgg151
  z51 := Try.sizeOf151
  v51 := Try.zeroValue151 }
/-- bits.Len32: "Len32 returns the minimum number of bits required to represent x; the result is 0 for x == 0.": IT RETURNS 'Lib.bitLen x'; the world is as it was. ('h0', 'h1': x is a uint32.) (LAID: no walk: one application.) -/
theorem Try.bits_Len32 (x : Int) (w : World) (h0 : 0 ≤ x) (h1 : x ≤ 4294967295) :
    Calls Try.prog 123 #[.int .u32 x] w fun e w' => e = .returned (.int .i64 (Lib.bitLen x.toNat)) ∧ w' = w := Any.bits_Len32 Try.lays128 x w h0 h1
def Try.lays125_ren : Go.Shelf.Ren := ⟨fun | 125 => 100 | 128 => 123 | 129 => 124 | n => n, fun | 46 => 123 | 3 => 3 | 51 => 151 | 53 => 153 | 4 => 4 | 5 => 5 | 9 => 9 | n => n, fun | n => n⟩
theorem Try.lays125 : Go.Proofs.Lays.n125 Try.prog Try.lays125_ren := {
  mixed := by kernel_rfl
  f125 := Try.func100.trans (congrArg some (by kernel_rfl))
  f128 := Try.func123.trans (congrArg some (by kernel_rfl))
  f129 := Try.func124.trans (congrArg some (by kernel_rfl))
  t3 := Try.underlying3
  a3 := Try.isAgg3
  z3 := Try.sizeOf3
  v3 := Try.zeroValue3
  t4 := Try.underlying4
  a4 := Try.isAgg4
  z4 := Try.sizeOf4
  v4 := Try.zeroValue4
  t5 := Try.underlying5
  a5 := Try.isAgg5
  z5 := Try.sizeOf5
  v5 := Try.zeroValue5
  t9 := Try.underlying9
  a9 := Try.isAgg9
  z9 := Try.sizeOf9
  v9 := Try.zeroValue9
  t46 := Try.underlying123
  a46 := Try.isAgg123
  z46 := Try.sizeOf123
  v46 := Try.zeroValue123
  t51 := Try.underlying151
  a51 := Try.isAgg151
  z51 := Try.sizeOf151
  v51 := Try.zeroValue151
  t53 := Try.underlying153
  a53 := Try.isAgg153
  z53 := Try.sizeOf153
  v53 := Try.zeroValue153 }
/-- bits.Len: "Len returns the minimum number of bits required to represent x; the result is 0 for x == 0.": IT RETURNS 'Lib.bitLen x'; the world is as it was. (A uint has 64 bits in the model.) ITS CALLEE bits.Len64 IS MET BY ITS OWN CONTRACT OFF THE SHELF (lay that first). (LAID: no walk: one application.) -/
theorem Try.bits_Len (x : Int) (w : World) (h0 : 0 ≤ x) (h1 : x ≤ 18446744073709551615) :
    Calls Try.prog 100 #[.int .u64 x] w fun e w' => e = .returned (.int .i64 (Lib.bitLen x.toNat)) ∧ w' = w := Any.bits_Len Try.lays125 x w h0 h1
def Try.lays215_ren : Go.Shelf.Ren := ⟨fun | 215 => 139 | n => n, fun | 3 => 3 | 4 => 4 | n => n, fun | n => n⟩
theorem Try.lays215 : Go.Proofs.Lays.n215 Try.prog Try.lays215_ren := {
  mixed := by kernel_rfl
  f215 := Try.func139.trans (congrArg some (by kernel_rfl))
  t3 := Try.underlying3
  a3 := Try.isAgg3
  z3 := Try.sizeOf3
  v3 := Try.zeroValue3
  t4 := Try.underlying4
  a4 := Try.isAgg4
  z4 := Try.sizeOf4
  v4 := Try.zeroValue4 }
open Go.RowKit in
/-- cmp.isNaN at int: 'x != x': false. (LAID: no walk: one application.) -/
theorem Try.cmp_isNaN_int (x : Int) (w : World) :
    Calls Try.prog 139 #[.int .i64 x] w fun e w' => e = .returned (.bool false) ∧ w' = w := Any.cmp_isNaN_int Try.lays215 x w
def Try.lays129_ren : Go.Shelf.Ren := ⟨fun | 129 => 124 | n => n, fun | 53 => 153 | 3 => 3 | 4 => 4 | 46 => 123 | 5 => 5 | 9 => 9 | n => n, fun | n => n⟩
theorem Try.lays129 : Go.Proofs.Lays.n129 Try.prog Try.lays129_ren := {
  mixed := by kernel_rfl
  f129 := Try.func124.trans (congrArg some (by kernel_rfl))
  t3 := Try.underlying3
  a3 := Try.isAgg3
  z3 := Try.sizeOf3
  v3 := Try.zeroValue3
  t4 := Try.underlying4
  a4 := Try.isAgg4
  z4 := Try.sizeOf4
  v4 := Try.zeroValue4
  t5 := Try.underlying5
  a5 := Try.isAgg5
  z5 := Try.sizeOf5
  v5 := Try.zeroValue5
  t9 := Try.underlying9
  a9 := Try.isAgg9
  z9 := Try.sizeOf9
  v9 := Try.zeroValue9
  t46 := Try.underlying123
  a46 := Try.isAgg123
  z46 := Try.sizeOf123
  v46 := Try.zeroValue123
  t53 := Try.underlying153
  a53 := Try.isAgg153
  z53 := Try.sizeOf153
  v53 := Try.zeroValue153 }
/-- bits.Len64: "Len64 returns the minimum number of bits required to represent x; the result is 0 for x == 0.": IT RETURNS 'Lib.bitLen x'; the world is as it was. ('h0', 'h1': x is a uint64.) (LAID: no walk: one application.) -/
theorem Try.bits_Len64 (x : Int) (w : World) (h0 : 0 ≤ x) (h1 : x ≤ 18446744073709551615) :
    Calls Try.prog 124 #[.int .u64 x] w fun e w' => e = .returned (.int .i64 (Lib.bitLen x.toNat)) ∧ w' = w := Any.bits_Len64 Try.lays129 x w h0 h1
def Try.lays189_ren : Go.Shelf.Ren := ⟨fun | 189 => 74 | 125 => 100 | 257 => 99 | 128 => 123 | 129 => 124 | 294 => 114 | 295 => 115 | 296 => 116 | 297 => 117 | 298 => 118 | 299 => 119 | 216 => 120 | 300 => 121 | 301 => 122 | 328 => 134 | 329 => 135 | 330 => 136 | 331 => 137 | 332 => 138 | 215 => 139 | 343 => 150 | n => n, fun | 28 => 30 | 3 => 3 | 46 => 123 | 0 => 0 | 51 => 151 | 53 => 153 | 4 => 4 | 183 => 143 | 182 => 142 | 131 => 148 | 5 => 5 | 9 => 9 | 218 => 169 | 222 => 173 | 228 => 184 | 229 => 185 | n => n, fun | n => n⟩
theorem Try.lays189 : Go.Proofs.Lays.n189 Try.prog Try.lays189_ren := {
  mixed := by kernel_rfl
  f125 := Try.func100.trans (congrArg some (by kernel_rfl))
  f128 := Try.func123.trans (congrArg some (by kernel_rfl))
  f129 := Try.func124.trans (congrArg some (by kernel_rfl))
  f189 := Try.func74.trans (congrArg some (by kernel_rfl))
  f215 := Try.func139.trans (congrArg some (by kernel_rfl))
  f216 := Try.func120.trans (congrArg some (by kernel_rfl))
  f257 := Try.func99.trans (congrArg some (by kernel_rfl))
  f294 := Try.func114.trans (congrArg some (by kernel_rfl))
  f295 := Try.func115.trans (congrArg some (by kernel_rfl))
  f296 := Try.func116.trans (congrArg some (by kernel_rfl))
  f297 := Try.func117.trans (congrArg some (by kernel_rfl))
  f298 := Try.func118.trans (congrArg some (by kernel_rfl))
  f299 := Try.func119.trans (congrArg some (by kernel_rfl))
  f300 := Try.func121.trans (congrArg some (by kernel_rfl))
  f301 := Try.func122.trans (congrArg some (by kernel_rfl))
  f328 := Try.func134.trans (congrArg some (by kernel_rfl))
  f329 := Try.func135.trans (congrArg some (by kernel_rfl))
  f330 := Try.func136.trans (congrArg some (by kernel_rfl))
  f331 := Try.func137.trans (congrArg some (by kernel_rfl))
  f332 := Try.func138.trans (congrArg some (by kernel_rfl))
  f343 := Try.func150.trans (congrArg some (by kernel_rfl))
  t0 := Try.underlying0
  a0 := Try.isAgg0
  z0 := Try.sizeOf0
  v0 := Try.zeroValue0
  t3 := Try.underlying3
  a3 := Try.isAgg3
  z3 := Try.sizeOf3
  v3 := Try.zeroValue3
  t4 := Try.underlying4
  a4 := Try.isAgg4
  z4 := Try.sizeOf4
  v4 := Try.zeroValue4
  t5 := Try.underlying5
  a5 := Try.isAgg5
  z5 := Try.sizeOf5
  v5 := Try.zeroValue5
  t9 := Try.underlying9
  a9 := Try.isAgg9
  z9 := Try.sizeOf9
  v9 := Try.zeroValue9
  t28 := Try.underlying30
  a28 := Try.isAgg30
  z28 := Try.sizeOf30
  v28 := Try.zeroValue30
  t46 := Try.underlying123
  a46 := Try.isAgg123
  z46 := Try.sizeOf123
  v46 := Try.zeroValue123
  t51 := Try.underlying151
  a51 := Try.isAgg151
  z51 := Try.sizeOf151
  v51 := Try.zeroValue151
  t53 := Try.underlying153
  a53 := Try.isAgg153
  z53 := Try.sizeOf153
  v53 := Try.zeroValue153
  t131 := Try.underlying148
  a131 := Try.isAgg148
  z131 := Try.sizeOf148
  v131 := Try.zeroValue148
  t182 := Try.underlying142
  a182 := Try.isAgg142
  z182 := Try.sizeOf142
  v182 := Try.zeroValue142
  t183 := Try.underlying143
  a183 := Try.isAgg143
  z183 := Try.sizeOf143
  v183 := Try.zeroValue143
  t218 := Try.underlying169
  a218 := Try.isAgg169
  z218 := Try.sizeOf169
  v218 := Try.zeroValue169
  t222 := Try.underlying173
  a222 := Try.isAgg173
  z222 := Try.sizeOf173
  v222 := Try.zeroValue173
  t228 := Try.underlying184
  a228 := Try.isAgg184
  z228 := Try.sizeOf184
  v228 := Try.zeroValue184
  t229 := Try.underlying185
  a229 := Try.isAgg185
  z229 := Try.sizeOf185
  v229 := Try.zeroValue185 }
open Go.Sort Go.RowKit in
theorem Try.slices_Sort_int (blk off cap : Nat) (zs : List Int) (w : World) (hH : Holds (Value.int .i64) w blk off zs.toArray) (hblk : blk < w.heap.size) (hsz : zs.length < 4611686018427387904) :
    Calls Try.prog 74 #[.slice (some ⟨blk, off, none⟩) zs.length cap] w fun e w' =>
      e = .returned (.tuple #[]) ∧ ∃ n os, w' = grow (putRow (Value.int .i64) (Sort.ahead w n) blk off (zs.mergeSort fun x y => decide (x ≤ y)).toArray) os := Any.slices_Sort_int Try.lays189 blk off cap zs w hH hblk hsz
def Try.lays264_ren : Go.Shelf.Ren := ⟨fun | 264 => 133 | n => n, fun | 53 => 153 | 46 => 123 | n => n, fun | n => n⟩
theorem Try.lays264 : Go.Proofs.Lays.n264 Try.prog Try.lays264_ren := {
  mixed := by kernel_rfl
  f264 := Try.func133.trans (congrArg some (by kernel_rfl))
  t46 := Try.underlying123
  a46 := Try.isAgg123
  z46 := Try.sizeOf123
  v46 := Try.zeroValue123
  t53 := Try.underlying153
  a53 := Try.isAgg153
  z53 := Try.sizeOf153
  v53 := Try.zeroValue153 }
open Go.RowKit Go.Lib in
theorem Try.bits_Mul64 (x y : Nat) (hx : x < 18446744073709551616) (hy : y < 18446744073709551616) (w : World) :
    Calls Try.prog 133 #[.int .u64 x, .int .u64 y] w fun e w' => e = .returned (.tuple #[.int .u64 ((x * y / 18446744073709551616 : Nat) : Int), .int .u64 ((x * y % 18446744073709551616 : Nat) : Int)]) ∧ w' = w := Any.bits_Mul64 Try.lays264 x y hx hy w
def Try.lays212_ren : Go.Shelf.Ren := ⟨fun | 212 => 113 | 263 => 132 | 264 => 133 | n => n, fun | 46 => 123 | 51 => 151 | 146 => 165 | 53 => 153 | 148 => 167 | n => n, fun | n => n⟩
theorem Try.lays212 : Go.Proofs.Lays.n212 Try.prog Try.lays212_ren := {
  mixed := by kernel_rfl
  f212 := Try.func113.trans (congrArg some (by kernel_rfl))
  f263 := Try.func132.trans (congrArg some (by kernel_rfl))
  f264 := Try.func133.trans (congrArg some (by kernel_rfl))
  t46 := Try.underlying123
  a46 := Try.isAgg123
  z46 := Try.sizeOf123
  v46 := Try.zeroValue123
  t51 := Try.underlying151
  a51 := Try.isAgg151
  z51 := Try.sizeOf151
  v51 := Try.zeroValue151
  t53 := Try.underlying153
  a53 := Try.isAgg153
  z53 := Try.sizeOf153
  v53 := Try.zeroValue153
  t146 := Try.underlying165
  a146 := Try.isAgg165
  z146 := Try.sizeOf165
  v146 := Try.zeroValue165
  t148 := Try.underlying167
  a148 := Try.isAgg167
  z148 := Try.sizeOf167
  v148 := Try.zeroValue167 }
open Go.RowKit Go.Lib in
/-- math/bits.Mul: "Mul returns the full-width product of x and y": on a machine of 64 bits: Mul64's. (LAID: no walk: one application.) -/
theorem Try.bits_Mul (x y : Nat) (hx : x < 18446744073709551616) (hy : y < 18446744073709551616) (w : World) :
    Calls Try.prog 113 #[.int .u64 x, .int .u64 y] w fun e w' => e = .returned (.tuple #[.int .u64 ((x * y / 18446744073709551616 : Nat) : Int), .int .u64 ((x * y % 18446744073709551616 : Nat) : Int)]) ∧ w' = w := Any.bits_Mul Try.lays212 x y hx hy w
def Try.lays108_ren : Go.Shelf.Ren := ⟨fun | 108 => 50 | n => n, fun | 28 => 30 | 3 => 3 | 0 => 0 | 4 => 4 | n => n, fun | n => n⟩
theorem Try.lays108 : Go.Proofs.Lays.n108 Try.prog Try.lays108_ren := {
  mixed := by kernel_rfl
  f108 := Try.func50.trans (congrArg some (by kernel_rfl))
  t0 := Try.underlying0
  a0 := Try.isAgg0
  z0 := Try.sizeOf0
  v0 := Try.zeroValue0
  t3 := Try.underlying3
  a3 := Try.isAgg3
  z3 := Try.sizeOf3
  v3 := Try.zeroValue3
  t4 := Try.underlying4
  a4 := Try.isAgg4
  z4 := Try.sizeOf4
  v4 := Try.zeroValue4
  t28 := Try.underlying30
  a28 := Try.isAgg30
  z28 := Try.sizeOf30
  v28 := Try.zeroValue30 }
open Go.Lib in
/-- slices.Index at []int: "Index returns the index of the first occurrence of v in s, or -1 if not present.": IT RETURNS 'Lib.idxOf (the elements) v'; the world is as it was. 'zs': what the cells behind the slice's address hold (its spare capacity too, if you have it); 'zs.take n': its elements. (LAID: no walk: one application.) -/
theorem Try.slices_Index_int (b off n c : Nat) (zs : List Int) (x : Int) (w : World) (hz : n ≤ zs.length) (hbig : n ≤ 9223372036854775807) (hc : ∀ j, j < zs.length → w.cell? ⟨b, off + j, none⟩ = some (.int .i64 (zs.getD j 0))) :
    Calls Try.prog 50 #[.slice (some ⟨b, off, none⟩) n c, .int .i64 x] w fun e w' => e = .returned (.int .i64 (Lib.idxOf (zs.take n) x)) ∧ w' = w := Any.slices_Index_int Try.lays108 b off n c zs x w hz hbig hc
open Go.Lib in
/-- The same at a slice of length 0, a nil one too: no cell is known, none is asked for. (LAID: no walk: one application.) -/
theorem Try.slices_Index_int_empty (a : Option Addr) (c : Nat) (x : Int) (w : World) :
    Calls Try.prog 50 #[.slice a 0 c, .int .i64 x] w fun e w' => e = .returned (.int .i64 (Lib.idxOf [] x)) ∧ w' = w := Any.slices_Index_int_empty Try.lays108 a c x w
def Try.laysNm220_ren : Go.Shelf.Ren := ⟨fun | 20 => 75 | n => n, fun | 22 => 30 | 3 => 3 | 4 => 4 | 0 => 0 | n => n, fun | n => n⟩
theorem Try.laysNm220 : Go.Proofs.Lays2.n20 Try.prog Try.laysNm220_ren := {
  mixed := by kernel_rfl
  f20 := Try.func75.trans (congrArg some (by kernel_rfl))
  t0 := Try.underlying0
  a0 := Try.isAgg0
  z0 := Try.sizeOf0
  v0 := Try.zeroValue0
  t3 := Try.underlying3
  a3 := Try.isAgg3
  z3 := Try.sizeOf3
  v3 := Try.zeroValue3
  t4 := Try.underlying4
  a4 := Try.isAgg4
  z4 := Try.sizeOf4
  v4 := Try.zeroValue4
  t22 := Try.underlying30
  a22 := Try.isAgg30
  z22 := Try.sizeOf30
  v22 := Try.zeroValue30
  i3 := by kernel_rfl }
open Go.RowKit Go.Lib Go.Sort in
/-- slices.Compact at []int, over an array: the library's two loops are walked. (LAID: no walk: one application.) -/
theorem Try.slices_Compact_int_arr (blk off cap : Nat) (d : Array Int) (w : World) (hH : Holds encI w blk off d) (hsz : d.size ≤ 9223372036854775807) (hcap : d.size ≤ cap) :
    Calls Try.prog 75 #[.slice (some ⟨blk, off, none⟩) d.size cap] w fun e w' => e = .returned (.slice (some ⟨blk, off, none⟩) (compactUpTo d d.size).length cap) ∧ ∃ q, w' = putRow encI (Sort.ahead w q) blk off (compactUpTo d d.size ++ List.replicate (d.size - (compactUpTo d d.size).length) 0).toArray := Any.slices_Compact_int_arr Try.laysNm220 blk off cap d w hH hsz hcap
open Go.RowKit Go.Lib Go.Sort in
/-- slices.Compact at []int: "Compact replaces consecutive runs of equal elements with a single copy. This is like the uniq command found on Unix. Compact modifies the contents of the slice s and returns the modified slice, which may have a smaller length. Compact zeroes the elements between the new length and the original length. The result preserves the nilness of s.": IT RETURNS THE SLICE CUT TO 'Lib.compact zs'; ITS CELLS HOLD 'Lib.compact zs', THEN ZERO VALUES up to the old length; all else is as it was, but for the count of draws. IN THE WORDS OF slices.Sort's CONTRACT ('Holds', 'putRow'): so the everyday 'slices.Sort(xs); xs = slices.Compact(xs)' goes from the one contract to the other. It asks 'zs.length ≤ cap' (every slice's: the reslicing 's[:k]' looks at it). Length 0, nil: '.._empty'. (LAID: no walk: one application.) -/
theorem Try.slices_Compact_int (blk off cap : Nat) (zs : List Int) (w : World) (hH : Holds (Value.int .i64) w blk off zs.toArray) (hsz : zs.length ≤ 9223372036854775807) (hcap : zs.length ≤ cap) :
    Calls Try.prog 75 #[.slice (some ⟨blk, off, none⟩) zs.length cap] w fun e w' => e = .returned (.slice (some ⟨blk, off, none⟩) (Lib.compact zs).length cap) ∧ ∃ q, w' = putRow (Value.int .i64) (Sort.ahead w q) blk off (Lib.compact zs ++ List.replicate (zs.length - (Lib.compact zs).length) 0).toArray := Any.slices_Compact_int Try.laysNm220 blk off cap zs w hH hsz hcap
open Go.RowKit Go.Lib Go.Sort in
/-- The same at a slice of length 0, a nil one too: it comes back as it is. (LAID: no walk: one application.) -/
theorem Try.slices_Compact_int_empty (a : Option Addr) (cap : Nat) (w : World) :
    Calls Try.prog 75 #[.slice a 0 cap] w fun e w' => e = .returned (.slice a 0 cap) ∧ w' = w := Any.slices_Compact_int_empty Try.laysNm220 a cap w
def Try.laysNm237_ren : Go.Shelf.Ren := ⟨fun | 37 => 139 | n => n, fun | 3 => 3 | 4 => 4 | n => n, fun | n => n⟩
theorem Try.laysNm237 : Go.Proofs.Lays2.n37 Try.prog Try.laysNm237_ren := {
  mixed := by kernel_rfl
  f37 := Try.func139.trans (congrArg some (by kernel_rfl))
  t3 := Try.underlying3
  a3 := Try.isAgg3
  z3 := Try.sizeOf3
  v3 := Try.zeroValue3
  t4 := Try.underlying4
  a4 := Try.isAgg4
  z4 := Try.sizeOf4
  v4 := Try.zeroValue4 }
open Go.RowKit Go.Lib in
/-- cmp.isNaN[int]: 'x != x': false. (LAID: no walk: one application.) -/
theorem Try.cmp_isNaN_int2 (x : Int) (w : World) :
    Calls Try.prog 139 #[.int .i64 x] w fun e w' => e = .returned (.bool false) ∧ w' = w := Any.cmp_isNaN_int2 Try.laysNm237 x w
def Try.laysNm231_ren : Go.Shelf.Ren := ⟨fun | 31 => 120 | 37 => 139 | n => n, fun | 3 => 3 | 4 => 4 | n => n, fun | n => n⟩
theorem Try.laysNm231 : Go.Proofs.Lays2.n31 Try.prog Try.laysNm231_ren := {
  mixed := by kernel_rfl
  f31 := Try.func120.trans (congrArg some (by kernel_rfl))
  f37 := Try.func139.trans (congrArg some (by kernel_rfl))
  t3 := Try.underlying3
  a3 := Try.isAgg3
  z3 := Try.sizeOf3
  v3 := Try.zeroValue3
  t4 := Try.underlying4
  a4 := Try.isAgg4
  z4 := Try.sizeOf4
  v4 := Try.zeroValue4 }
open Go.RowKit Go.Lib in
/-- cmp.Less[int]: "Less reports whether x is less than y.": 'x < y'; the world is as it was. (LAID: no walk: one application.) -/
theorem Try.cmp_Less_int2 (x y : Int) (w : World) :
    Calls Try.prog 120 #[.int .i64 x, .int .i64 y] w fun e w' => e = .returned (.bool (decide (x < y))) ∧ w' = w := Any.cmp_Less_int2 Try.laysNm231 x y w
open Go.RowKit Go.Lib Go.Sort in
/-- slices.Compact at []int, of an argument: the slice cut to 'Lib.compact (elements)'; the n cells hold that, then zeros. (LAID: no walk: one application.) -/
theorem Try.slices_Compact_int_cells (b off n c : Nat) (zs : List Int) (w : World) (hz : n ≤ zs.length) (hbig : n ≤ 9223372036854775807) (hcap : n ≤ c) (hc : ∀ j, j < zs.length → w.cell? ⟨b, off + j, none⟩ = some (.int .i64 (zs.getD j 0))) (hf : ∀ j, j < n → w.frozen? ⟨b, off + j, none⟩ = false) :
    Calls Try.prog 75 #[.slice (some ⟨b, off, none⟩) n c] w fun e w' => e = .returned (.slice (some ⟨b, off, none⟩) (Lib.compact (zs.take n)).length c) ∧ ∃ q, w' = (w.drewN q).setCells b off ((Lib.compact (zs.take n) ++ List.replicate (n - (Lib.compact (zs.take n)).length) 0).map (Value.int .i64)) := Any.slices_Compact_int_cells Try.laysNm220 b off n c zs w hz hbig hcap hc hf
open Go.RowKit Go.Sort in
/-- .. and plain. (LAID: no walk: one application.) -/
theorem Try.slices_Sort_int_none (p : Option Addr) (cap : Nat) (w : World) :
    Calls Try.prog 74 #[.slice p 0 cap] w fun e w' => e = .returned (.tuple #[]) ∧ w' = w := Any.slices_Sort_int_none Try.lays189 p cap w
end Go.Proofs

/- The library's slices.Repeat at []int, of one number: so many of it. -/
namespace Go.Proofs.Ytallglnmeeahiaa
set_option linter.unusedVariables false
set_option linter.unusedSimpArgs false
open Go.ChangeShapes Go.WideShapes Go.ChangeAt Go.RowKit
attribute [local go_sem] ext_cell ext_frozen ext_lt ext_lt1 ext_lt2 ext_lt3 ltn2 ltn3 ltn13 lts1 lts2 lts3

theorem own_full {w : World} {base g n : Nat} {e : TypeId} {xs : List Value} (h : w.ownsRow base e 1 (.slice (some ⟨g, 0, none⟩) n n) n xs) : w.heap[g]? = some (.cells xs.toArray e (0, 0)) := by
  obtain ⟨hl, h⟩ := h
  rcases h with ⟨h, _⟩ | ⟨g', cap, cur, hv, _, hg, _, _, hs, ht⟩
  · cases h
  · simp only [Value.slice.injEq, Option.some.injEq, Addr.mk.injEq, and_true, true_and] at hv
    obtain ⟨rfl, rfl⟩ := hv
    rw [hg, ← ht, List.take_of_length_le (by rw [Array.length_toList, hs]; exact Nat.le_refl _)]
theorem full_own {w : World} {base g n : Nat} {e : TypeId} {xs : List Value} (h : w.heap[g]? = some (.cells xs.toArray e (0, 0))) (hn : xs.length = n) (hb : base ≤ g) (hm : n ≤ maxLen) : w.ownsRow base e 1 (.slice (some ⟨g, 0, none⟩) n n) n xs :=
  ⟨by rw [hn, Nat.mul_one], .inr ⟨g, n, xs.toArray, rfl, hb, h, Nat.le_refl _, hm, by simpa using hn, by rw [Nat.mul_one, ← hn]; simp⟩⟩
theorem op_copy {P : Program} {o : Oper} {a : Act} {w : World} {K : Act → World → Prop} {Q : Exit → Act → World → Prop} (hgd : o.guard = none) (d s : Operand) (dT sT : TypeId)
    (ho : o.op = .call { callee := .builtin .copy, args := #[d, s], argTypes := #[dT, sT] }) (elem : TypeId) (hu : P.underlying dT = some (.slice elem)) (hsz : (P.info? elem).map (·.size) = some 1)
    (dp sp : Option Addr) (dLen dCap sLen sCap : Nat) (hd : a.eval d = .slice dp dLen dCap) (hs : a.eval s = .slice sp sLen sCap)
    (g off : Nat) (cur : List Value) (t : TypeId) (hg : w.heap[g]? = some (.cells cur.toArray t (0, 0))) (cs : List Value) (hn : cs.length = Nat.min sLen dLen)
    (hpos : 0 < cs.length → dp = some ⟨g, off, none⟩ ∧ ∃ ad, sp = some ad ∧ ∀ j v, cs[j]? = some v → w.cell? (ad.add j) = some v)
    (hfit : off + cs.length ≤ cur.length) (h1 : ∀ v ∈ cs, v.oneCell' = true) (B : Nat) (w0 : World) (hb : RowKit.Below B w0 w) (hBg : B ≤ g)
    (h : ∀ w', RowKit.Hid (w'.heap[g]? = some (.cells (splice cur off cs).toArray t (0, 0))) → RowKit.Below B w0 w' → K (a.put o.dst (goInt cs.length)) w') : Oper.wp P o a w K Q := by
  have h2 := step_copy_splice (ops := #[]) (E := True) (Q := Q) (K := K) hgd d s dT sT ho elem hu hsz dp sp dLen dCap sLen sCap hd hs g off cur t hg cs hn hpos hfit h1 B w0 hb hBg h
  have hw : Region.wanted o (yielded #[] a.tmps) = true := by simp [Region.wanted, hgd]
  rwa [if_pos hw] at h2
theorem flatI_rep (n : Nat) (x : Int) : (List.replicate n x).flatMap cI = List.replicate n (.int .i64 x) := by
  induction n with
  | zero => rfl
  | succ n ih => rw [List.replicate_succ, List.flatMap_cons, ih]; rfl
/-- n of x, then zeros -/
def repTo (x : Int) (N n : Nat) : List Value := List.replicate n (.int .i64 x) ++ List.replicate (N - n) (.int .i64 0)
theorem repTo_len {x : Int} {N n : Nat} (h : n ≤ N) : (repTo x N n).length = N := by simp [repTo]; omega
theorem repTo_step {x : Int} {N n k : Nat} (h : n + k ≤ N) : splice (repTo x N n) n (List.replicate k (.int .i64 x)) = repTo x N (n + k) := by
  unfold splice repTo
  rw [List.take_append_of_le_length (by simp), List.take_of_length_le (by simp), List.drop_append, List.length_replicate, List.length_replicate]
  rw [List.drop_eq_nil_of_le (by simp), List.nil_append, List.drop_replicate, ← List.append_assoc, List.replicate_append_replicate]
  congr 2
  omega
set_option maxHeartbeats 2000000 in
set_option maxRecDepth 100000 in
theorem repeat_any (lv : Value) (x : Int) (N : Nat) (w : World) (hN : 1 ≤ N) (hN2 : N ≤ 100000) (hl : SlE w cI 1 lv [x]) :
    Calls Try.prog 97 #[lv, .int .i64 (N : Int)] w fun e w' => ∃ g, e = .returned (.slice (some ⟨g, 0, none⟩) N N) ∧ w'.ownsRow w.heap.size 3 1 (.slice (some ⟨g, 0, none⟩) N N) N ((List.replicate N x).flatMap cI) ∧ Below w.heap.size w w' := by
  obtain ⟨A1, c1, rfl, hl1, hm1, hC⟩ := hl.form
  obtain ⟨b, o, rfl, hb, hc⟩ := hC.int (i := 0) rfl
  have u1 : IntKind.u64.wrap (1 : Int) = 1 := by rfl
  have u2 : IntKind.u64.wrap (N : Int) = (N : Int) := by rw [IntKind.wrap_u64]; omega
  have u3 : ((1 * N / 18446744073709551616 : Nat) : Int) = 0 := by rw [Nat.one_mul, Nat.div_eq_of_lt (by omega)]; rfl
  have u4 : ((1 * N % 18446744073709551616 : Nat) : Int) = (N : Int) := by rw [Nat.one_mul, Nat.mod_eq_of_lt (by omega)]
  have hmul : ∀ w : World, Calls Try.prog 113 #[.int .u64 1, .int .u64 (N : Int)] w fun e w' => e = .returned (.tuple #[.int .u64 0, .int .u64 (N : Int)]) ∧ w' = w := fun w => (Try.bits_Mul 1 N (by omega) (by omega) w).mono fun e w' ⟨he, hw⟩ => ⟨by rw [he, u3, u4], hw⟩
  have HMUL := Lib.hid hmul
  clear hl hC u3 u4 hmul
  simp only [List.length_singleton] at *
  go_enter Try.func97, Try.ntmps97
  go_wp2_with fail
  refine (HMUL.out _).mono ?_
  rintro e w' ⟨rfl, rfl⟩
  have u5 : IntKind.i64.wrap (N : Int) = (N : Int) := IntWalk.i64_in _ (by omega)
  have hn0 : decide ((N : Int) > 9223372036854775807) = false := by simp; omega
  have hnews : ∀ (w1 : World), w1.cell? ⟨b, o, none⟩ = some (.int .i64 x) → ∀ (j : Nat) (v : Value), (List.replicate 1 (Value.int .i64 x))[j]? = some v → w1.cell? ((⟨b, o, none⟩ : Addr).add j) = some v := fun w1 h j v hj => by
    rw [List.getElem?_replicate] at hj
    split at hj
    · obtain rfl : j = 0 := by omega
      injection hj with hj
      subst hj
      simpa [Addr.add] using h
    · cases hj
  have HNEWS := Lib.hid hnews
  clear hnews
  go_wp2_with (first | (at_make; refine wpList_makeE (P := Try.prog) cI 0 elInt rfl rfl rfl _ _ rfl w'.heap.size N _ (by rfl) (by rfl) rfl (by omega) (by unfold maxLen; omega) (by simp) ?_; intro w1 hrow1 hbel1; have HB1 := Lib.hid (own_full hrow1); have hlt1 := (hrow1.lt _ rfl).2; have hc1 := kcell hbel1 hc; clear hrow1) | (refine wpList_copy_splice rfl (.tmp 31) (.tmp 32) 30 30 rfl 3 Try.underlying30 (by kernel_rfl) (some ⟨w'.heap.size, 0, none⟩) (some ⟨b, o, none⟩) N N 1 c1 (by rfl) (by rfl) w'.heap.size 0 (repTo x N 0) 3 (by have h := HB1.out; rw [flatI_rep] at h; simpa [repTo] using h) (List.replicate 1 (.int .i64 x)) (by simp [Nat.min_def]; omega) (fun _ => ⟨rfl, _, rfl, HNEWS.out _ hc1⟩) (by rw [repTo_len (Nat.zero_le _)]; simp; omega) (by intro v hv; rw [List.eq_of_mem_replicate hv]; rfl) w'.heap.size w' hbel1 (Nat.le_refl _) ?_; intro w2 hh2 hbel2; rw [repTo_step (by omega)] at hh2))
  obtain ⟨w0, rfl⟩ : ∃ w0 : World, w0 = w' := ⟨_, rfl⟩
  go_loopw [8] (fun nn wr => ∃ n : Nat, 1 ≤ n ∧ n ≤ N ∧ nn = .int .i64 (n : Int) ∧ wr.heap[w0.heap.size]? = some (.cells (repTo x N n).toArray 3 (0, 0)) ∧ Below w0.heap.size w0 wr) (fun nn _ => N - (intOf nn).toNat)
  case atStart => exact ⟨1, Nat.le_refl _, hN, rfl, by simpa using hh2.out, hbel2⟩
  case round =>
    clear hh2 hbel2
    obtain ⟨n, hn1, hn2, rfl, hblk, hbel⟩ := hrel
    have HB := Lib.hid hblk
    clear hblk
    by_cases hlt : n < N
    · obtain ⟨m, hm⟩ : ∃ m, m = Nat.min n (N - n) := ⟨_, rfl⟩
      have hm1 : 1 ≤ m ∧ m ≤ n ∧ n + m ≤ N := by rw [hm]; show 1 ≤ min n (N - n) ∧ min n (N - n) ≤ n ∧ n + min n (N - n) ≤ N; omega
      have HM := Lib.hid hm
      clear hm
      have hsrc : ∀ j v, (List.replicate m (Value.int .i64 x))[j]? = some v → wr.drew.cell? ((⟨w0.heap.size, 0, none⟩ : Addr).add j) = some v := fun j v hj => by
        rw [List.getElem?_replicate] at hj
        split at hj
        · injection hj with hj
          subst hj
          have hadd : (⟨w0.heap.size, 0, none⟩ : Addr).add j = ⟨w0.heap.size, j, none⟩ := by unfold Addr.add; split <;> simp_all
          rw [hadd]
          show wr.cell? _ = _
          rw [cell_of_row wr _ j _ _ _ HB.out]
          have hjn : j < n := by omega
          simp [repTo, List.getElem?_append, hjn]
        · cases hj
      have HSRC := Lib.hid hsrc
      have hNn : ¬ N = n := by omega
      have q1 : IntKind.i64.wrap ((n : Int) + (m : Int)) = (n : Int) + (m : Int) := IntWalk.i64_in _ (by omega)
      clear hsrc
      go_wp2_with fail
      refine F_start 9 (fun _ => True) (by kernel_rfl) trivial (fun hS inv => ?_)
      refine F_take (i := 0) (v := ?_) rfl (by kernel_rfl) (by kernel_rfl) (by kernel_rfl) (fun _ _ _ h => h) inv (Or.inl ⟨by rfl, ?_⟩) (by assumption) (fun invn => ?_)
      rotate_left
      · (intro w hSw; (try dsimp only at hSw); go_simp; try with_reducible rfl)
      try simp only [List.getElem_toArray, List.getElem_cons_zero, List.getElem_cons_succ, Act.put, List.setIfInBounds_toArray, List.set_cons_zero, List.set_cons_succ]
      clear inv
      have inv := invn
      clear invn
      refine F_take (i := 1) (v := ?_) rfl (by kernel_rfl) (by kernel_rfl) (by kernel_rfl) (fun _ _ _ h => h) inv (Or.inl ⟨by rfl, ?_⟩) (by assumption) (fun invn => ?_)
      rotate_left
      · (intro w hSw; (try dsimp only at hSw); go_simp; try with_reducible rfl)
      try simp only [List.getElem_toArray, List.getElem_cons_zero, List.getElem_cons_succ, Act.put, List.setIfInBounds_toArray, List.set_cons_zero, List.set_cons_succ]
      clear inv
      have inv := invn
      clear invn
      refine F_take (i := 2) (v := ?_) rfl (by kernel_rfl) (by kernel_rfl) (by kernel_rfl) (fun _ _ _ h => h) inv (Or.inl ⟨by rfl, ?_⟩) (by assumption) (fun invn => ?_)
      rotate_left
      · (intro w hSw; (try dsimp only at hSw); go_simp; try with_reducible rfl)
      try simp only [List.getElem_toArray, List.getElem_cons_zero, List.getElem_cons_succ, Act.put, List.setIfInBounds_toArray, List.set_cons_zero, List.set_cons_succ]
      clear inv
      have inv := invn
      clear invn
      refine F_take (i := 3) (v := ?_) rfl (by kernel_rfl) (by kernel_rfl) (by kernel_rfl) (fun _ _ _ h => h) inv (Or.inl ⟨by rfl, ?_⟩) (by assumption) (fun invn => ?_)
      rotate_left
      · (intro w hSw; (try dsimp only at hSw); go_simp; try with_reducible rfl)
      try simp only [List.getElem_toArray, List.getElem_cons_zero, List.getElem_cons_succ, Act.put, List.setIfInBounds_toArray, List.set_cons_zero, List.set_cons_succ]
      clear inv
      have inv := invn
      clear invn
      refine F_take (i := 4) (v := ?_) rfl (by kernel_rfl) (by kernel_rfl) (by kernel_rfl) (fun _ _ _ h => h) inv (Or.inl ⟨by rfl, ?_⟩) (by assumption) (fun invn => ?_)
      rotate_left
      · (intro w hSw; (try dsimp only at hSw); go_simp; try with_reducible rfl)
      try simp only [List.getElem_toArray, List.getElem_cons_zero, List.getElem_cons_succ, Act.put, List.setIfInBounds_toArray, List.set_cons_zero, List.set_cons_succ]
      clear inv
      have inv := invn
      clear invn
      refine F_take (i := 5) (v := ?_) rfl (by kernel_rfl) (by kernel_rfl) (by kernel_rfl) (fun _ _ _ h => h) inv (Or.inl ⟨by rfl, ?_⟩) (by assumption) (fun invn => ?_)
      rotate_left
      · (intro w hSw; (try dsimp only at hSw); go_simp; try with_reducible rfl)
      try simp only [List.getElem_toArray, List.getElem_cons_zero, List.getElem_cons_succ, Act.put, List.setIfInBounds_toArray, List.set_cons_zero, List.set_cons_succ]
      clear inv
      have inv := invn
      clear invn
      refine F_take (i := 6) (v := ?_) rfl (by kernel_rfl) (by kernel_rfl) (by kernel_rfl) (fun _ _ _ h => h) inv (Or.inl ⟨by rfl, ?_⟩) (by assumption) (fun invn => ?_)
      rotate_left
      · (intro w hSw; (try dsimp only at hSw); go_simp; try with_reducible rfl)
      try simp only [List.getElem_toArray, List.getElem_cons_zero, List.getElem_cons_succ, Act.put, List.setIfInBounds_toArray, List.set_cons_zero, List.set_cons_succ]
      clear inv
      have inv := invn
      clear invn
      refine F_one (i := 7) (by kernel_rfl) rfl rfl (by omega) inv (fun K hK => ?_)
      try simp only [List.getElem_toArray, List.getElem_cons_zero, List.getElem_cons_succ]
      refine op_copy rfl _ _ 30 30 rfl 3 Try.underlying30 (by kernel_rfl) (some ⟨w0.heap.size, n, none⟩) (some ⟨w0.heap.size, 0, none⟩) (N - n) (N - n) n N (by rfl) (by rfl) w0.heap.size n (repTo x N n) 3 HB.out (List.replicate m (.int .i64 x)) (by rw [List.length_replicate, HM.out]) (fun _ => ⟨rfl, _, rfl, HSRC.out⟩) (by rw [repTo_len (by omega), List.length_replicate]; omega) (by intro v hv; rw [List.eq_of_mem_replicate hv]; rfl) w0.heap.size w0 hbel.drew (Nat.le_refl _) ?_
      intro w3 hh3 hbel3
      rw [repTo_step (by omega)] at hh3
      simp only [List.length_replicate, goInt]
      refine hK.out _ _ (trivial) (fun hSn invn => ?_)
      try simp only [List.getElem_toArray, List.getElem_cons_zero, List.getElem_cons_succ, Act.put, List.setIfInBounds_toArray, List.set_cons_zero, List.set_cons_succ]
      clear hK K inv hS
      have inv := invn
      have hS := hSn
      clear invn hSn
      refine F_take (i := 8) (v := ?_) rfl (by kernel_rfl) (by kernel_rfl) (by kernel_rfl) (fun _ _ _ h => h) inv (Or.inl ⟨by rfl, ?_⟩) (by assumption) (fun invn => ?_)
      rotate_left
      · (intro w hSw; (try dsimp only at hSw); go_simp; try with_reducible rfl)
      try simp only [List.getElem_toArray, List.getElem_cons_zero, List.getElem_cons_succ, Act.put, List.setIfInBounds_toArray, List.set_cons_zero, List.set_cons_succ]
      clear inv
      have inv := invn
      clear invn
      refine F_last (i := 9) (by kernel_rfl) rfl rfl (by omega) (by kernel_rfl) (fun K hK => ?_)
      go_simp
      refine hK _ _ ?_
      clear hK K inv hS
      go_wp2_with fail
      go_roundw
      case rel => exact ⟨n + m, by omega, by omega, by go_num, hh3.out, hbel3⟩
      case measure => simp [intOf]; omega
    · obtain rfl : n = N := by omega
      have hown := full_own (base := w0.heap.size) (n := n) HB.out (repTo_len (Nat.le_refl _)) (Nat.le_refl _) (by unfold maxLen; omega)
      have hfl : repTo x n n = (List.replicate n x).flatMap cI := by rw [flatI_rep]; simp [repTo]
      rw [hfl] at hown
      have HO := Lib.hid hown
      clear hown hfl
      go_wp2_with fail
      go_ret
      exact ⟨_, rfl, HO.out, hbel⟩
end Go.Proofs.Ytallglnmeeahiaa

/- A slice of the call's own that may begin inside its block (a queue: cut at the front, appended to at the back). -/
namespace Go.Proofs.Ytallglnmeeahiaa
set_option linter.unusedVariables false
set_option linter.unusedSimpArgs false
open Go.ChangeShapes Go.WideShapes Go.ChangeAt Go.RowKit

def QRow (w : World) (lo : Nat) (e : TypeId) (k : Nat) (v : Value) (n : Nat) (xs : List Value) : Prop :=
  xs.length = n * k ∧
  ((v = .slice none 0 0 ∧ n = 0) ∨
   ∃ g o cap cur, v = .slice (some ⟨g, o, none⟩) n cap ∧ lo ≤ g ∧ w.heap[g]? = some (.cells cur e (0, 0)) ∧ n ≤ cap ∧ cap ≤ maxLen ∧ o + cap * k ≤ cur.size ∧ (cur.toList.drop o).take (n * k) = xs)

section
variable {w w' : World} {lo k n : Nat} {e : TypeId} {v : Value} {xs : List Value}
theorem QRow.of_own (h : w.ownsRow lo e k v n xs) : QRow w lo e k v n xs := by
  obtain ⟨hl, hs⟩ := h
  refine ⟨hl, ?_⟩
  rcases hs with hs | ⟨g, cap, cur, hv, hg, hh, hnc, hm, hsz, htk⟩
  · exact .inl hs
  · exact .inr ⟨g, 0, cap, cur, hv, hg, hh, hnc, hm, by omega, by simpa using htk⟩
theorem QRow.lt (h : QRow w lo e k v n xs) : ∀ g, v.ownBlock = some g → lo ≤ g ∧ g < w.heap.size := by
  intro g hg
  rcases h.2 with ⟨rfl, _⟩ | ⟨g', o, cap, cur, rfl, hl, hh, _⟩
  · cases hg
  · have : g' = g := by simpa [Value.ownBlock] using hg
    subst this
    refine ⟨hl, ?_⟩
    rcases Nat.lt_or_ge g' w.heap.size with hlt | hge
    · exact hlt
    · rw [Array.getElem?_eq_none hge] at hh; cases hh
theorem QRow.shape (h : QRow w lo e k v n xs) : ∃ A c, v = .slice A n c ∧ n ≤ c ∧ c ≤ maxLen := by
  rcases h.2 with ⟨rfl, rfl⟩ | ⟨g, o, cap, cur, rfl, _, _, h1, h2, _⟩
  · exact ⟨_, _, rfl, Nat.le_refl _, by unfold maxLen; omega⟩
  · exact ⟨_, _, rfl, h1, h2⟩
theorem QRow.block (h : QRow w lo e k v n xs) (hb : ∀ g, v.ownBlock = some g → w'.heap[g]? = w.heap[g]?) : QRow w' lo e k v n xs := by
  obtain ⟨hl, hs⟩ := h
  refine ⟨hl, ?_⟩
  rcases hs with hs | ⟨g, o, cap, cur, rfl, hg, hh, r⟩
  · exact .inl hs
  · exact .inr ⟨g, o, cap, cur, rfl, hg, (hb g rfl).trans hh, r⟩
theorem QRow.below (h : QRow w lo e k v n xs) {B : Nat} (hb : Below B w w') (hB : w.heap.size ≤ B) : QRow w' lo e k v n xs :=
  h.block fun g hg => hb.block g (by have := (h.lt g hg).2; omega)
theorem QRow.only (h : QRow w lo e k v n xs) {l r : Nat} (hb : Only l r w w') (ho : ∀ g, v.ownBlock = some g → g < l ∨ r ≤ g) : QRow w' lo e k v n xs :=
  h.block fun g hg => hb.block g (h.lt g hg).2 (ho g hg)
theorem QRow.alloc (h : QRow w lo e k v n xs) (o : Obj) : QRow (w.alloc o) lo e k v n xs :=
  h.block fun g hg => Below.heap_alloc w o g (h.lt g hg).2
theorem QRow.cell (h : QRow w lo e k v n xs) (hn : 0 < n) : ∃ g o c, v = .slice (some ⟨g, o, none⟩) n c ∧ lo ≤ g ∧ g < w.heap.size ∧ ∀ j u, xs[j]? = some u → w.cell? ⟨g, o + j, none⟩ = some u := by
  have hlt := h.lt
  obtain ⟨hl, hs⟩ := h
  rcases hs with ⟨_, h0⟩ | ⟨g, o, cap, cur, rfl, hg, hh, hnc, hm, hsz, htk⟩
  · omega
  · refine ⟨g, o, cap, rfl, hg, (hlt g rfl).2, fun j u hu => ?_⟩
    rw [cell_of_row w g (o + j) cur e (0, 0) hh]
    have hj : j < n * k := by rw [← hl]; exact (List.getElem?_eq_some_iff.1 hu).1
    rw [← htk, List.getElem?_take, if_pos hj, List.getElem?_drop] at hu
    simpa using hu
/-- v[1:] -/
theorem QRow.tail (h : QRow w lo e k v (n + 1) xs) {A : Option Addr} {c : Nat} (hv : v = .slice A (n + 1) c) : QRow w lo e k (.slice (if c = 1 then A else A.map (·.add k)) n (c - 1)) n (xs.drop k) := by
  obtain ⟨hl, hs⟩ := h
  refine ⟨by rw [List.length_drop, hl, Nat.succ_mul]; omega, ?_⟩
  rcases hs with ⟨_, h0⟩ | ⟨g, o, cap, cur, rfl, hg, hh, hnc, hm, hsz, htk⟩
  · omega
  · injection hv with h1 _ h3
    subst h1 h3
    by_cases hc : cap = 1
    · rw [if_pos hc]
      have hn0 : n = 0 := by omega
      subst hn0
      refine .inr ⟨g, o, _, cur, rfl, hg, hh, by omega, by omega, by subst hc; simp only [Nat.sub_self, Nat.zero_mul]; omega, ?_⟩
      have : xs.drop k = [] := by rw [List.drop_eq_nil_iff, hl]; omega
      rw [this]; simp
    · rw [if_neg hc]
      refine .inr ⟨g, o + k, cap - 1, cur, ?_, hg, hh, by omega, by omega, ?_, ?_⟩
      · simp only [Option.map_some, Addr.add]
        split
        · rename_i h0; subst h0; rfl
        · rfl
      · have : cap = (cap - 1) + 1 := by omega
        rw [this, Nat.succ_mul] at hsz
        omega
      · rw [← htk, List.drop_take, List.drop_drop, Nat.succ_mul]
        congr 1
        omega
end

section
variable {P : Program} (w : World)
theorem run_append_roomQ (t ty e : TypeId) (i : TypeInfo) (ht : P.underlying t = some (.slice e)) (hi : P.info? e = some i)
    (g o sLen sCap : Nat) (cur : Array Value) (hg : w.heap[g]? = some (.cells cur e (0, 0)))
    (a : Addr) (m c : Nat) (news : List Value) (hl : news.length = m * i.size) (hnews : ∀ j u, news[j]? = some u → w.cell? (a.add j) = some u) (h1 : ∀ u ∈ news, u.oneCell' = true)
    (hroom : sLen + m ≤ sCap) (hfit : o + sLen * i.size + news.length ≤ cur.size) :
    (Builtin.append_ #[t, t] ty #[.slice (some ⟨g, o, none⟩) sLen sCap, .slice (some a) m c]).run P w =
      .ok (.slice (some ⟨g, o, none⟩) (sLen + m) sCap) (w.setRow g (cur.toList.take (o + sLen * i.size) ++ news ++ cur.toList.drop (o + sLen * i.size + news.length)).toArray) := by
  have hf := run_firstCells_some (P := P) w i.size m a m c news hl hnews
  have hst := run_storeCells_at P g (o + sLen * i.size) e news 0 cur w hg (by simpa using hfit) h1
  simp only [Nat.add_zero] at hst
  have hadd : (⟨g, o, none⟩ : Addr).add (sLen * i.size) = ⟨g, o + sLen * i.size, none⟩ := by
    unfold Addr.add
    split
    · rename_i h0; rw [h0]; rfl
    · rfl
  simp [Builtin.append_, run_underlying ht, sizeOf, typeInfo, hi, Builtin.lenOf, hroom, hf, hadd, hst]

theorem run_appendQ (base : Nat) (t ty e : TypeId) (i : TypeInfo) (z : Value) (size bytes : Nat) (ht : P.underlying t = some (.slice e)) (hi : P.info? e = some i) (hz : i.zero = some z)
    (hsize : i.size = size) (hby : i.bytes = bytes) (hzs : z.cells.size = size) (hsz : 0 < size)
    (v : Value) (n : Nat) (xs : List Value) (hown : QRow w base e size v n xs)
    (a : Addr) (m c : Nat) (news : List Value) (hm0 : 0 < m) (hl : news.length = m * size) (hnews : ∀ j u, news[j]? = some u → w.cell? (a.add j) = some u) (h1 : ∀ u ∈ news, u.oneCell' = true)
    (h63 : n + m ≤ maxLen) (hbytes : (n + m) * bytes ≤ 140737488355328) (hbase : base ≤ w.heap.size) :
    ∃ v' w', (Builtin.append_ #[t, t] ty #[v, .slice (some a) m c]).run P w = .ok v' w' ∧ QRow w' base e size v' (n + m) (xs ++ news) ∧ w.grownBy w' v.ownBlock ∧ (v'.ownBlock = v.ownBlock ∨ v'.ownBlock = some w.heap.size) := by
  rcases hown.2 with ⟨rfl, rfl⟩ | ⟨g, o, cap, cur, rfl, hbg, hg, hnc, hcm, hcs, htake⟩
  · have hx : xs = [] := List.eq_nil_of_length_eq_zero (by simpa using hown.1)
    subst hx
    obtain ⟨v', w', hr, h2, h3, _, h5⟩ := run_append_own_at (P := P) w base t ty e i z size bytes ht hi hz hsize hby hzs hsz (.slice none 0 0) 0 [] (World.ownsRow_nil w base e size) a m c news hl hnews h1 h63 hbytes hbase
    exact ⟨v', w', hr, QRow.of_own h2, h3, h5⟩
  · subst hsize hby
    have hsmall : n + m ≤ 9223372036854775807 := by simp only [maxLen] at h63; omega
    have hlen : (xs ++ news).length = (n + m) * i.size := by rw [List.length_append, hown.1, hl, Nat.add_mul]
    by_cases hroom : n + m ≤ cap
    · have hfit : o + n * i.size + news.length ≤ cur.size := by
        rw [hl, Nat.add_assoc, ← Nat.add_mul]
        have := Nat.mul_le_mul_right i.size hroom
        omega
      have hr := run_append_roomQ (P := P) w t ty e i ht hi g o n cap cur hg a m c news hl hnews h1 hroom hfit
      refine ⟨_, _, hr, ⟨hlen, .inr ⟨g, o, cap, _, rfl, hbg, setRow_heap w g cur _ e _ hg, hroom, hcm, ?_, ?_⟩⟩, ⟨rfl, rfl, rfl, by simp, fun k _ hk => setRow_other w g k _ (fun e => hk (by simp [Value.ownBlock, e]))⟩, .inl rfl⟩
      · simp only [List.size_toArray, List.length_append, List.length_take, List.length_drop, Array.length_toList]
        omega
      · have h2 : (cur.toList.take (o + n * i.size)).drop o = xs := by rw [List.drop_take, Nat.add_sub_cancel_left]; exact htake
        have hle : o ≤ (cur.toList.take (o + n * i.size)).length := by rw [List.length_take, Array.length_toList]; omega
        rw [List.append_assoc, List.drop_append_of_le_length hle, h2, ← List.append_assoc, ← hlen]
        exact List.take_left
    · have holds : ∀ j u, xs[j]? = some u → w.cell? ((⟨g, o, none⟩ : Addr).add j) = some u := by
        intro j u hu
        have hj : j < n * i.size := by rw [← hown.1]; exact (List.getElem?_eq_some_iff.1 hu).1
        have hadd : (⟨g, o, none⟩ : Addr).add j = ⟨g, o + j, none⟩ := by
          unfold Addr.add
          split
          · rename_i h0; subst h0; rfl
          · rfl
        rw [hadd, cell_of_row w g (o + j) cur e (0, 0) hg]
        rw [← htake, List.getElem?_take, if_pos hj, List.getElem?_drop] at hu
        simpa using hu
      have hr := run_append_grow (P := P) w t ty e i z ht hi hz ⟨g, o, none⟩ n cap xs hown.1 holds a m c news hl hnews (by omega) (by omega) (growslice_fits (by omega) hbytes)
      have hge := grownCap_ge w (n + m) cap e
      have hcm2 : grownCap w (n + m) cap e ≤ maxLen := grownCap_le_maxLen w (n + m) cap e h63
      refine ⟨_, _, hr, ⟨hlen, .inr ⟨w.heap.size, 0, _, _, rfl, hbase, heap_alloc_new w.drew _, hge, hcm2, ?_, ?_⟩⟩, ⟨rfl, rfl, rfl, by simp, fun k hk _ => Below.heap_alloc w.drew _ k hk⟩, .inr rfl⟩
      · simp only [Array.size_append, List.size_toArray, size_zeroCells, hzs, hown.1, hl, ← Nat.add_mul, Nat.zero_add]
        apply Nat.le_of_eq
        congr 1
        omega
      · rw [List.drop_zero, Array.toList_append, Array.toList_append, ← hlen]
        exact List.take_left

/-- append(q, x): the one element was laid in a block of its own first -/
theorem wpList_appendQ1 {w : World} {α : Type} (E : α → List Value) {ops : Array Oper} {rest : List Oper} {o : Oper} {a : Act} {Q : Exit → Act → World → Prop} {t e : TypeId} {z : Value} {k bytes : Nat} (el : ElemOk P t e z k bytes)
    (hgd : o.guard = none) (s y : Operand) (ho : o.op = .call { callee := .builtin .append, args := #[s, y], argTypes := #[t, t] })
    (base : Nat) (v : Value) (xs : List α) (x : α) (cs : Array Value) (c H : Nat) (hs : a.eval s = v) (hown : QRow w base e k v xs.length (xs.flatMap E)) (hy : a.eval y = .slice (some ⟨H, 0, none⟩) 1 c) (hH : H = w.heap.size)
    (hcs : cs = (E x).toArray) (hE : (E x).length = k) (h1 : ∀ u ∈ E x, u.oneCell' = true) (hbytes : (xs.length + 1) * bytes ≤ 140737488355328) (hb0 : 0 < bytes) (hbase : base ≤ w.heap.size)
    (h : ∀ v' w', QRow w' base e k v' (xs ++ [x]).length ((xs ++ [x]).flatMap E) → Below base w w' → (v'.ownBlock = v.ownBlock ∨ ∃ g, v'.ownBlock = some g ∧ w.heap.size ≤ g) → (w.alloc (.cells cs e)).grownBy w' v.ownBlock → wpList P ops Q rest (a.put o.dst v') w') :
    wpList P ops Q (o :: rest) a (w.alloc (.cells cs e)) := by
  subst hcs hH
  obtain ⟨i, hi, hz0, hz1, hz2⟩ := info_parts el.info
  have hlen : xs.length + 1 ≤ 140737488355328 := Nat.le_trans (Nat.le_mul_of_pos_right _ hb0) hbytes
  obtain ⟨v', w', hr, h2, h3, h5⟩ := run_appendQ (P := P) (w.alloc (.cells (E x).toArray e)) base t o.type e i z k bytes el.und hi hz0 hz1 hz2 el.zc el.pos v xs.length (xs.flatMap E) (hown.alloc _) ⟨w.heap.size, 0, none⟩ 1 c (E x) (by omega) (by rw [hE, Nat.one_mul])
    (fun j u hu => by
      have hadd : (⟨w.heap.size, 0, none⟩ : Addr).add j = ⟨w.heap.size, j, none⟩ := by unfold Addr.add; split <;> simp_all
      rw [hadd, World.cell?_alloc_new]
      simpa using hu) h1 (by unfold maxLen; omega) hbytes (by simp; omega)
  refine wpList_plain hgd fun K hK => ?_
  unfold Oper.wp execOp
  simp only [ho, resolve, invoke, builtin, Sem.run_bind, Sem.run_pure, Result.andThen_ok, List.map_toArray, List.map_cons, List.map_nil, hs, hy, hr]
  refine hK _ _ (h v' w' (by simpa using h2) ((((Below.refl base w).alloc hbase _)).trans ((Below.refl _ _).grown h3 (by simp; omega) (fun g hg => (hown.lt g hg).1))) ?_ h3)
  rcases h5 with h5 | h5
  · exact .inl h5
  · exact .inr ⟨_, h5, by simp⟩
end
end Go.Proofs.Ytallglnmeeahiaa

/- The program's spread: breadth first search. -/
namespace Go.Proofs.Ytallglnmeeahiaa
set_option linter.unusedVariables false
set_option linter.unusedSimpArgs false
open Go.ChangeShapes Go.WideShapes Go.ChangeAt Go.RowKit
attribute [local go_sem] ext_cell ext_frozen ext_lt ext_lt1 ext_lt2 ext_lt3 ltn2 ltn3 ltn13 lts1 lts2 lts3

set_option maxHeartbeats 8000000 in
set_option maxRecDepth 100000 in
theorem spread_any (v lv : Value) (N : Nat) (next : Nat → List Nat) (fs : List Nat) (w : World) (hv : SSE 0 w.heap.size w cN 1 v ((List.range N).map next)) (hl : SlE w cN 1 lv fs) (hN1 : 1 ≤ N) (hN : N ≤ 60) (hfl : fs.length ≤ 60) (hfs : ∀ i ∈ fs, i < N)
    (hnext : ∀ i, i < N → ∀ k ∈ next i, k < N) :
    Calls Try.prog 67 #[v, lv] w fun e w' => ∃ v', e = .returned v' ∧ Own w.heap.size w'.heap.size w' 3 cI 1 v' (spreadR N next fs) ∧ Below w.heap.size w w' := by
  obtain ⟨A5, c5, hv5, hl5, hm5⟩ := hv.shape
  have hlen5 : ((List.range N).map next).length = N := by simp
  rw [hlen5] at hv5 hl5
  subst hv5
  obtain ⟨A6, c6, rfl, hl6, hm6, hC6⟩ := hl.form
  have HV := Lib.hid hv
  have HNX := Lib.hid hnext
  have HFS := Lib.hid hfs
  have HC6 := Lib.hid hC6
  clear hv hnext hlen5 hl hC6 hfs
  obtain ⟨R, hR⟩ : ∃ R, R = spreadR N next fs := ⟨_, rfl⟩
  rw [← hR]
  have HR := Lib.hid hR
  clear hR
  have hb0 : Below w.heap.size w (w.alloc (.cells #[.int .i64 (-1)] 3)) := (Below.refl _ _).alloc (Nat.le_refl _) _
  have hone : SlE (w.alloc (.cells #[.int .i64 (-1)] 3)) cI 1 (.slice (some ⟨w.heap.size, 0, none⟩) 1 1) [-1] := by
    have h := Own.of_row (xs := [(-1 : Int)]) (E := cI) (World.ownsRow_lit (base := 0) (e := 3) (size := 1) w #[.int .i64 (-1)] 1 (Nat.zero_le _) (by decide) rfl) rfl rfl
    have h2 := h.sl cI_len
    simpa [SlE] using h2
  have HONE := Lib.hid hone
  clear hone
  go_enter Try.func67, Try.ntmps67
  go_wp2_with fail
  refine (repeat_any _ (-1) N _ hN1 (by omega) HONE.out).mono ?_
  rintro e w2 ⟨g, rfl, hrow, hb2⟩
  have hgl := hrow.lt g rfl
  simp only [World.size_alloc] at hgl
  have hbel := below_trans hb0 hb2
  have HROW := Lib.hid hrow
  clear hrow hb0 hb2
  go_wp2_with fail
  go_loopw [6, 18] (fun qv jj wr => ∃ j : Nat, j ≤ fs.length ∧ jj = .int .i64 (j : Int) ∧ wr.ownsRow w.heap.size 3 1 (.slice (some ⟨g, 0, none⟩) N N) N ((srcD N (fs.take j)).flatMap cI) ∧
    QRow wr w2.heap.size 3 1 qv (fs.take j).length ((fs.take j).flatMap cN) ∧ Below w.heap.size w wr ∧ w2.heap.size ≤ wr.heap.size) (fun _ jj _ => fs.length - (intOf jj).toNat)
  case atStart =>
    refine ⟨0, Nat.zero_le _, rfl, ?_, QRow.of_own (World.ownsRow_lit w2 #[] 0 (Nat.le_refl _) (by decide) rfl), hbel.alloc hbel.size _, by simp⟩
    exact ownsRow_mono ((ownsRow_below' HROW.out ((Below.refl w2.heap.size w2).alloc (Nat.le_refl _) _) (by omega))) (by simp)
  case round =>
    clear hbel
    obtain ⟨j, hj, rfl, hrow, hq, hbel, hsz⟩ := hrel
    have HROW := Lib.hid hrow
    have HQ := Lib.hid hq
    clear hrow hq
    by_cases hlt : j < fs.length
    · have hki : fs[j]? = some fs[j] := List.getElem?_eq_getElem hlt
      have hkn := HFS.out _ (List.getElem_mem hlt)
      generalize fs[j] = k at hki hkn
      obtain ⟨b6, o6, rfl, hb6, d6⟩ := HC6.out.nat hki
      have d6 := (hbel.cell (p := ⟨b6, o6 + j, none⟩) hb6).trans d6
      have hkc := (World.ownsRow.cellAt HROW.out k (by omega)).trans (flatI_at (getD_of (by rw [srcD_len]; exact hkn)))
      have hkf := World.ownsRow.frozenAt HROW.out k
      have hrow2 := (World.ownsRow.stored HROW.out k (.int .i64 0)).1
      rw [flatI_set, ← srcD_snoc, ← take_snoc hki] at hrow2
      have hq2 := HQ.out.only ((Only.refl g (g + 1) wr).setCell (p := ⟨g, k, none⟩) (.inl ⟨Nat.le_refl _, Nat.lt_succ_self _⟩) (.int .i64 0)) (fun b hb => .inr (by have := (HQ.out.lt b hb).1; omega))
      have hbel2 := hbel.setCell (p := ⟨g, k, none⟩) (show w.heap.size ≤ g by omega) (.int .i64 0)
      have HR2 := Lib.hid hrow2
      have HQ2 := Lib.hid hq2
      have HKI := Lib.hid hki
      have htl : (fs.take j).length ≤ 60 := by rw [List.length_take]; omega
      have hkN : (k : Int) < (N : Int) := by omega
      clear hrow2 hq2 hki
      go_wp2_with (at_builtin; (refine wpList_appendQ1 cN elInt rfl _ _ rfl w2.heap.size _ (fs.take j) k _ 1 wr.heap.size (by rfl) HQ2.out (by rfl) (by simp) rfl rfl (cN_one _) (by omega) (by omega) (by simpa using hsz) ?_); rw [← take_snoc HKI.out]; intro v' w4 hq3 hb3 _ _)
      go_roundw
      case rel => exact ⟨j + 1, by omega, by go_num, ownsRow_below' HR2.out hb3 (by omega), hq3, hbel2.trans (hb3.mono (by omega)), by have := hb3.size; simp at this; omega⟩
      case measure => simp [intOf]; omega
    · obtain rfl : j = fs.length := by omega
      rw [List.take_length] at HROW HQ
      obtain ⟨F, hF⟩ : ∃ F, F = fs.length + N := ⟨_, rfl⟩
      have hF2 : F ≤ 120 := by omega
      have hini := srcD_bfsI HFS.out
      rw [← hF] at hini
      have hRF : bfs next F (srcD N fs) fs = R := by rw [HR.out, spreadR, hF]
      have HINI := Lib.hid hini
      have HRF := Lib.hid hRF
      clear hF hini hRF
      go_wp2_with fail
      go_loopg [6] F (fun k qv wr => ∃ (D : List Int) (q : List Nat), BfsI N F k D q ∧ bfs next k D q = R ∧ wr.ownsRow w.heap.size 3 1 (.slice (some ⟨g, 0, none⟩) N N) N (D.flatMap cI) ∧
        QRow wr w2.heap.size 3 1 qv q.length (q.flatMap cN) ∧ Below w.heap.size w wr ∧ w2.heap.size ≤ wr.heap.size)
      case atStart => exact ⟨_, _, HINI.out, HRF.out, HROW.out, HQ.out, hbel, hsz⟩
      case round =>
        clear HROW HQ hbel hsz
        obtain ⟨D, q, hI, hB, hrow, hq, hbel, hsz⟩ := hrel
        have HI := Lib.hid hI
        have HB := Lib.hid hB
        have HROW := Lib.hid hrow
        have HQ := Lib.hid hq
        clear hI hB hrow hq
        cases q with
        | nil =>
          have hfin : D = R := by rw [← HB.out, bfs_nil]
          obtain ⟨A4, c4, rfl, hc4, hc5⟩ := HQ.out.shape
          have HF := Lib.hid hfin
          have hown : Own w.heap.size wr.heap.size wr 3 cI 1 (.slice (some ⟨g, 0, none⟩) N N) D := Own.of_row HROW.out HI.out.len rfl
          have HO := Lib.hid hown
          clear hfin hown
          simp only [List.length_nil] at *
          go_wp2_with fail
          go_ret
          exact ⟨_, rfl, by rw [← HF.out]; exact HO.out, hbel⟩
        | cons h q =>
          obtain ⟨f, rfl⟩ : ∃ f, gk = f + 1 := ⟨gk - 1, by have := HI.out.fuel; rw [List.length_cons] at this; omega⟩
          obtain ⟨hhN, hh0⟩ := HI.out.queue h (by simp)
          obtain ⟨b5, o5, A7, c7, rfl, -, hb5, d5, hl7, hm7, hI7, -⟩ := HV.out.row (Nat.le_refl _) (i := h) (xs := next h) (by simp [hhN])
          have d5 := (hbel.cell (p := ⟨b5, o5 + h, none⟩) hb5).trans d5
          have hb5w := Nat.lt_of_lt_of_le hb5 hbel.size
          obtain ⟨gq, oq, cq, rfl, hgq1, hgq2, hqc⟩ := HQ.out.cell (by simp)
          have dq := hqc 0 _ rfl
          simp only [Nat.add_zero] at dq
          have HI7 := Lib.hid hI7
          have hhx : (h : Int) < (N : Int) := by omega
          clear hqc hI7
          have hlc : (h :: q).length = q.length + 1 := rfl
          rw [hlc] at HQ ⊢
          clear hlc
          go_wp2_with fail
          have htop := HI.out.top h
          have hpop := HI.out.pop
          obtain ⟨dd, hdd⟩ : ∃ dd, dd = D.getD h 0 := ⟨_, rfl⟩
          rw [← hdd] at htop hh0
          have HDD := Lib.hid hdd
          have HPOP := Lib.hid hpop
          clear hdd hpop
          go_loopw [6, 42] (fun qv jj wr => ∃ (j : Nat) (D' : List Int) (q' : List Nat), j ≤ (next h).length ∧ jj = .int .i64 (j : Int) ∧ BfsI N F f D' q' ∧ D'.getD h 0 = dd ∧ relax (dd + 1) ((next h).drop j) D' q' = relax (dd + 1) (next h) D q ∧
            wr.ownsRow w.heap.size 3 1 (.slice (some ⟨g, 0, none⟩) N N) N (D'.flatMap cI) ∧ QRow wr w2.heap.size 3 1 qv (q'.length + 1) ((h :: q').flatMap cN) ∧ Below w.heap.size w wr ∧ w2.heap.size ≤ wr.heap.size) (fun _ jj _ => (next h).length - (intOf jj).toNat)
          case atStart => exact ⟨0, D, q, Nat.zero_le _, rfl, HPOP.out, HDD.out.symm, by rw [List.drop_zero], HROW.out, HQ.out, hbel, hsz⟩
          case round =>
            clear d5 dq hb5w hgq1 hgq2 HROW HQ hbel hsz
            obtain ⟨j, D', q', hj, rfl, hI2, hDh, hrx, hrow, hq, hbel, hsz⟩ := hrel
            have HI2 := Lib.hid hI2
            have HDH := Lib.hid hDh
            have HRX := Lib.hid hrx
            have HROW := Lib.hid hrow
            have HQ := Lib.hid hq
            clear hI2 hDh hrx hrow hq
            by_cases hlt : j < (next h).length
            · have hki : (next h)[j]? = some (next h)[j] := List.getElem?_eq_getElem hlt
              have hdr : (next h).drop j = (next h)[j] :: (next h).drop (j + 1) := List.drop_eq_getElem_cons hlt
              have hkn := HNX.out h hhN _ (List.getElem_mem hlt)
              generalize (next h)[j] = k at hki hkn hdr
              obtain ⟨b7, o7, rfl, -, hb7, d7⟩ := HI7.out.nat hki
              have d7 := (hbel.cell (p := ⟨b7, o7 + j, none⟩) hb7).trans d7
              have hb7w := Nat.lt_of_lt_of_le hb7 hbel.size
              have hkl : k < D'.length := by rw [HI2.out.len]; exact hkn
              have hhl : h < D'.length := by rw [HI2.out.len]; exact hhN
              have hkc := (World.ownsRow.cellAt HROW.out k (by omega)).trans (flatI_at (getD_of hkl))
              have hkf := World.ownsRow.frozenAt HROW.out k
              have hkN : (k : Int) < (N : Int) := by omega
              have hgw := (HROW.out.lt g rfl).2
              have HDR := Lib.hid hdr
              clear hki hdr
              by_cases hneg : D'.getD k 0 < 0
              · have hhc := (World.ownsRow.cellAt HROW.out h (by omega)).trans (flatI_at (getD_of hhl))
                rw [HDH.out] at hhc
                have hnew := HI2.out.new hkn hneg (d := dd + 1) (by omega) (by omega)
                have hrow2 := (World.ownsRow.stored HROW.out k (.int .i64 (dd + 1))).1
                rw [flatI_set] at hrow2
                have hq2 := HQ.out.only ((Only.refl g (g + 1) wr).setCell (p := ⟨g, k, none⟩) (.inl ⟨Nat.le_refl _, Nat.lt_succ_self _⟩) (.int .i64 (dd + 1))) (fun b hb => .inr (by have := (HQ.out.lt b hb).1; omega))
                have hbel2 := hbel.setCell (p := ⟨g, k, none⟩) (show w.heap.size ≤ g by omega) (.int .i64 (dd + 1))
                obtain ⟨gq, oq, cq, rfl, hgq1, hgq2, hqc⟩ := HQ.out.cell (by simp)
                have dq := hqc 0 _ rfl
                simp only [Nat.add_zero] at dq
                have hrx2 : relax (dd + 1) ((next h).drop (j + 1)) (D'.set k (dd + 1)) (q' ++ [k]) = relax (dd + 1) (next h) D q := by rw [← HRX.out, HDR.out, relax_mid _ _ _ _ _ hneg]
                have hDh2 : (D'.set k (dd + 1)).getD h 0 = dd := by
                  rw [getD_set' hkl, if_neg (by intro e; subst e; rw [HDH.out] at hneg; omega)]; exact HDH.out
                have hql : q'.length ≤ 200 := by have := HI2.out.fuel; omega
                have HNEW := Lib.hid hnew
                have HR2 := Lib.hid hrow2
                have HQ2 := Lib.hid hq2
                have HRX2 := Lib.hid hrx2
                have HDH2 := Lib.hid hDh2
                generalize D'.getD k 0 = x at hkc hneg
                have hgq9 : g ≠ gq := by omega
                clear hnew hrow2 hq2 hrx2 hDh2 hqc
                go_wp2_with (at_builtin; (refine wpList_appendQ1 cN elInt rfl _ _ rfl w2.heap.size (.slice (some ⟨gq, oq, none⟩) (q'.length + 1) cq) (h :: q') k _ 1 wr.heap.size (by rfl) HQ2.out (by rfl) (by simp) rfl rfl (cN_one _) (by simp only [List.length_cons]; omega) (by omega) (by simpa using hsz) ?_); intro v' w4 hq3 hb3 _ _)
                go_roundw
                case rel => exact ⟨j + 1, _, _, by omega, by go_num, HNEW.out, HDH2.out, HRX2.out, ownsRow_below' HR2.out hb3 (by omega), by simpa using hq3, hbel2.trans (hb3.mono (by omega)), by have := hb3.size; simp at this; omega⟩
                case measure => simp [intOf]; omega
              · have hrx2 : relax (dd + 1) ((next h).drop (j + 1)) D' q' = relax (dd + 1) (next h) D q := by rw [← HRX.out, HDR.out, relax_old _ _ _ _ _ hneg]
                have HRX2 := Lib.hid hrx2
                generalize D'.getD k 0 = x at hkc hneg
                clear hrx2
                go_wp2_with fail
                go_roundw
                case rel => exact ⟨j + 1, _, _, by omega, by go_num, HI2.out, HDH.out, HRX2.out, HROW.out, HQ.out, hbel, hsz⟩
                case measure => simp [intOf]; omega
            · obtain rfl : j = (next h).length := by omega
              have hrx2 := HRX.out
              rw [List.drop_length, relax] at hrx2
              have hBF : bfs next f D' q' = R := by
                rw [← HB.out, bfs, ← HDD.out, ← hrx2]
              obtain ⟨A9, c9, h9, hc8, hc9⟩ := HQ.out.shape
              obtain ⟨g5, o5, c5, rfl, -, -, -⟩ := HQ.out.cell (by omega)
              obtain rfl : c5 = c9 := by injection h9
              have htail := HQ.out.tail rfl
              simp only [List.flatMap_cons, cN, List.cons_append, List.nil_append, List.drop_succ_cons, List.drop_zero] at htail
              unfold maxLen at hc9
              have HBF := Lib.hid hBF
              clear hrx2 hBF h9
              by_cases hc1 : c5 = 1
              · subst hc1
                obtain rfl : q' = [] := List.eq_nil_of_length_eq_zero (by omega)
                rw [if_pos rfl] at htail
                simp only [List.length_nil] at *
                have HT := Lib.hid htail
                clear htail
                go_wp2_with fail
                go_roundg f
                case measure => exact Nat.lt_succ_self _
                case rel => exact ⟨_, _, HI2.out, HBF.out, HROW.out, HT.out, hbel, hsz⟩
              · rw [if_neg hc1] at htail
                have HT := Lib.hid htail
                clear htail
                go_wp2_with fail
                go_roundg f
                case measure => exact Nat.lt_succ_self _
                case rel => exact ⟨_, _, HI2.out, HBF.out, HROW.out, HT.out, hbel, hsz⟩
end Go.Proofs.Ytallglnmeeahiaa

/- The program's goals: the vertices of a node that accept. -/
namespace Go.Proofs.Ytallglnmeeahiaa
set_option linter.unusedVariables false
set_option linter.unusedSimpArgs false
open Go.ChangeShapes Go.WideShapes Go.ChangeAt Go.RowKit
attribute [local go_sem] ext_cell ext_frozen ext_lt ext_lt1 ext_lt2 ext_lt3 ltn2 ltn3 ltn13 lts1 lts2 lts3

end Go.Proofs.Ytallglnmeeahiaa

/- The program's DistancesTo and ShortestLength. -/
namespace Go.Proofs.Ytallglnmeeahiaa
set_option linter.unusedVariables false
set_option linter.unusedSimpArgs false
open Go.ChangeShapes Go.WideShapes Go.ChangeAt Go.RowKit
attribute [local go_sem] ext_cell ext_frozen ext_lt ext_lt1 ext_lt2 ext_lt3 ltn2 ltn3 ltn13 lts1 lts2 lts3

/-- a literal of ints, laid in a block of its own -/
theorem lit_sl (w : World) (e : TypeId) (xs : List Int) (hm : xs.length ≤ maxLen) : SlE (w.alloc (.cells (xs.map (Value.int .i64)).toArray e)) cI 1 (.slice (some ⟨w.heap.size, 0, none⟩) xs.length xs.length) xs := by
  have h1 : xs.flatMap cI = (xs.map (Value.int .i64)) := by
    induction xs with
    | nil => rfl
    | cons x xs ih => rw [List.flatMap_cons, List.map_cons, ih (by simp at hm; omega)]; rfl
  have h := Own.of_row (xs := xs) (E := cI) (World.ownsRow_lit (base := 0) (e := e) (size := 1) w (xs.map (Value.int .i64)).toArray xs.length (Nat.zero_le _) hm (by simp)) rfl (by simp [h1])
  exact (h.sl cI_len).all (Nat.le_refl _)
end Go.Proofs.Ytallglnmeeahiaa

/- The program's ProductSteps is prodL. -/
namespace Go.Proofs.Ytallglnmeeahiaa
set_option linter.unusedVariables false
set_option linter.unusedSimpArgs false
open Go.ChangeShapes Go.WideShapes Go.ChangeAt Go.RowKit
attribute [local go_sem] ext_cell ext_frozen ext_lt ext_lt1 ext_lt2 ext_lt3 ltn2 ltn3 ltn13 lts1 lts2 lts3
set_option maxHeartbeats 8000000 in
set_option maxRecDepth 100000 in
theorem implProductSteps (vg va : Value) (g : Gr) (a : Au) (x s : Int) (w : World) (hgv : GrV 0 w.heap.size w vg g) (hav : AuV 0 w.heap.size w va a) :
    Calls Try.prog 24 #[vg, va, .int .i64 x, .int .i64 s] w fun e w' => ∃ v', e = .returned v' ∧ Own w.heap.size w'.heap.size w' 56 cPS 4 v' (prodL g a x s) ∧ Below w.heap.size w w' := by
  have hgv0 := hgv
  have hav0 := hav
  obtain ⟨A1, c1, A2, c2, rfl, hl1, hm1, hl2, hm2, hC1, -⟩ := hgv.form
  obtain ⟨ac, nx, rfl, hac, hnx⟩ := hav
  obtain ⟨A3, c3, rfl, -, -, -⟩ := SlE.form hac
  obtain ⟨A4, n4, c4, rfl⟩ := hnx.shape
  obtain ⟨R, hR⟩ : ∃ R, R = prodL g a x s := ⟨_, rfl⟩
  rw [← hR]
  have HR := Lib.hid hR
  clear hR
  have hb0 : Below w.heap.size w ((w.alloc (.cells #[.slice A1 g.vals.length c1, .slice A2 g.edges.length c2] 38)).alloc (.cells #[.int .i64 a.start, .slice A3 a.accept.length c3, .slice A4 n4 c4] 27)) := ((Below.refl _ _).alloc (Nat.le_refl _) _).alloc (by simp) _
  have hb1 := hb0.alloc hb0.size (.cells #[.int .i64 x] 3)
  have hst : SlE (((w.alloc (.cells #[.slice A1 g.vals.length c1, .slice A2 g.edges.length c2] 38)).alloc (.cells #[.int .i64 a.start, .slice A3 a.accept.length c3, .slice A4 n4 c4] 27)).alloc (.cells #[.int .i64 x] 3)) cI 1 (.slice (some ⟨w.heap.size + 1 + 1, 0, none⟩) 1 1) [x] := by
    have h := lit_sl ((w.alloc (.cells #[.slice A1 g.vals.length c1, .slice A2 g.edges.length c2] 38)).alloc (.cells #[.int .i64 a.start, .slice A3 a.accept.length c3, .slice A4 n4 c4] 27)) 3 [x] (by unfold maxLen; simp)
    simpa using h
  have hbo := bothOk_any _ _ _ g a [x] _ (hgv0.keep hb1) (hav0.keep hb1) hst
  have hall1 : [x].all (fun s => wi s 0 ((g.vals.length : Int) - 1)) = wi x 0 ((g.vals.length : Int) - 1) := by simp
  rw [hall1] at hbo
  have HBO := Lib.hid hbo
  have HGV := Lib.hid hgv0
  have HAV := Lib.hid hav0
  have HC1 := Lib.hid hC1
  clear hgv hac hnx hgv0 hav0 hbo hst hall1 hC1
  go_enter Try.func24, Try.ntmps24
  go_wp2_with fail
  refine HBO.out.mono ?_
  rintro e w1 ⟨rfl, hb2⟩
  have hb3 := below_trans hb1 hb2
  have b0 := (((Blk.new w 38 #[.slice A1 g.vals.length c1, .slice A2 g.edges.length c2] w.heap.size rfl).alloc (.cells #[.int .i64 a.start, .slice A3 a.accept.length c3, .slice A4 n4 c4] 27)).alloc (.cells #[.int .i64 x] 3)).keep hb2
  have b1 := ((Blk.new (w.alloc (.cells #[.slice A1 g.vals.length c1, .slice A2 g.edges.length c2] 38)) 27 #[.int .i64 a.start, .slice A3 a.accept.length c3, .slice A4 n4 c4] (w.heap.size + 1) (by simp)).alloc (.cells #[.int .i64 x] 3)).keep hb2
  have x0 : w1.cell? ⟨w.heap.size, 0, none⟩ = some (.slice A1 g.vals.length c1) := by exact b0.cell 0
  have x1 : w1.cell? ⟨w.heap.size, 1, none⟩ = some (.slice A2 g.edges.length c2) := by exact b0.cell 1
  have y0 : w1.cell? ⟨w.heap.size + 1, 0, none⟩ = some (.int .i64 a.start) := by exact b1.cell 0
  have y1 : w1.cell? ⟨w.heap.size + 1, 1, none⟩ = some (.slice A3 a.accept.length c3) := by exact b1.cell 1
  have y2 : w1.cell? ⟨w.heap.size + 1, 2, none⟩ = some (.slice A4 n4 c4) := by exact b1.cell 2
  have l0 := b1.lt
  clear hb0 hb1 hb2 b0 b1 HBO
  cases hk : (wi x 0 ((g.vals.length : Int) - 1) && (grOk g && auOk a)) with
  | false =>
    have HR0 := Lib.hid (HR.out.trans (prodL_no (by rw [hk]; rfl)))
    clear HR
    go_wp2_with fail
    go_ret
    exact ⟨_, rfl, by rw [HR0.out]; exact Own.nil _ _ _ _ _ _, hb3⟩
  | true =>
    go_wp2_with fail
    refine (hasState_any _ a s _ (HAV.out.keep hb3)).mono ?_
    rintro e w2 ⟨rfl, hb4⟩
    have hb5 := below_trans hb3 hb4
    have x0 := kcell hb4 x0
    have x1 := kcell hb4 x1
    have y0 := kcell hb4 y0
    have y1 := kcell hb4 y1
    have y2 := kcell hb4 y2
    have l0 : w.heap.size + 1 < w2.heap.size := Nat.lt_of_lt_of_le l0 hb4.size
    clear hb4
    cases hh : hasSt a s with
    | false =>
      have HR0 := Lib.hid (HR.out.trans (prodL_no (by rw [hk, hh]; rfl)))
      clear HR
      go_wp2_with fail
      go_ret
      exact ⟨_, rfl, by rw [HR0.out]; exact Own.nil _ _ _ _ _ _, hb5⟩
    | true =>
      have HR0 := Lib.hid (HR.out.trans (prodL_yes (by rw [hk, hh]; rfl)))
      simp only [Bool.and_eq_true, wi_iff] at hk
      rw [hasSt, Bool.and_eq_true, wi_iff] at hh
      obtain ⟨⟨hx0, hx1⟩, hgo, hao⟩ := hk
      obtain ⟨⟨hs0, hs1⟩, -⟩ := hh
      obtain ⟨x, rfl⟩ := Int.eq_ofNat_of_zero_le hx0
      obtain ⟨s, rfl⟩ := Int.eq_ofNat_of_zero_le hs0
      have hgo2 := grOk_iff.1 hgo
      have hlt : x < g.vals.length := by omega
      have hlts : s < a.accept.length := by omega
      have hn5 := hgo2.n5
      have hn12 := (auOk_iff.1 hao).1.2
      have hs12 : s < 12 := by omega
      have HGO := Lib.hid hgo2
      have HAO := Lib.hid hao
      have hxl : (x : Int) < (g.vals.length : Int) := by omega
      have hxi : g.vals[x]? = some g.vals[x] := List.getElem?_eq_getElem hlt
      have hvr := hgo2.vals _ (List.getElem_mem hlt)
      generalize g.vals[x] = vx at hxi hvr
      obtain ⟨vx, rfl⟩ := Int.eq_ofNat_of_zero_le hvr.1
      have hva := valAt_of hxi
      rw [Int.toNat_natCast] at hva
      obtain ⟨b1, o1, rfl, hbb1, dv⟩ := HC1.out.int hxi
      have dv := kcell hb5 dv
      have hAL := arcs_len HGO.out (x : Int)
      have HVA := Lib.hid hva
      have hR1 := HR0.out
      simp only [Int.toNat_natCast] at hR1
      have HR1 := Lib.hid hR1
      clear HR HR0 hR1 hgo hgo2 hao hva hxi hx0 hx1 hs0 hs1
      have hrow0 := World.ownsRow_lit (base := w2.heap.size) (e := 56) (size := 4) w2 #[] 0 (Nat.le_refl _) (by decide) rfl
      have hal := (Below.refl w2.heap.size w2).alloc (Nat.le_refl _) (.cells #[] 56)
      have HROW := Lib.hid hrow0
      have hb6 := below_trans hb5 hal
      have x0 := kcell hal x0
      have x1 := kcell hal x1
      have y0 := kcell hal y0
      have y1 := kcell hal y1
      have y2 := kcell hal y2
      have dv := kcell hal dv
      clear hrow0 hb5 hal
      go_wp2_with fail
      obtain ⟨gO, hgO⟩ : ∃ gO, gO = w2.heap.size := ⟨_, rfl⟩
      have hgO2 : gO < (w2.alloc (.cells #[] 56)).heap.size := by rw [hgO]; simp
      rw [← hgO] at HROW l0 ⊢
      generalize (w2.alloc (.cells #[] 56)) = WL at *
      clear hgO
      refine (arcs_any _ g _ (HGV.out.keep hb6) HGO.out).mono ?_
      rintro e w3 ⟨v2, rfl, hsse, hb7⟩
      have x0 := kcell hb7 x0
      have x1 := kcell hb7 x1
      have y0 := kcell hb7 y0
      have y1 := kcell hb7 y1
      have y2 := kcell hb7 y2
      have dv := kcell hb7 dv
      have hbw := below_trans hb6 hb7
      have hrow3 := ownsRow_below HROW.out hb7 (Nat.le_refl _)
      have HROW := Lib.hid hrow3
      have hgO3 : gO < w3.heap.size := Nat.lt_of_lt_of_le hgO2 hb7.size
      have hgOL : gO < WL.heap.size := hgO2
      have hW3 := hb7.size
      obtain ⟨A5, c5, hv5, hl5, hm5⟩ := hsse.shape
      have hlen5 : ((List.range g.vals.length).map fun (x : Nat) => arcsOf g (x : Int)).length = g.vals.length := by simp
      rw [hlen5] at hv5 hl5
      subst hv5
      obtain ⟨b5, o5, A6, c6, rfl, hlo5, hb5, d5, hl6, hm6, hI6, -⟩ := hsse.row (Nat.le_refl _) (i := x) (xs := arcsOf g (x : Int)) (by simp [hlt])
      have HI6 := Lib.hid hI6
      clear hsse hrow3 hb6 hb7 hlen5 hI6
      go_wp2_with fail
      clear d5
      go_loopw [9, 33] (fun out jj wr => ∃ j : Nat, j ≤ (arcsOf g (x : Int)).length ∧ jj = .int .i64 (j : Int) ∧ wr.ownsRow gO 56 4 out (((arcsOf g (x : Int)).take j).flatMap (psA g a x s)).length ((((arcsOf g (x : Int)).take j).flatMap (psA g a x s)).flatMap cPS) ∧
        Only gO (gO + 1) w3 wr ∧ (∀ b, out.ownBlock = some b → b = gO ∨ w3.heap.size ≤ b)) (fun _ jj _ => (arcsOf g (x : Int)).length - (intOf jj).toNat)
      case atStart => exact ⟨0, Nat.zero_le _, rfl, by simpa using HROW.out, Only.refl _ _ _, fun b hb => by injection hb with hb; exact .inl hb.symm⟩
      case round =>
        clear HROW
        obtain ⟨j, hj, rfl, hrow, hon, hout⟩ := hrel
        have HROW := Lib.hid hrow
        have HOUT := Lib.hid hout
        clear hrow hout
        by_cases hlt3 : j < (arcsOf g (x : Int)).length
        · have hyj : (arcsOf g (x : Int))[j]? = some (arcsOf g (x : Int))[j] := List.getElem?_eq_getElem hlt3
          have hyr := arc_range HGO.out (List.getElem_mem hlt3)
          generalize (arcsOf g (x : Int))[j] = y at hyj hyr
          obtain ⟨⟨yid, yinv⟩, yl, yt⟩ := y
          simp only at hyr
          obtain ⟨⟨hyl0, hyl5⟩, hyt0, hyt1⟩ := hyr
          obtain ⟨yl, rfl⟩ := Int.eq_ofNat_of_zero_le hyl0
          obtain ⟨b6, o6, rfl, hlo6, hb6, z0, z1, z2, z3⟩ := HI6.out.arc hyj
          have z0 := ocell hon z0 hb6 (.inr (by omega))
          have z1 := ocell hon z1 hb6 (.inr (by omega))
          have z2 := ocell hon z2 hb6 (.inr (by omega))
          have z3 := ocell hon z3 hb6 (.inr (by omega))
          have HYJ := Lib.hid hyj
          clear hyj
          go_wp2_with fail
          have e0 : (wr.alloc (.cells #[.int .i64 yid, .bool yinv, .int .i64 (yl : Int), .int .i64 yt] 85)).cell? ⟨wr.heap.size, 0, none⟩ = some (.int .i64 yid) := by simp
          have e1 : (wr.alloc (.cells #[.int .i64 yid, .bool yinv, .int .i64 (yl : Int), .int .i64 yt] 85)).cell? ⟨wr.heap.size, 1, none⟩ = some (.bool yinv) := by simp
          have e2 : (wr.alloc (.cells #[.int .i64 yid, .bool yinv, .int .i64 (yl : Int), .int .i64 yt] 85)).cell? ⟨wr.heap.size, 2, none⟩ = some (.int .i64 (yl : Int)) := by simp
          have e3 : (wr.alloc (.cells #[.int .i64 yid, .bool yinv, .int .i64 (yl : Int), .int .i64 yt] 85)).cell? ⟨wr.heap.size, 3, none⟩ = some (.int .i64 yt) := by simp
          generalize hW : (wr.alloc (.cells #[.int .i64 yid, .bool yinv, .int .i64 (yl : Int), .int .i64 yt] 85)) = wE at e0 e1 e2 e3 ⊢
          have hbE : Below wr.heap.size wr wE := by rw [← hW]; exact (Below.refl _ _).alloc (Nat.le_refl _) _
          have hsE : wr.heap.size < wE.heap.size := by rw [← hW]; simp
          have hsW := hon.size
          have yE0 := kcell hbE (ocell hon y0 (by omega) (.inl (by omega)))
          have yE1 := kcell hbE (ocell hon y1 (by omega) (.inl (by omega)))
          have yE2 := kcell hbE (ocell hon y2 (by omega) (.inl (by omega)))
          have xE0 := kcell hbE (ocell hon x0 (by omega) (.inl (by omega)))
          have dE := kcell hbE (ocell hon dv (by omega) (.inl (by omega)))
          have hbwE : Below w.heap.size w wE := below_trans (hbw.trans (hon.below (by omega) hbw.size)) hbE
          have HRE := Lib.hid (ownsRow_below HROW.out hbE (Nat.le_refl _))
          have HBWE := Lib.hid hbwE
          have HLTO := Lib.hid (fun b hb => (HROW.out.lt b hb).2)
          have hfl := aft_lt HAO.out (bit s) vx yl
          have hfl4 := lt12 HAO.out hfl
          have s1 := shl_bit (s := s) (by omega)
          have s2 := shl_bit2 (s := s) (by omega)
          have s3 := shl_bit3 (s := s) (by omega)
          have HFL := Lib.hid hfl
          clear hW z0 z1 z2 z3 HROW hbwE hfl
          go_region_held3 (fun w' => w'.cell? ⟨w.heap.size + 1, 0, none⟩ = some (.int .i64 a.start) ∧ w'.cell? ⟨w.heap.size + 1, 1, none⟩ = some (.slice A3 a.accept.length c3) ∧ w'.cell? ⟨w.heap.size + 1, 2, none⟩ = some (.slice A4 n4 c4) ∧ w'.cell? ⟨w.heap.size, 0, none⟩ = some (.slice (some ⟨b1, o1, none⟩) g.vals.length c1) ∧ w'.cell? ⟨b1, o1 + x, none⟩ = some (.int .i64 (vx : Int)) ∧ w'.cell? ⟨wr.heap.size, 2, none⟩ = some (.int .i64 (yl : Int)))
            (first | (exact ⟨yE0, yE1, yE2, xE0, dE, e2⟩) | (exact kB6 hbA (by assumption)) | (exact kB6 hbM (by assumption)))
            (first | (go_at_call 61; refine (after_any _ a (bit s) vx yl _ (AuV.keep (w' := wE.drew) HAV.out HBWE.out.drew) HAO.out (bit_lt hlts) (by omega) (by omega)).mono ?_; rintro e wA ⟨rfl, hbA⟩) | (go_at_call 60; refine (members_any (aft a (bit s) vx yl) _ hfl4).mono ?_; rintro e wM ⟨vM, rfl, hoM, hbM⟩; obtain ⟨A7, c7, rfl, hl7, hm7, -⟩ := hoM.form cN_len))
          have hbX : Below wE.heap.size wE wM := below_trans (below_trans (Below.refl wE.heap.size wE).drew hbA) hbM
          have hoI := hoM.sl cN_len
          rename_i hh
          have f0 := kcell hbX e0
          have f1 := kcell hbX e1
          have f2 := kcell hbX e2
          have f3 := kcell hbX e3
          have hsM := hbX.size
          have hmA : wE.heap.size ≤ wA.heap.size := hbA.size
          have HRM := Lib.hid (ownsRow_below HRE.out hbX (Nat.le_refl _))
          have HONM := Lib.hid (((hon.trans (Only.of_below hbE gO (gO + 1))).trans (Only.of_below hbX gO (gO + 1))))
          have HOI := Lib.hid (hoI.mono hmA (Nat.le_refl _))
          have hml7 := mem_len 12 (aft a (bit s) vx yl)
          have HNA := Lib.hid (show psA g a x s ((yid, yinv), (yl : Int), yt) = (mem 12 (aft a (bit s) vx yl)).map fun (t : Nat) => (((yid, yinv), yt, (t : Int)) : PS) by rw [psA, HVA.out]; simp)
          obtain ⟨ms, hms⟩ : ∃ ms, ms = mem 12 (aft a (bit s) vx yl) := ⟨_, rfl⟩
          rw [← hms] at HOI HNA hml7 hl7
          obtain ⟨cur, hcur⟩ : ∃ cur, cur = ((arcsOf g (x : Int)).take j).flatMap (psA g a x s) := ⟨_, rfl⟩
          have hcl : cur.length ≤ 288 := by
            have h2 := flat_len (psA_len g a x s) ((arcsOf g (x : Int)).take j)
            rw [List.length_take] at h2
            rw [hcur]; omega
          rw [← hcur] at HRM
          have HCUR := Lib.hid hcur
          rw [← hms]
          have hgr := hon.size
          clear hbA hbM hoM hh hoI hbX hon hbE HRE HBWE yE0 yE1 yE2 xE0 dE e0 e1 e2 e3 s1 s2 s3 hms hcur hfl4
          go_wp2_with fail
          obtain ⟨wo, rfl⟩ : ∃ wo : World, wo = wr := ⟨_, rfl⟩
          go_loopw [9, 50] (fun out kk w' => ∃ k : Nat, k ≤ ms.length ∧ kk = .int .i64 (k : Int) ∧ w'.ownsRow gO 56 4 out (cur ++ (ms.take k).map (fun (t : Nat) => (((yid, yinv), yt, (t : Int)) : PS))).length ((cur ++ (ms.take k).map (fun (t : Nat) => (((yid, yinv), yt, (t : Int)) : PS))).flatMap cPS) ∧ Only gO (gO + 1) w3 w' ∧ Only 0 wo.heap.size wM w' ∧
              (∀ b, out.ownBlock = some b → b = gO ∨ w3.heap.size ≤ b) ∧ (∀ b, out.ownBlock = some b → b < wo.heap.size ∨ wM.heap.size ≤ b)) (fun _ kk _ => ms.length - (intOf kk).toNat)
          case atStart => exact ⟨0, Nat.zero_le _, rfl, by simpa using HRM.out, HONM.out, Only.refl _ _ _, HOUT.out, fun b hb => .inl (HLTO.out b hb)⟩
          case round =>
            clear HRM HONM HOUT HLTO
            obtain ⟨k, hk, rfl, hrw, hon, hon2, ho1, ho2⟩ := hrel
            have HRW := Lib.hid hrw
            have HON := Lib.hid hon
            have HO1 := Lib.hid ho1
            have HO2 := Lib.hid ho2
            clear hrw ho1 ho2 hon
            by_cases hlt4 : k < ms.length
            · have hti : ms[k]? = some ms[k] := List.getElem?_eq_getElem hlt4
              generalize ms[k] = t at hti
              obtain ⟨b7, o7, rfl, hlo7, hb7, d7⟩ := (HOI.out.only hon2 (Nat.le_refl _) (.inr (Nat.le_of_lt hsE))).nat hti
              have f0 := ocell hon2 f0 (Nat.lt_of_lt_of_le hsE hsM) (.inr (Nat.le_refl _))
              have f1 := ocell hon2 f1 (Nat.lt_of_lt_of_le hsE hsM) (.inr (Nat.le_refl _))
              have f2 := ocell hon2 f2 (Nat.lt_of_lt_of_le hsE hsM) (.inr (Nat.le_refl _))
              have f3 := ocell hon2 f3 (Nat.lt_of_lt_of_le hsE hsM) (.inr (Nat.le_refl _))
              have hrl : (cur ++ (ms.take k).map (fun (t : Nat) => (((yid, yinv), yt, (t : Int)) : PS))).length ≤ 300 := by rw [List.length_append, List.length_map, List.length_take]; omega
              have HM := Lib.hid (show (cur ++ (ms.take k).map (fun (t : Nat) => (((yid, yinv), yt, (t : Int)) : PS))) ++ [(((yid, yinv), yt, (t : Int)) : PS)] = cur ++ (ms.take (k + 1)).map (fun (t : Nat) => (((yid, yinv), yt, (t : Int)) : PS)) by rw [take_snoc hti, List.map_append, List.append_assoc]; rfl)
              generalize (cur ++ (ms.take k).map (fun (t : Nat) => (((yid, yinv), yt, (t : Int)) : PS))) = XQ at *
              have HON2 := Lib.hid hon2
              have hgw2 : gO ≤ wr.heap.size := by have := HON.out.size; omega
              clear hti hon2
              go_wp2_with (at_builtin; (refine wpList_append1 cPS elPS rfl _ _ rfl gO _ XQ (((yid, yinv), yt, (t : Int)) : PS) _ 1 _ (by rfl) HRW.out (by rfl) rfl rfl rfl (cPS_one _) (by omega) (by omega) (by omega) ?_); intro v' w4 hrow' hb4 hat4 hgr4)
              go_roundw
              case rel =>
                refine ⟨k + 1, by omega, by go_num, by rw [← HM.out]; exact hrow', (HON.out.alloc _).grown hgr4 (fun b hb => by have := HO1.out b hb; omega), (HON2.out.alloc _).grown hgr4 (fun b hb => (HO2.out b hb).imp (fun h => ⟨Nat.zero_le _, h⟩) id), fun b hb => ?_, fun b hb => ?_⟩
                · rcases hat4 with h1 | ⟨g1, h1, h2⟩
                  · exact HO1.out b (by rw [← h1]; exact hb)
                  · rw [h1] at hb
                    injection hb with hb
                    have := HON.out.size
                    exact .inr (by omega)
                · rcases hat4 with h1 | ⟨g1, h1, h2⟩
                  · exact HO2.out b (by rw [← h1]; exact hb)
                  · rw [h1] at hb
                    injection hb with hb
                    have := HON2.out.size
                    exact .inr (by omega)
              case measure => simp [intOf]; omega
            · obtain rfl : k = ms.length := by omega
              have hall : cur ++ (ms.take ms.length).map (fun (t : Nat) => (((yid, yinv), yt, (t : Int)) : PS)) = ((arcsOf g (x : Int)).take (j + 1)).flatMap (psA g a x s) := by rw [List.take_length, flat_take HYJ.out, ← HCUR.out, HNA.out]
              rw [hall] at HRW
              clear hall
              go_wp2_with fail
              go_roundw
              case rel => exact ⟨j + 1, by omega, by go_num, HRW.out, HON.out, HO1.out⟩
              case measure => simp [intOf]; omega
        · obtain rfl : j = (arcsOf g (x : Int)).length := by omega
          have hR : R = ((arcsOf g (x : Int)).take (arcsOf g (x : Int)).length).flatMap (psA g a x s) := by rw [HR1.out, List.take_length]; rfl
          have hown := Own.of_row (xs := R) (ownsRow_mono (b := w.heap.size) (by rw [hR]; exact HROW.out) (by omega)) rfl rfl
          have HO := Lib.hid hown
          have HS := Lib.hid hown.shape
          have hfin : Below w.heap.size w wr := hbw.trans (hon.below (by omega) hbw.size)
          clear hR hown
          go_wp2_with fail
          go_ret
          exact ⟨_, rfl, HO.out, hfin⟩
end Go.Proofs.Ytallglnmeeahiaa

