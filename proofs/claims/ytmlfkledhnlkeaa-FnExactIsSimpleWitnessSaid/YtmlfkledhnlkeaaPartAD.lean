/- Parts of the proof, joined into one text: Shelf, Math, ProdM, View, Bits. -/
import Derived.Shelf.Small.Bits
import Derived.Shelf.Small.Wraps
import Derived.Shelf.Strconv.Itoa0
import Derived.Shelf.Sort.Plain
import Derived.Shelf.Bits.Mul64
import Derived.Shelf.Slices.Turned
import Derived.Ground.Names2Prog
import Derived.Shelf.Slices.CompactI
import Derived.Shelf.Slices.SearchI
import Derived.Shelf.Slices.Cells
import Derived.Shelf.Slices.In.SortNone
import Derived.Test.YtmlfkledhnlkeaaProg
import Derived.Test.YtmlfkledhnlkeaaPartAA
import Derived.Laws.BitsAll
import Derived.IntWalk
/-
  DERIVED: THE SHELF's CONTRACTS AT THIS DUMP, IN PLAIN WORDS (tools/lay-plain.mjs out of 'TryShelf.lean', which tools/lay-shelf.mjs wrote): THE SAME DECLARATIONS UNDER THE SAME NAMES: 'import', 'namespace', 'open', 'def', 'theorem' AND NOTHING ELSE: no command of the shelf's: FOR A HAND-IN. Each laying: the table of numbers ('.._ren') and one theorem, a field a fact of the dump's own or the kernel's comparison; each contract: ONE APPLICATION.
-/
namespace Go.Proofs
open Go.Shelf
def Try.lays128_ren : Go.Shelf.Ren := ⟨fun | 128 => 182 | n => n, fun | 51 => 187 | 3 => 3 | 4 => 4 | 46 => 173 | 5 => 5 | 9 => 9 | n => n, fun | n => n⟩
theorem Try.lays128 : Go.Proofs.Lays.n128 Try.prog Try.lays128_ren := {
  mixed := by kernel_rfl
  f128 := Try.func182.trans (congrArg some (by kernel_rfl))
  t3 := Try.underlying3
  a3 := Try.isAgg3
  z3 := Try.sizeOf3
  v3 := Try.zeroValue3
  t4 := Try.underlying4
  a4 := Try.isAgg4
  z4 := Try.sizeOf4
  v4 := Try.zeroValue4
  t5 := Try.underlying5
  a5 := Try.isAgg5
  z5 := Try.sizeOf5
  v5 := Try.zeroValue5
  t9 := Try.underlying9
  a9 := Try.isAgg9
  z9 := Try.sizeOf9
  v9 := Try.zeroValue9
  t46 := Try.underlying173
  a46 := Try.isAgg173
  z46 := Try.sizeOf173
  v46 := Try.zeroValue173
  t51 := Try.underlying187
  a51 := Try.isAgg187
  z51 := Try.sizeOf187
  v51 := Try.zeroValue187 }
/-- bits.Len32: "Len32 returns the minimum number of bits required to represent x; the result is 0 for x == 0.": IT RETURNS 'Lib.bitLen x'; the world is as it was. ('h0', 'h1': x is a uint32.) (LAID: no walk: one application.) -/
theorem Try.bits_Len32 (x : Int) (w : World) (h0 : 0 ≤ x) (h1 : x ≤ 4294967295) :
    Calls Try.prog 182 #[.int .u32 x] w fun e w' => e = .returned (.int .i64 (Lib.bitLen x.toNat)) ∧ w' = w := Any.bits_Len32 Try.lays128 x w h0 h1
def Try.lays125_ren : Go.Shelf.Ren := ⟨fun | 125 => 168 | 128 => 182 | 129 => 183 | n => n, fun | 46 => 173 | 3 => 3 | 51 => 187 | 53 => 190 | 4 => 4 | 5 => 5 | 9 => 9 | n => n, fun | n => n⟩
theorem Try.lays125 : Go.Proofs.Lays.n125 Try.prog Try.lays125_ren := {
  mixed := by kernel_rfl
  f125 := Try.func168.trans (congrArg some (by kernel_rfl))
  f128 := Try.func182.trans (congrArg some (by kernel_rfl))
  f129 := Try.func183.trans (congrArg some (by kernel_rfl))
  t3 := Try.underlying3
  a3 := Try.isAgg3
  z3 := Try.sizeOf3
  v3 := Try.zeroValue3
  t4 := Try.underlying4
  a4 := Try.isAgg4
  z4 := Try.sizeOf4
  v4 := Try.zeroValue4
  t5 := Try.underlying5
  a5 := Try.isAgg5
  z5 := Try.sizeOf5
  v5 := Try.zeroValue5
  t9 := Try.underlying9
  a9 := Try.isAgg9
  z9 := Try.sizeOf9
  v9 := Try.zeroValue9
  t46 := Try.underlying173
  a46 := Try.isAgg173
  z46 := Try.sizeOf173
  v46 := Try.zeroValue173
  t51 := Try.underlying187
  a51 := Try.isAgg187
  z51 := Try.sizeOf187
  v51 := Try.zeroValue187
  t53 := Try.underlying190
  a53 := Try.isAgg190
  z53 := Try.sizeOf190
  v53 := Try.zeroValue190 }
/-- bits.Len: "Len returns the minimum number of bits required to represent x; the result is 0 for x == 0.": IT RETURNS 'Lib.bitLen x'; the world is as it was. (A uint has 64 bits in the model.) ITS CALLEE bits.Len64 IS MET BY ITS OWN CONTRACT OFF THE SHELF (lay that first). (LAID: no walk: one application.) -/
theorem Try.bits_Len (x : Int) (w : World) (h0 : 0 ≤ x) (h1 : x ≤ 18446744073709551615) :
    Calls Try.prog 168 #[.int .u64 x] w fun e w' => e = .returned (.int .i64 (Lib.bitLen x.toNat)) ∧ w' = w := Any.bits_Len Try.lays125 x w h0 h1
def Try.lays215_ren : Go.Shelf.Ren := ⟨fun | 215 => 189 | n => n, fun | 3 => 3 | 4 => 4 | n => n, fun | n => n⟩
theorem Try.lays215 : Go.Proofs.Lays.n215 Try.prog Try.lays215_ren := {
  mixed := by kernel_rfl
  f215 := Try.func189.trans (congrArg some (by kernel_rfl))
  t3 := Try.underlying3
  a3 := Try.isAgg3
  z3 := Try.sizeOf3
  v3 := Try.zeroValue3
  t4 := Try.underlying4
  a4 := Try.isAgg4
  z4 := Try.sizeOf4
  v4 := Try.zeroValue4 }
open Go.RowKit in
/-- cmp.isNaN at int: 'x != x': false. (LAID: no walk: one application.) -/
theorem Try.cmp_isNaN_int (x : Int) (w : World) :
    Calls Try.prog 189 #[.int .i64 x] w fun e w' => e = .returned (.bool false) ∧ w' = w := Any.cmp_isNaN_int Try.lays215 x w
def Try.lays129_ren : Go.Shelf.Ren := ⟨fun | 129 => 183 | n => n, fun | 53 => 190 | 3 => 3 | 4 => 4 | 46 => 173 | 5 => 5 | 9 => 9 | n => n, fun | n => n⟩
theorem Try.lays129 : Go.Proofs.Lays.n129 Try.prog Try.lays129_ren := {
  mixed := by kernel_rfl
  f129 := Try.func183.trans (congrArg some (by kernel_rfl))
  t3 := Try.underlying3
  a3 := Try.isAgg3
  z3 := Try.sizeOf3
  v3 := Try.zeroValue3
  t4 := Try.underlying4
  a4 := Try.isAgg4
  z4 := Try.sizeOf4
  v4 := Try.zeroValue4
  t5 := Try.underlying5
  a5 := Try.isAgg5
  z5 := Try.sizeOf5
  v5 := Try.zeroValue5
  t9 := Try.underlying9
  a9 := Try.isAgg9
  z9 := Try.sizeOf9
  v9 := Try.zeroValue9
  t46 := Try.underlying173
  a46 := Try.isAgg173
  z46 := Try.sizeOf173
  v46 := Try.zeroValue173
  t53 := Try.underlying190
  a53 := Try.isAgg190
  z53 := Try.sizeOf190
  v53 := Try.zeroValue190 }
/-- bits.Len64: "Len64 returns the minimum number of bits required to represent x; the result is 0 for x == 0.": IT RETURNS 'Lib.bitLen x'; the world is as it was. ('h0', 'h1': x is a uint64.) (LAID: no walk: one application.) -/
theorem Try.bits_Len64 (x : Int) (w : World) (h0 : 0 ≤ x) (h1 : x ≤ 18446744073709551615) :
    Calls Try.prog 183 #[.int .u64 x] w fun e w' => e = .returned (.int .i64 (Lib.bitLen x.toNat)) ∧ w' = w := Any.bits_Len64 Try.lays129 x w h0 h1
def Try.lays189_ren : Go.Shelf.Ren := ⟨fun | 189 => 163 | 125 => 168 | 257 => 167 | 128 => 182 | 129 => 183 | 294 => 173 | 295 => 174 | 296 => 175 | 297 => 176 | 298 => 177 | 299 => 178 | 216 => 179 | 300 => 180 | 301 => 181 | 328 => 184 | 329 => 185 | 330 => 186 | 331 => 187 | 332 => 188 | 215 => 189 | 343 => 190 | n => n, fun | 28 => 22 | 3 => 3 | 46 => 173 | 0 => 0 | 51 => 187 | 53 => 190 | 4 => 4 | 183 => 197 | 182 => 196 | 131 => 83 | 5 => 5 | 9 => 9 | 218 => 205 | 222 => 209 | 228 => 211 | 229 => 139 | n => n, fun | n => n⟩
theorem Try.lays189 : Go.Proofs.Lays.n189 Try.prog Try.lays189_ren := {
  mixed := by kernel_rfl
  f125 := Try.func168.trans (congrArg some (by kernel_rfl))
  f128 := Try.func182.trans (congrArg some (by kernel_rfl))
  f129 := Try.func183.trans (congrArg some (by kernel_rfl))
  f189 := Try.func163.trans (congrArg some (by kernel_rfl))
  f215 := Try.func189.trans (congrArg some (by kernel_rfl))
  f216 := Try.func179.trans (congrArg some (by kernel_rfl))
  f257 := Try.func167.trans (congrArg some (by kernel_rfl))
  f294 := Try.func173.trans (congrArg some (by kernel_rfl))
  f295 := Try.func174.trans (congrArg some (by kernel_rfl))
  f296 := Try.func175.trans (congrArg some (by kernel_rfl))
  f297 := Try.func176.trans (congrArg some (by kernel_rfl))
  f298 := Try.func177.trans (congrArg some (by kernel_rfl))
  f299 := Try.func178.trans (congrArg some (by kernel_rfl))
  f300 := Try.func180.trans (congrArg some (by kernel_rfl))
  f301 := Try.func181.trans (congrArg some (by kernel_rfl))
  f328 := Try.func184.trans (congrArg some (by kernel_rfl))
  f329 := Try.func185.trans (congrArg some (by kernel_rfl))
  f330 := Try.func186.trans (congrArg some (by kernel_rfl))
  f331 := Try.func187.trans (congrArg some (by kernel_rfl))
  f332 := Try.func188.trans (congrArg some (by kernel_rfl))
  f343 := Try.func190.trans (congrArg some (by kernel_rfl))
  t0 := Try.underlying0
  a0 := Try.isAgg0
  z0 := Try.sizeOf0
  v0 := Try.zeroValue0
  t3 := Try.underlying3
  a3 := Try.isAgg3
  z3 := Try.sizeOf3
  v3 := Try.zeroValue3
  t4 := Try.underlying4
  a4 := Try.isAgg4
  z4 := Try.sizeOf4
  v4 := Try.zeroValue4
  t5 := Try.underlying5
  a5 := Try.isAgg5
  z5 := Try.sizeOf5
  v5 := Try.zeroValue5
  t9 := Try.underlying9
  a9 := Try.isAgg9
  z9 := Try.sizeOf9
  v9 := Try.zeroValue9
  t28 := Try.underlying22
  a28 := Try.isAgg22
  z28 := Try.sizeOf22
  v28 := Try.zeroValue22
  t46 := Try.underlying173
  a46 := Try.isAgg173
  z46 := Try.sizeOf173
  v46 := Try.zeroValue173
  t51 := Try.underlying187
  a51 := Try.isAgg187
  z51 := Try.sizeOf187
  v51 := Try.zeroValue187
  t53 := Try.underlying190
  a53 := Try.isAgg190
  z53 := Try.sizeOf190
  v53 := Try.zeroValue190
  t131 := Try.underlying83
  a131 := Try.isAgg83
  z131 := Try.sizeOf83
  v131 := Try.zeroValue83
  t182 := Try.underlying196
  a182 := Try.isAgg196
  z182 := Try.sizeOf196
  v182 := Try.zeroValue196
  t183 := Try.underlying197
  a183 := Try.isAgg197
  z183 := Try.sizeOf197
  v183 := Try.zeroValue197
  t218 := Try.underlying205
  a218 := Try.isAgg205
  z218 := Try.sizeOf205
  v218 := Try.zeroValue205
  t222 := Try.underlying209
  a222 := Try.isAgg209
  z222 := Try.sizeOf209
  v222 := Try.zeroValue209
  t228 := Try.underlying211
  a228 := Try.isAgg211
  z228 := Try.sizeOf211
  v228 := Try.zeroValue211
  t229 := Try.underlying139
  a229 := Try.isAgg139
  z229 := Try.sizeOf139
  v229 := Try.zeroValue139 }
open Go.Sort Go.RowKit in
theorem Try.slices_Sort_int (blk off cap : Nat) (zs : List Int) (w : World) (hH : Holds (Value.int .i64) w blk off zs.toArray) (hblk : blk < w.heap.size) (hsz : zs.length < 4611686018427387904) :
    Calls Try.prog 163 #[.slice (some ⟨blk, off, none⟩) zs.length cap] w fun e w' =>
      e = .returned (.tuple #[]) ∧ ∃ n os, w' = grow (putRow (Value.int .i64) (Sort.ahead w n) blk off (zs.mergeSort fun x y => decide (x ≤ y)).toArray) os := Any.slices_Sort_int Try.lays189 blk off cap zs w hH hblk hsz
def Try.lays264_ren : Go.Shelf.Ren := ⟨fun | 264 => 170 | n => n, fun | 53 => 190 | 46 => 173 | n => n, fun | n => n⟩
theorem Try.lays264 : Go.Proofs.Lays.n264 Try.prog Try.lays264_ren := {
  mixed := by kernel_rfl
  f264 := Try.func170.trans (congrArg some (by kernel_rfl))
  t46 := Try.underlying173
  a46 := Try.isAgg173
  z46 := Try.sizeOf173
  v46 := Try.zeroValue173
  t53 := Try.underlying190
  a53 := Try.isAgg190
  z53 := Try.sizeOf190
  v53 := Try.zeroValue190 }
open Go.RowKit Go.Lib in
theorem Try.bits_Mul64 (x y : Nat) (hx : x < 18446744073709551616) (hy : y < 18446744073709551616) (w : World) :
    Calls Try.prog 170 #[.int .u64 x, .int .u64 y] w fun e w' => e = .returned (.tuple #[.int .u64 ((x * y / 18446744073709551616 : Nat) : Int), .int .u64 ((x * y % 18446744073709551616 : Nat) : Int)]) ∧ w' = w := Any.bits_Mul64 Try.lays264 x y hx hy w
def Try.lays212_ren : Go.Shelf.Ren := ⟨fun | 212 => 165 | 263 => 169 | 264 => 170 | n => n, fun | 46 => 173 | 51 => 187 | 146 => 188 | 53 => 190 | 148 => 191 | n => n, fun | n => n⟩
theorem Try.lays212 : Go.Proofs.Lays.n212 Try.prog Try.lays212_ren := {
  mixed := by kernel_rfl
  f212 := Try.func165.trans (congrArg some (by kernel_rfl))
  f263 := Try.func169.trans (congrArg some (by kernel_rfl))
  f264 := Try.func170.trans (congrArg some (by kernel_rfl))
  t46 := Try.underlying173
  a46 := Try.isAgg173
  z46 := Try.sizeOf173
  v46 := Try.zeroValue173
  t51 := Try.underlying187
  a51 := Try.isAgg187
  z51 := Try.sizeOf187
  v51 := Try.zeroValue187
  t53 := Try.underlying190
  a53 := Try.isAgg190
  z53 := Try.sizeOf190
  v53 := Try.zeroValue190
  t146 := Try.underlying188
  a146 := Try.isAgg188
  z146 := Try.sizeOf188
  v146 := Try.zeroValue188
  t148 := Try.underlying191
  a148 := Try.isAgg191
  z148 := Try.sizeOf191
  v148 := Try.zeroValue191 }
open Go.RowKit Go.Lib in
/-- math/bits.Mul: "Mul returns the full-width product of x and y": on a machine of 64 bits: Mul64's. (LAID: no walk: one application.) -/
theorem Try.bits_Mul (x y : Nat) (hx : x < 18446744073709551616) (hy : y < 18446744073709551616) (w : World) :
    Calls Try.prog 165 #[.int .u64 x, .int .u64 y] w fun e w' => e = .returned (.tuple #[.int .u64 ((x * y / 18446744073709551616 : Nat) : Int), .int .u64 ((x * y % 18446744073709551616 : Nat) : Int)]) ∧ w' = w := Any.bits_Mul Try.lays212 x y hx hy w
def Try.lays108_ren : Go.Shelf.Ren := ⟨fun | 108 => 145 | n => n, fun | 28 => 22 | 3 => 3 | 0 => 0 | 4 => 4 | n => n, fun | n => n⟩
theorem Try.lays108 : Go.Proofs.Lays.n108 Try.prog Try.lays108_ren := {
  mixed := by kernel_rfl
  f108 := Try.func145.trans (congrArg some (by kernel_rfl))
  t0 := Try.underlying0
  a0 := Try.isAgg0
  z0 := Try.sizeOf0
  v0 := Try.zeroValue0
  t3 := Try.underlying3
  a3 := Try.isAgg3
  z3 := Try.sizeOf3
  v3 := Try.zeroValue3
  t4 := Try.underlying4
  a4 := Try.isAgg4
  z4 := Try.sizeOf4
  v4 := Try.zeroValue4
  t28 := Try.underlying22
  a28 := Try.isAgg22
  z28 := Try.sizeOf22
  v28 := Try.zeroValue22 }
open Go.Lib in
/-- slices.Index at []int: "Index returns the index of the first occurrence of v in s, or -1 if not present.": IT RETURNS 'Lib.idxOf (the elements) v'; the world is as it was. 'zs': what the cells behind the slice's address hold (its spare capacity too, if you have it); 'zs.take n': its elements. (LAID: no walk: one application.) -/
theorem Try.slices_Index_int (b off n c : Nat) (zs : List Int) (x : Int) (w : World) (hz : n ≤ zs.length) (hbig : n ≤ 9223372036854775807) (hc : ∀ j, j < zs.length → w.cell? ⟨b, off + j, none⟩ = some (.int .i64 (zs.getD j 0))) :
    Calls Try.prog 145 #[.slice (some ⟨b, off, none⟩) n c, .int .i64 x] w fun e w' => e = .returned (.int .i64 (Lib.idxOf (zs.take n) x)) ∧ w' = w := Any.slices_Index_int Try.lays108 b off n c zs x w hz hbig hc
open Go.Lib in
/-- The same at a slice of length 0, a nil one too: no cell is known, none is asked for. (LAID: no walk: one application.) -/
theorem Try.slices_Index_int_empty (a : Option Addr) (c : Nat) (x : Int) (w : World) :
    Calls Try.prog 145 #[.slice a 0 c, .int .i64 x] w fun e w' => e = .returned (.int .i64 (Lib.idxOf [] x)) ∧ w' = w := Any.slices_Index_int_empty Try.lays108 a c x w
def Try.lays107_ren : Go.Shelf.Ren := ⟨fun | 107 => 103 | 108 => 145 | n => n, fun | 28 => 22 | 3 => 3 | 4 => 4 | 0 => 0 | n => n, fun | n => n⟩
theorem Try.lays107 : Go.Proofs.Lays.n107 Try.prog Try.lays107_ren := {
  mixed := by kernel_rfl
  f107 := Try.func103.trans (congrArg some (by kernel_rfl))
  f108 := Try.func145.trans (congrArg some (by kernel_rfl))
  t0 := Try.underlying0
  a0 := Try.isAgg0
  z0 := Try.sizeOf0
  v0 := Try.zeroValue0
  t3 := Try.underlying3
  a3 := Try.isAgg3
  z3 := Try.sizeOf3
  v3 := Try.zeroValue3
  t4 := Try.underlying4
  a4 := Try.isAgg4
  z4 := Try.sizeOf4
  v4 := Try.zeroValue4
  t28 := Try.underlying22
  a28 := Try.isAgg22
  z28 := Try.sizeOf22
  v28 := Try.zeroValue22 }
open Go.Lib in
/-- slices.Contains at []int: "Contains reports whether v is present in s.": IT RETURNS 'elements.contains v'; the world is as it was. ITS CALLEE slices.Index IS MET BY ITS OWN CONTRACT OFF THE SHELF (lay that first): no loop is walked here. (LAID: no walk: one application.) -/
theorem Try.slices_Contains_int (b off n c : Nat) (zs : List Int) (x : Int) (w : World) (hz : n ≤ zs.length) (hbig : n ≤ 9223372036854775807) (hc : ∀ j, j < zs.length → w.cell? ⟨b, off + j, none⟩ = some (.int .i64 (zs.getD j 0))) :
    Calls Try.prog 103 #[.slice (some ⟨b, off, none⟩) n c, .int .i64 x] w fun e w' => e = .returned (.bool ((zs.take n).contains x)) ∧ w' = w := Any.slices_Contains_int Try.lays107 b off n c zs x w hz hbig hc
open Go.Lib in
/-- The same at a slice of length 0, a nil one too. (LAID: no walk: one application.) -/
theorem Try.slices_Contains_int_empty (a : Option Addr) (c : Nat) (x : Int) (w : World) :
    Calls Try.prog 103 #[.slice a 0 c, .int .i64 x] w fun e w' => e = .returned (.bool false) ∧ w' = w := Any.slices_Contains_int_empty Try.lays107 a c x w
def Try.lays113_ren : Go.Shelf.Ren := ⟨fun | 113 => 100 | n => n, fun | 28 => 22 | 3 => 3 | 4 => 4 | 9 => 9 | 20 => 20 | 0 => 0 | n => n, fun | n => n⟩
theorem Try.lays113 : Go.Proofs.Lays.n113 Try.prog Try.lays113_ren := {
  mixed := by kernel_rfl
  f113 := Try.func100.trans (congrArg some (by kernel_rfl))
  t0 := Try.underlying0
  a0 := Try.isAgg0
  z0 := Try.sizeOf0
  v0 := Try.zeroValue0
  t3 := Try.underlying3
  a3 := Try.isAgg3
  z3 := Try.sizeOf3
  v3 := Try.zeroValue3
  t4 := Try.underlying4
  a4 := Try.isAgg4
  z4 := Try.sizeOf4
  v4 := Try.zeroValue4
  t9 := Try.underlying9
  a9 := Try.isAgg9
  z9 := Try.sizeOf9
  v9 := Try.zeroValue9
  t20 := Try.underlying20
  a20 := Try.isAgg20
  z20 := Try.sizeOf20
  v20 := Try.zeroValue20
  t28 := Try.underlying22
  a28 := Try.isAgg22
  z28 := Try.sizeOf22
  v28 := Try.zeroValue22 }
open Go.Lib in
/-- slices.Max at []int: "Max returns the maximal value in x. It panics if x is empty.": OF A SLICE THAT IS NOT EMPTY IT RETURNS 'Lib.maxOf (the elements)'; the world is as it was. (Of an empty one it panics: no contract here.) (LAID: no walk: one application.) -/
theorem Try.slices_Max_int (b off n c : Nat) (zs : List Int) (w : World) (hn : 0 < n) (hz : n ≤ zs.length) (hbig : n ≤ 9223372036854775807) (hc : ∀ j, j < zs.length → w.cell? ⟨b, off + j, none⟩ = some (.int .i64 (zs.getD j 0))) :
    Calls Try.prog 100 #[.slice (some ⟨b, off, none⟩) n c] w fun e w' => e = .returned (.int .i64 (Lib.maxOf (zs.take n))) ∧ w' = w := Any.slices_Max_int Try.lays113 b off n c zs w hn hz hbig hc
def Try.laysNm220_ren : Go.Shelf.Ren := ⟨fun | 20 => 164 | n => n, fun | 22 => 22 | 3 => 3 | 4 => 4 | 0 => 0 | n => n, fun | n => n⟩
theorem Try.laysNm220 : Go.Proofs.Lays2.n20 Try.prog Try.laysNm220_ren := {
  mixed := by kernel_rfl
  f20 := Try.func164.trans (congrArg some (by kernel_rfl))
  t0 := Try.underlying0
  a0 := Try.isAgg0
  z0 := Try.sizeOf0
  v0 := Try.zeroValue0
  t3 := Try.underlying3
  a3 := Try.isAgg3
  z3 := Try.sizeOf3
  v3 := Try.zeroValue3
  t4 := Try.underlying4
  a4 := Try.isAgg4
  z4 := Try.sizeOf4
  v4 := Try.zeroValue4
  t22 := Try.underlying22
  a22 := Try.isAgg22
  z22 := Try.sizeOf22
  v22 := Try.zeroValue22
  i3 := by kernel_rfl }
open Go.RowKit Go.Lib Go.Sort in
/-- slices.Compact at []int, over an array: the library's two loops are walked. (LAID: no walk: one application.) -/
theorem Try.slices_Compact_int_arr (blk off cap : Nat) (d : Array Int) (w : World) (hH : Holds encI w blk off d) (hsz : d.size ≤ 9223372036854775807) (hcap : d.size ≤ cap) :
    Calls Try.prog 164 #[.slice (some ⟨blk, off, none⟩) d.size cap] w fun e w' => e = .returned (.slice (some ⟨blk, off, none⟩) (compactUpTo d d.size).length cap) ∧ ∃ q, w' = putRow encI (Sort.ahead w q) blk off (compactUpTo d d.size ++ List.replicate (d.size - (compactUpTo d d.size).length) 0).toArray := Any.slices_Compact_int_arr Try.laysNm220 blk off cap d w hH hsz hcap
open Go.RowKit Go.Lib Go.Sort in
/-- slices.Compact at []int: "Compact replaces consecutive runs of equal elements with a single copy. This is like the uniq command found on Unix. Compact modifies the contents of the slice s and returns the modified slice, which may have a smaller length. Compact zeroes the elements between the new length and the original length. The result preserves the nilness of s.": IT RETURNS THE SLICE CUT TO 'Lib.compact zs'; ITS CELLS HOLD 'Lib.compact zs', THEN ZERO VALUES up to the old length; all else is as it was, but for the count of draws. IN THE WORDS OF slices.Sort's CONTRACT ('Holds', 'putRow'): so the everyday 'slices.Sort(xs); xs = slices.Compact(xs)' goes from the one contract to the other. It asks 'zs.length ≤ cap' (every slice's: the reslicing 's[:k]' looks at it). Length 0, nil: '.._empty'. (LAID: no walk: one application.) -/
theorem Try.slices_Compact_int (blk off cap : Nat) (zs : List Int) (w : World) (hH : Holds (Value.int .i64) w blk off zs.toArray) (hsz : zs.length ≤ 9223372036854775807) (hcap : zs.length ≤ cap) :
    Calls Try.prog 164 #[.slice (some ⟨blk, off, none⟩) zs.length cap] w fun e w' => e = .returned (.slice (some ⟨blk, off, none⟩) (Lib.compact zs).length cap) ∧ ∃ q, w' = putRow (Value.int .i64) (Sort.ahead w q) blk off (Lib.compact zs ++ List.replicate (zs.length - (Lib.compact zs).length) 0).toArray := Any.slices_Compact_int Try.laysNm220 blk off cap zs w hH hsz hcap
open Go.RowKit Go.Lib Go.Sort in
/-- The same at a slice of length 0, a nil one too: it comes back as it is. (LAID: no walk: one application.) -/
theorem Try.slices_Compact_int_empty (a : Option Addr) (cap : Nat) (w : World) :
    Calls Try.prog 164 #[.slice a 0 cap] w fun e w' => e = .returned (.slice a 0 cap) ∧ w' = w := Any.slices_Compact_int_empty Try.laysNm220 a cap w
def Try.laysNm237_ren : Go.Shelf.Ren := ⟨fun | 37 => 189 | n => n, fun | 3 => 3 | 4 => 4 | n => n, fun | n => n⟩
theorem Try.laysNm237 : Go.Proofs.Lays2.n37 Try.prog Try.laysNm237_ren := {
  mixed := by kernel_rfl
  f37 := Try.func189.trans (congrArg some (by kernel_rfl))
  t3 := Try.underlying3
  a3 := Try.isAgg3
  z3 := Try.sizeOf3
  v3 := Try.zeroValue3
  t4 := Try.underlying4
  a4 := Try.isAgg4
  z4 := Try.sizeOf4
  v4 := Try.zeroValue4 }
open Go.RowKit Go.Lib in
/-- cmp.isNaN[int]: 'x != x': false. (LAID: no walk: one application.) -/
theorem Try.cmp_isNaN_int2 (x : Int) (w : World) :
    Calls Try.prog 189 #[.int .i64 x] w fun e w' => e = .returned (.bool false) ∧ w' = w := Any.cmp_isNaN_int2 Try.laysNm237 x w
def Try.laysNm231_ren : Go.Shelf.Ren := ⟨fun | 31 => 179 | 37 => 189 | n => n, fun | 3 => 3 | 4 => 4 | n => n, fun | n => n⟩
theorem Try.laysNm231 : Go.Proofs.Lays2.n31 Try.prog Try.laysNm231_ren := {
  mixed := by kernel_rfl
  f31 := Try.func179.trans (congrArg some (by kernel_rfl))
  f37 := Try.func189.trans (congrArg some (by kernel_rfl))
  t3 := Try.underlying3
  a3 := Try.isAgg3
  z3 := Try.sizeOf3
  v3 := Try.zeroValue3
  t4 := Try.underlying4
  a4 := Try.isAgg4
  z4 := Try.sizeOf4
  v4 := Try.zeroValue4 }
open Go.RowKit Go.Lib in
/-- cmp.Less[int]: "Less reports whether x is less than y.": 'x < y'; the world is as it was. (LAID: no walk: one application.) -/
theorem Try.cmp_Less_int2 (x y : Int) (w : World) :
    Calls Try.prog 179 #[.int .i64 x, .int .i64 y] w fun e w' => e = .returned (.bool (decide (x < y))) ∧ w' = w := Any.cmp_Less_int2 Try.laysNm231 x y w
open Go.RowKit Go.Lib Go.Sort in
/-- slices.Compact at []int, of an argument: the slice cut to 'Lib.compact (elements)'; the n cells hold that, then zeros. (LAID: no walk: one application.) -/
theorem Try.slices_Compact_int_cells (b off n c : Nat) (zs : List Int) (w : World) (hz : n ≤ zs.length) (hbig : n ≤ 9223372036854775807) (hcap : n ≤ c) (hc : ∀ j, j < zs.length → w.cell? ⟨b, off + j, none⟩ = some (.int .i64 (zs.getD j 0))) (hf : ∀ j, j < n → w.frozen? ⟨b, off + j, none⟩ = false) :
    Calls Try.prog 164 #[.slice (some ⟨b, off, none⟩) n c] w fun e w' => e = .returned (.slice (some ⟨b, off, none⟩) (Lib.compact (zs.take n)).length c) ∧ ∃ q, w' = (w.drewN q).setCells b off ((Lib.compact (zs.take n) ++ List.replicate (n - (Lib.compact (zs.take n)).length) 0).map (Value.int .i64)) := Any.slices_Compact_int_cells Try.laysNm220 b off n c zs w hz hbig hcap hc hf
open Go.RowKit Go.Sort in
/-- .. and plain. (LAID: no walk: one application.) -/
theorem Try.slices_Sort_int_none (p : Option Addr) (cap : Nat) (w : World) :
    Calls Try.prog 163 #[.slice p 0 cap] w fun e w' => e = .returned (.tuple #[]) ∧ w' = w := Any.slices_Sort_int_none Try.lays189 p cap w
end Go.Proofs

/- Plain functions on plain data: nothing of the program. -/
namespace Go.Proofs.Ytmlfkledhnlkeaa
set_option linter.unusedVariables false
set_option linter.unusedSimpArgs false

theorem exists_least_nat {p : Nat → Prop} (h : ∃ n, p n) : ∃ n, p n ∧ ∀ m, p m → n ≤ m := by
  obtain ⟨n, hn⟩ := h
  induction n using Nat.strongRecOn with
  | _ n ih =>
    by_cases hm : ∃ m, m < n ∧ p m
    · obtain ⟨m, hlt, hp⟩ := hm
      exact ih m hlt hp
    · exact ⟨n, hn, fun m hp => Nat.le_of_not_lt fun hlt => hm ⟨m, hlt, hp⟩⟩

/-- n is in the range a to b -/
def wi (n a b : Int) : Bool := decide (a ≤ n) && decide (n ≤ b)
theorem wi_iff {n a b : Int} : wi n a b = true ↔ a ≤ n ∧ n ≤ b := by simp [wi]
theorem wi_false {n a b : Int} : wi n a b = false ↔ ¬ (a ≤ n ∧ n ≤ b) := by rw [← wi_iff]; simp

/-! ### Automata -/
def rowOk (n : Int) (row : List Int) : Bool := row.all (fun t => wi t (-1) (n - 1)) && (row.length == 9)
def auOk (a : Au) : Bool := wi a.accept.length 1 12 && wi a.start 0 ((a.accept.length : Int) - 1) && (a.next.length == a.accept.length) && a.next.all (rowOk a.accept.length)
theorem auOk_iff {a : Au} : auOk a = true ↔ (1 ≤ a.accept.length ∧ a.accept.length ≤ 12) ∧ (0 ≤ a.start ∧ a.start ≤ (a.accept.length : Int) - 1) ∧ a.next.length = a.accept.length ∧ ∀ row ∈ a.next, rowOk a.accept.length row = true := by
  simp only [auOk, Bool.and_eq_true, wi_iff, beq_iff_eq, List.all_eq_true]
  constructor
  · rintro ⟨⟨⟨h1, h2⟩, h3⟩, h4⟩
    exact ⟨by omega, h2, h3, h4⟩
  · rintro ⟨h1, h2, h3, h4⟩
    exact ⟨⟨⟨by omega, h2⟩, h3⟩, h4⟩
theorem rowOk_iff {n : Int} {row : List Int} : rowOk n row = true ↔ (∀ t ∈ row, -1 ≤ t ∧ t ≤ n - 1) ∧ row.length = 9 := by
  simp only [rowOk, Bool.and_eq_true, List.all_eq_true, wi_iff, beq_iff_eq]

/-! ### Graphs -/
def edOk (n : Int) (e : Ed) : Bool := wi e.1 1 99 && wi e.2.1 0 (n - 1) && wi e.2.2.1 0 (n - 1) && wi e.2.2.2 0 2
/-- edge number i is fine, and its id is above the one before it -/
def edAt (n : Int) (es : List Ed) (i : Nat) : Bool :=
  match es[i]? with
  | none => true
  | some e => edOk n e && (decide (i = 0) || match es[i - 1]? with
    | some p => decide (p.1 < e.1)
    | none => true)
def grOk (g : Gr) : Bool := g.vals.all (fun v => wi v 0 2) && (List.range g.edges.length).all (edAt g.vals.length g.edges) && wi g.vals.length 1 5 && decide (g.edges.length ≤ 12)
theorem edOk_iff {n : Int} {e : Ed} : edOk n e = true ↔ (1 ≤ e.1 ∧ e.1 ≤ 99) ∧ (0 ≤ e.2.1 ∧ e.2.1 ≤ n - 1) ∧ (0 ≤ e.2.2.1 ∧ e.2.2.1 ≤ n - 1) ∧ (0 ≤ e.2.2.2 ∧ e.2.2.2 ≤ 2) := by
  simp only [edOk, Bool.and_eq_true, wi_iff, and_assoc]
structure GrOk (g : Gr) : Prop where
  n1 : 1 ≤ g.vals.length
  n5 : g.vals.length ≤ 5
  e12 : g.edges.length ≤ 12
  vals : ∀ v ∈ g.vals, 0 ≤ v ∧ v ≤ 2
  edges : ∀ e ∈ g.edges, (1 ≤ e.1 ∧ e.1 ≤ 99) ∧ (0 ≤ e.2.1 ∧ e.2.1 ≤ (g.vals.length : Int) - 1) ∧ (0 ≤ e.2.2.1 ∧ e.2.2.1 ≤ (g.vals.length : Int) - 1) ∧ (0 ≤ e.2.2.2 ∧ e.2.2.2 ≤ 2)
  asc : ∀ (i : Nat) (p e : Ed), g.edges[i]? = some p → g.edges[i + 1]? = some e → p.1 < e.1
theorem grOk_iff {g : Gr} : grOk g = true ↔ GrOk g := by
  simp only [grOk, Bool.and_eq_true, decide_eq_true_eq, List.all_eq_true, wi_iff, List.mem_range]
  constructor
  · rintro ⟨⟨⟨h1, h2⟩, h3⟩, h4⟩
    refine ⟨by omega, by omega, h4, h1, fun e he => ?_, fun i p e hp he => ?_⟩
    · obtain ⟨i, hi, hie⟩ := List.getElem_of_mem he
      have := h2 i hi
      rw [edAt, List.getElem?_eq_getElem hi, hie] at this
      simp only [Bool.and_eq_true] at this
      exact edOk_iff.1 this.1
    · have hi := (List.getElem?_eq_some_iff.1 he).1
      have := h2 (i + 1) hi
      rw [edAt, he] at this
      simp only [Bool.and_eq_true, Nat.add_sub_cancel, hp, Bool.or_eq_true, decide_eq_true_eq] at this
      rcases this.2 with h | h
      · omega
      · exact h
  · rintro ⟨h1, h2, h3, h4, h5, h6⟩
    refine ⟨⟨⟨h4, fun i hi => ?_⟩, by omega⟩, h3⟩
    rw [edAt, List.getElem?_eq_getElem hi]
    simp only [Bool.and_eq_true, Bool.or_eq_true, decide_eq_true_eq]
    refine ⟨edOk_iff.2 (h5 _ (List.getElem_mem hi)), ?_⟩
    by_cases h0 : i = 0
    · exact .inl h0
    · refine .inr ?_
      have hp : g.edges[i - 1]? = some g.edges[i - 1] := List.getElem?_eq_getElem (by omega)
      rw [hp]
      simp only [decide_eq_true_eq]
      exact h6 (i - 1) _ _ hp (by rw [show i - 1 + 1 = i by omega, List.getElem?_eq_getElem hi])
theorem range_all_succ {p : Nat → Bool} {i : Nat} (h : (List.range i).all p = true) (hp : p i = true) : (List.range (i + 1)).all p = true := by
  rw [List.range_succ, List.all_append, h]
  simp [hp]
theorem range_all_false {p : Nat → Bool} {n i : Nat} (hi : i < n) (hp : p i = false) : (List.range n).all p = false := by
  rw [List.all_eq_false]
  exact ⟨i, List.mem_range.2 hi, by simp [hp]⟩
/-- the place of the first edge with an id, -1 if there is none -/
def edgeIdx (g : Gr) (id : Int) : Int := match g.edges.findIdx? (fun e => e.1 == id) with
  | some i => i
  | none => -1

theorem edgeIdx_none {g : Gr} {id : Int} (h : ∀ e : Ed, e ∈ g.edges → ¬ e.1 = id) : edgeIdx g id = -1 := by
  have : g.edges.findIdx? (fun e => e.1 == id) = none := by
    rw [List.findIdx?_eq_none_iff]
    intro e he
    simpa using h e he
  rw [edgeIdx, this]
theorem edgeIdx_some {g : Gr} {id : Int} {i : Nat} {e : Ed} (hi : g.edges[i]? = some e) (he : e.1 = id) (h : ∀ y : Ed, y ∈ g.edges.take i → ¬ y.1 = id) : edgeIdx g id = i := by
  have : g.edges.findIdx? (fun e => e.1 == id) = some i := by
    rw [List.findIdx?_eq_some_iff_getElem]
    obtain ⟨hlt, hx⟩ := List.getElem?_eq_some_iff.1 hi
    refine ⟨hlt, by rw [hx]; simpa using he, fun j hj => ?_⟩
    have hm : g.edges[j] ∈ g.edges.take i := by
      rw [List.mem_take_iff_getElem]
      exact ⟨j, by omega, rfl⟩
    simpa using h _ hm
  rw [edgeIdx, this]
theorem edgeIdx_spec (g : Gr) (id : Int) : (edgeIdx g id = -1 ∧ ∀ e ∈ g.edges, ¬ e.1 = id) ∨ ∃ (i : Nat) (e : Ed), edgeIdx g id = i ∧ g.edges[i]? = some e ∧ e.1 = id ∧ ∀ y : Ed, y ∈ g.edges.take i → ¬ y.1 = id := by
  by_cases h : ∃ e ∈ g.edges, e.1 = id
  · right
    have hex : ∃ i : Nat, ∃ e : Ed, g.edges[i]? = some e ∧ e.1 = id := by
      obtain ⟨e, he, hid⟩ := h
      obtain ⟨i, hi, hie⟩ := List.getElem_of_mem he
      exact ⟨i, e, by rw [List.getElem?_eq_getElem hi, hie], hid⟩
    obtain ⟨i, ⟨e, he, hid⟩, hmin⟩ := exists_least_nat hex
    have hno : ∀ y : Ed, y ∈ g.edges.take i → ¬ y.1 = id := by
      intro y hy hyid
      rw [List.mem_take_iff_getElem] at hy
      obtain ⟨j, hj, hje⟩ := hy
      have := hmin j ⟨y, by rw [List.getElem?_eq_getElem (by omega), hje], hyid⟩
      omega
    exact ⟨i, e, edgeIdx_some he hid hno, he, hid, hno⟩
  · left
    have h2 : ∀ e ∈ g.edges, ¬ e.1 = id := fun e he hid => h ⟨e, he, hid⟩
    exact ⟨edgeIdx_none h2, h2⟩

/-- the edge with an id, of a valid graph -/
def stepEd (g : Gr) (id : Int) : Option Ed := if grOk g then g.edges.find? (fun e => e.1 == id) else none
theorem stepEd_bad {g : Gr} (id : Int) (h : grOk g = false) : stepEd g id = none := by simp [stepEd, h]
theorem stepEd_none {g : Gr} {id : Int} (h : ∀ e : Ed, e ∈ g.edges → ¬ e.1 = id) : stepEd g id = none := by
  unfold stepEd
  split
  · rw [List.find?_eq_none]
    intro e he
    simpa using h e he
  · rfl
theorem stepEd_some {g : Gr} {id : Int} {i : Nat} {e : Ed} (hg : grOk g = true) (hi : g.edges[i]? = some e) (he : e.1 = id) (h : ∀ y : Ed, y ∈ g.edges.take i → ¬ y.1 = id) : stepEd g id = some e := by
  rw [stepEd, if_pos hg, List.find?_eq_some_iff_getElem]
  obtain ⟨hlt, hx⟩ := List.getElem?_eq_some_iff.1 hi
  refine ⟨by simpa using he, i, hlt, hx, fun j hj => ?_⟩
  have hm : g.edges[j] ∈ g.edges.take i := by
    rw [List.mem_take_iff_getElem]
    exact ⟨j, by omega, rfl⟩
  simpa using h _ hm
theorem stepEd_ok {g : Gr} {id : Int} {e : Ed} (h : stepEd g id = some e) : GrOk g ∧ e ∈ g.edges ∧ e.1 = id := by
  unfold stepEd at h
  split at h
  · rename_i hg
    exact ⟨grOk_iff.1 hg, List.mem_of_find?_eq_some h, by simpa using List.find?_some h⟩
  · cases h
def stepFrom (g : Gr) (s : St) : Int := match stepEd g s.1 with
  | none => -1
  | some e => if s.2 then e.2.2.1 else e.2.1
def stepTo (g : Gr) (s : St) : Int := stepFrom g (s.1, !s.2)
def stepLetter (g : Gr) (s : St) : Int := match stepEd g s.1 with
  | none => -1
  | some e => if s.2 then 2 * e.2.2.2 + 1 else 2 * e.2.2.2
theorem stepFrom_range (g : Gr) (s : St) : stepFrom g s = -1 ∨ (0 ≤ stepFrom g s ∧ stepFrom g s ≤ (g.vals.length : Int) - 1 ∧ GrOk g) := by
  unfold stepFrom
  cases h : stepEd g s.1 with
  | none => exact .inl rfl
  | some e =>
    obtain ⟨hg, he, _⟩ := stepEd_ok h
    have := hg.edges e he
    refine .inr ?_
    simp only
    split
    · exact ⟨this.2.2.1.1, this.2.2.1.2, hg⟩
    · exact ⟨this.2.1.1, this.2.1.2, hg⟩
theorem stepFrom_neg {g : Gr} {s : St} : stepFrom g s < 0 ↔ stepEd g s.1 = none := by
  constructor
  · intro h
    cases he : stepEd g s.1 with
    | none => rfl
    | some e =>
      exfalso
      rcases stepFrom_range g s with h1 | h1
      · obtain ⟨hg, hm, _⟩ := stepEd_ok he
        have := hg.edges e hm
        rw [stepFrom, he] at h1
        simp only at h1
        split at h1 <;> omega
      · omega
  · intro h
    rw [stepFrom, h]
    simp
/-- whether a condition holds of two values -/
def condOk (c v w : Int) : Bool := if c = 0 then true else if c = 1 then v == w else if c = 2 then decide (v ≤ w) else if c = 3 then decide (v < w) else if c = 4 then v != w else false
def stepAllowed (g : Gr) (c : Int) (s : St) : Bool :=
  decide (0 ≤ stepFrom g s) && condOk c (g.vals.getD (stepFrom g s).toNat 0) (g.vals.getD (stepTo g s).toNat 0)

theorem all_take_succ {α : Type} {p : α → Bool} {xs : List α} {i : Nat} {x : α} (hx : xs[i]? = some x) (h : (xs.take i).all p = true) (hp : p x = true) : (xs.take (i + 1)).all p = true := by
  rw [take_snoc hx, List.all_append, h]
  simp [hp]
theorem all_false_of {α : Type} {p : α → Bool} {xs : List α} {i : Nat} {x : α} (hx : xs[i]? = some x) (hp : p x = false) : xs.all p = false := by
  rw [List.all_eq_false]
  exact ⟨x, List.mem_of_getElem? hx, by simp [hp]⟩
end Go.Proofs.Ytmlfkledhnlkeaa

/- Plain: sets of states as numbers, the steps of the product of a graph and an automaton, distances by breadth first search. -/
namespace Go.Proofs.Ytmlfkledhnlkeaa
set_option linter.unusedVariables false
set_option linter.unusedSimpArgs false

/-! ### Numbers as sets -/
def mem (n m : Nat) : List Nat := (List.range n).filter m.testBit
theorem mem_zero (m : Nat) : mem 0 m = [] := rfl
theorem mem_succ (n m : Nat) : mem (n + 1) m = mem n m ++ (if m.testBit n = true then [n] else []) := by
  unfold mem
  rw [List.range_succ, List.filter_append]
  congr 1
  cases h : m.testBit n <;> simp [h]
theorem mem_yes {n m : Nat} (h : m.testBit n = true) : mem (n + 1) m = mem n m ++ [n] := by rw [mem_succ, if_pos h]
theorem mem_no {n m : Nat} (h : m.testBit n = false) : mem (n + 1) m = mem n m := by rw [mem_succ, if_neg (by simp [h]), List.append_nil]
theorem mem_mem {n m t : Nat} : t ∈ mem n m ↔ t < n ∧ m.testBit t = true := by simp [mem]
theorem mem_stop {i n m : Nat} (h : m < 2 ^ i) (hn : i ≤ n) : mem n m = mem i m := by
  induction n with
  | zero =>
    have : i = 0 := by omega
    subst this; rfl
  | succ n ih =>
    by_cases h1 : i ≤ n
    · rw [mem_no (Nat.testBit_lt_two_pow (Nat.lt_of_lt_of_le h (Nat.pow_le_pow_right (by omega) h1))), ih h1]
    · have : i = n + 1 := by omega
      subst this; rfl
theorem mem_len (n m : Nat) : (mem n m).length ≤ n := by
  have := List.length_filter_le m.testBit (List.range n)
  rw [List.length_range] at this
  exact this
/-- {s}, and m with s put in: plain names, so that a walk leaves them alone -/
def bit (s : Nat) : Nat := 2 ^ s
def ins (m s : Nat) : Nat := m ||| 2 ^ s
theorem bit_test (s t : Nat) : (bit s).testBit t = decide (s = t) := by rw [bit, Nat.testBit_two_pow]
theorem ins_test (m s t : Nat) : (ins m s).testBit t = (m.testBit t || decide (s = t)) := by rw [ins, Nat.testBit_or, Nat.testBit_two_pow]
theorem ins_zero (s : Nat) : ins 0 s = bit s := by simp [ins, bit]
theorem bit_lt {n s : Nat} (h : s < n) : bit s < 2 ^ n := Nat.pow_lt_pow_right (by omega) h
theorem mem_pow_ge {n s : Nat} (h : n ≤ s) : mem n (bit s) = [] := by
  induction n with
  | zero => rfl
  | succ n ih => rw [mem_no (by rw [bit_test]; simp; omega), ih (by omega)]
theorem mem_pow {n s : Nat} (h : s < n) : mem n (bit s) = [s] := by
  induction n with
  | zero => omega
  | succ n ih =>
    by_cases hs : s = n
    · subst hs
      rw [mem_yes (by rw [bit_test]; simp), mem_pow_ge (Nat.le_refl _)]; rfl
    · rw [mem_no (by rw [bit_test]; simp; omega), ih (by omega)]
theorem mem_or_ge {n m t : Nat} (h : n ≤ t) : mem n (ins m t) = mem n m := by
  unfold mem
  apply List.filter_congr
  intro x hx
  have := List.mem_range.1 hx
  rw [ins_test]
  have h2 : ¬ t = x := by omega
  simp [h2]
theorem cnt_or {n m t : Nat} (ht : t < n) (hm : m.testBit t = false) : (mem n (ins m t)).length = (mem n m).length + 1 := by
  induction n with
  | zero => omega
  | succ n ih =>
    by_cases h : t = n
    · subst h
      rw [mem_yes (by rw [ins_test]; simp), mem_no hm, mem_or_ge (Nat.le_refl _)]
      simp
    · have := ih (by omega)
      have hb : (ins m t).testBit n = m.testBit n := by
        rw [ins_test]
        simp [h]
      cases hn : m.testBit n with
      | false => rw [mem_no (by rw [hb, hn]), mem_no hn, this]
      | true => rw [mem_yes (by rw [hb, hn]), mem_yes hn, List.length_append, List.length_append, this]; rfl
theorem ins_lt {n m t : Nat} (hm : m < 2 ^ n) (ht : t < n) : ins m t < 2 ^ n := Nat.or_lt_two_pow hm (Nat.pow_lt_pow_right (by omega) ht)
theorem foldl_inv {α β : Type} {P : α → Prop} {f : α → β → α} (h : ∀ m x, P m → P (f m x)) : ∀ (l : List β) (m : α), P m → P (l.foldl f m)
  | [], _, hm => hm
  | x :: l, m, hm => foldl_inv h l (f m x) (h m x hm)

theorem foldl_take {α β : Type} {f : α → β → α} {xs : List β} {i : Nat} {x : β} (h : xs[i]? = some x) (z : α) : (xs.take (i + 1)).foldl f z = f ((xs.take i).foldl f z) x := by
  rw [take_snoc h, List.foldl_append]; rfl

/-! ### Steps of the automaton -/
def mv (a : Au) (s l : Nat) : Int := (a.next.getD s []).getD l (-1)
theorem mv_of {a : Au} {s l : Nat} {row : List Int} {t : Int} (hr : a.next[s]? = some row) (ht : row[l]? = some t) : mv a s l = t := by
  simp [mv, List.getD, hr, ht]
theorem mv_lt {a : Au} (h : auOk a = true) (s l : Nat) : -1 ≤ mv a s l ∧ mv a s l ≤ (a.accept.length : Int) - 1 := by
  obtain ⟨⟨h1, _⟩, _, _, hr⟩ := auOk_iff.1 h
  unfold mv
  cases hs : a.next[s]? with
  | none => simp [List.getD, hs]; omega
  | some row =>
    obtain ⟨hrow, _⟩ := rowOk_iff.1 (hr row (List.mem_of_getElem? hs))
    cases ht : row[l]? with
    | none => simp [List.getD, hs, ht]; omega
    | some t =>
      simp only [List.getD, hs, ht, Option.getD_some]
      exact hrow t (List.mem_of_getElem? ht)
/-- what the loop 'while s is a state that is not in the set' gathers -/
def clsF (a : Au) (l : Nat) : Nat → Int → Nat → Nat
  | 0, _, m => m
  | f + 1, s, m => if 0 ≤ s ∧ m.testBit s.toNat = false then clsF a l f (mv a s.toNat l) (ins m s.toNat) else m
def cls (a : Au) (v s : Nat) : Nat := clsF a (6 + v) 13 s 0
theorem clsF_lt {a : Au} (h : auOk a = true) (l : Nat) : ∀ (f : Nat) (s : Int) (m : Nat), s < (a.accept.length : Int) → m < 2 ^ a.accept.length → clsF a l f s m < 2 ^ a.accept.length := by
  intro f
  induction f with
  | zero => intro s m _ hm; exact hm
  | succ f ih =>
    intro s m hs hm
    rw [clsF]
    split
    · rename_i hc
      exact ih _ _ (by have := (mv_lt h s.toNat l).2; omega) (ins_lt hm (by omega))
    · exact hm
theorem cls_lt {a : Au} (h : auOk a = true) (v s : Nat) (hs : s < a.accept.length) : cls a v s < 2 ^ a.accept.length := clsF_lt h _ _ _ _ (by omega) (Nat.two_pow_pos _)
theorem clsF_stop {a : Au} {l : Nat} {f : Nat} {s : Int} {m : Nat} (h : s < 0 ∨ m.testBit s.toNat = true) : clsF a l f s m = m := by
  cases f with
  | zero => rfl
  | succ f =>
    rw [clsF, if_neg]
    rintro ⟨h1, h2⟩
    rcases h with h | h
    · omega
    · rw [h] at h2; cases h2
theorem clsF_go {a : Au} {l : Nat} {f s : Nat} {m : Nat} (h : m.testBit s = false) : clsF a l (f + 1) s m = clsF a l f (mv a s l) (ins m s) := by
  rw [clsF, if_pos ⟨by omega, by simpa using h⟩]
  simp

def aft1 (a : Au) (l : Nat) (m t : Nat) : Nat := if 0 ≤ mv a t l then ins m (mv a t l).toNat else m
def aftS (a : Au) (v l : Nat) (m s : Nat) : Nat := (mem 12 (cls a v s)).foldl (aft1 a l) m
def aft (a : Au) (set v l : Nat) : Nat := (mem 12 set).foldl (aftS a v l) 0
theorem aft1_lt {a : Au} (h : auOk a = true) (l m t : Nat) (hm : m < 2 ^ a.accept.length) : aft1 a l m t < 2 ^ a.accept.length := by
  unfold aft1
  split
  · have := (mv_lt h t l).2
    exact ins_lt hm (by omega)
  · exact hm
theorem aftS_lt {a : Au} (h : auOk a = true) (v l m s : Nat) (hm : m < 2 ^ a.accept.length) : aftS a v l m s < 2 ^ a.accept.length :=
  foldl_inv (P := fun m => m < 2 ^ a.accept.length) (fun m x hm => aft1_lt h l m x hm) _ _ hm
theorem aft_lt {a : Au} (h : auOk a = true) (set v l : Nat) : aft a set v l < 2 ^ a.accept.length :=
  foldl_inv (P := fun m => m < 2 ^ a.accept.length) (fun m x hm => aftS_lt h v l m x hm) _ _ (Nat.two_pow_pos _)
theorem lt12 {a : Au} (h : auOk a = true) {m : Nat} (hm : m < 2 ^ a.accept.length) : m < 4096 := by
  have h1 : a.accept.length ≤ 12 := (auOk_iff.1 h).1.2
  exact Nat.lt_of_lt_of_le hm (Nat.pow_le_pow_right (by omega) h1 : 2 ^ a.accept.length ≤ 2 ^ 12)
theorem mem12 {a : Au} (h : auOk a = true) {m : Nat} (hm : m < 2 ^ a.accept.length) : mem 12 m = mem a.accept.length m := mem_stop hm (auOk_iff.1 h).1.2
theorem aft_one {a : Au} (v l : Nat) {s : Nat} (hs : s < 12) : aft a (bit s) v l = (mem 12 (cls a v s)).foldl (aft1 a l) 0 := by
  rw [aft, mem_pow hs]; rfl

def accC (a : Au) (v s : Nat) : Bool := (mem 12 (cls a v s)).any fun t => a.accept.getD t false
def acc (a : Au) (set v : Nat) : Bool := (mem 12 set).any (accC a v)
theorem acc_one (a : Au) (v : Nat) {s : Nat} (hs : s < 12) : acc a (bit s) v = accC a v s := by rw [acc, mem_pow hs]; simp

/-! ### Steps of the graph -/
abbrev Arc := St × Int × Int
def arcE (x : Int) (e : Ed) : List Arc := (if e.2.1 = x then [((e.1, false), 2 * e.2.2.2, e.2.2.1)] else []) ++ (if e.2.2.1 = x then [((e.1, true), 2 * e.2.2.2 + 1, e.2.1)] else [])
def arcsOf (g : Gr) (x : Int) : List Arc := g.edges.flatMap (arcE x)
theorem flat_take {α β : Type} {f : α → List β} {xs : List α} {i : Nat} {x : α} (h : xs[i]? = some x) : (xs.take (i + 1)).flatMap f = (xs.take i).flatMap f ++ f x := by
  rw [take_snoc h, List.flatMap_append]; simp
theorem mem_arcE {x : Int} {e : Ed} {y : Arc} : y ∈ arcE x e ↔ (e.2.1 = x ∧ y = ((e.1, false), 2 * e.2.2.2, e.2.2.1)) ∨ (e.2.2.1 = x ∧ y = ((e.1, true), 2 * e.2.2.2 + 1, e.2.1)) := by
  unfold arcE
  rw [List.mem_append]
  by_cases h1 : e.2.1 = x <;> by_cases h2 : e.2.2.1 = x <;> simp [h1, h2]
theorem ids_lt {g : Gr} (hg : GrOk g) : ∀ (k i : Nat) (p e : Ed), g.edges[i]? = some p → g.edges[i + 1 + k]? = some e → p.1 < e.1 := by
  intro k
  induction k with
  | zero => intro i p e hp he; exact hg.asc i p e hp he
  | succ k ih =>
    intro i p e hp he
    have hlt := (List.getElem?_eq_some_iff.1 he).1
    have hq : g.edges[i + 1 + k]? = some g.edges[i + 1 + k] := List.getElem?_eq_getElem (by omega)
    exact Int.lt_trans (ih i p _ hp hq) (hg.asc _ _ _ hq he)
theorem edgeIdx_at {g : Gr} (hg : GrOk g) {i : Nat} {e : Ed} (he : g.edges[i]? = some e) : edgeIdx g e.1 = i := by
  refine edgeIdx_some he rfl fun y hy hye => ?_
  obtain ⟨j, hj, hjy⟩ := List.getElem_of_mem hy
  rw [List.length_take] at hj
  rw [List.getElem_take] at hjy
  have hj' : g.edges[j]? = some y := by rw [← hjy]; exact List.getElem?_eq_getElem (by omega)
  have := ids_lt hg (i - j - 1) j y e hj' (by rw [show j + 1 + (i - j - 1) = i by omega]; exact he)
  omega
def arcLetter (b : Bool) (e : Ed) : Int := if b then 2 * e.2.2.2 + 1 else 2 * e.2.2.2
def arcTo (b : Bool) (e : Ed) : Int := if b then e.2.1 else e.2.2.1
theorem arc_edge {g : Gr} (hg : GrOk g) {x : Int} {y : Arc} (hy : y ∈ arcsOf g x) :
    ∃ (i : Nat) (e : Ed), edgeIdx g y.1.1 = i ∧ g.edges[i]? = some e ∧ y.2.1 = arcLetter y.1.2 e ∧ y.2.2 = arcTo y.1.2 e ∧ e.1 = y.1.1 ∧ e ∈ g.edges := by
  obtain ⟨e, he, hye⟩ := List.mem_flatMap.1 hy
  obtain ⟨i, hi, hie⟩ := List.getElem_of_mem he
  have hi' : g.edges[i]? = some e := by rw [← hie]; exact List.getElem?_eq_getElem hi
  have hx := edgeIdx_at hg hi'
  rcases mem_arcE.1 hye with ⟨_, rfl⟩ | ⟨_, rfl⟩
  · exact ⟨i, e, hx, hi', rfl, rfl, rfl, he⟩
  · exact ⟨i, e, hx, hi', rfl, rfl, rfl, he⟩
theorem arc_range {g : Gr} (hg : GrOk g) {x : Int} {y : Arc} (hy : y ∈ arcsOf g x) : (0 ≤ y.2.1 ∧ y.2.1 ≤ 5) ∧ 0 ≤ y.2.2 ∧ y.2.2 ≤ (g.vals.length : Int) - 1 := by
  obtain ⟨i, e, _, _, h1, h2, _, he⟩ := arc_edge hg hy
  obtain ⟨_, h3, h4, h5⟩ := hg.edges e he
  rw [h1, h2]
  unfold arcLetter arcTo
  split <;> omega
theorem arcE_len (x : Int) (e : Ed) : (arcE x e).length ≤ 2 := by
  unfold arcE
  rw [List.length_append]
  split <;> split <;> simp
theorem flat_len {α β : Type} {f : α → List β} {k : Nat} (h : ∀ x, (f x).length ≤ k) : ∀ xs : List α, (xs.flatMap f).length ≤ xs.length * k
  | [] => by simp
  | x :: xs => by
    have := flat_len h xs
    rw [List.flatMap_cons, List.length_append, List.length_cons, Nat.succ_mul]
    have := h x
    omega
theorem arcs_len {g : Gr} (hg : GrOk g) (x : Int) : (arcsOf g x).length ≤ 24 := by
  have := flat_len (arcE_len x) g.edges
  have := hg.e12
  unfold arcsOf
  omega

/-! ### Vertices: node * n + state -/
def valAt (g : Gr) (x : Nat) : Nat := (g.vals.getD x 0).toNat
theorem valAt_of {g : Gr} {x : Nat} {v : Int} (h : g.vals[x]? = some v) : valAt g x = v.toNat := by simp [valAt, List.getD, h]
theorem valAt_lt {g : Gr} (hg : GrOk g) (x : Nat) : valAt g x ≤ 2 := by
  unfold valAt
  cases h : g.vals[x]? with
  | none => simp [List.getD, h]
  | some v =>
    have := hg.vals v (List.mem_of_getElem? h)
    simp only [List.getD, h, Option.getD_some]
    omega
/-- the vertices behind vertex (x, s) by one arc -/
def nextA (g : Gr) (a : Au) (x s : Nat) (y : Arc) : List Nat := (mem 12 (aft a (bit s) (valAt g x) y.2.1.toNat)).map fun t => y.2.2.toNat * a.accept.length + t
def nextV (g : Gr) (a : Au) (x s : Nat) : List Nat := (arcsOf g (x : Int)).flatMap (nextA g a x s)
def nextI (g : Gr) (a : Au) (i : Nat) : List Nat := nextV g a (i / a.accept.length) (i % a.accept.length)
theorem nextV_lt {g : Gr} {a : Au} (hg : GrOk g) (ha : auOk a = true) {x s k : Nat} (h : k ∈ nextV g a x s) : k < g.vals.length * a.accept.length := by
  obtain ⟨y, hy, hk⟩ := List.mem_flatMap.1 h
  obtain ⟨t, ht, rfl⟩ := List.mem_map.1 hk
  have h1 := (arc_range hg hy).2
  have h2 := aft_lt ha (bit s) (valAt g x) y.2.1.toNat
  rw [mem12 ha h2, mem_mem] at ht
  have h3 : y.2.2.toNat + 1 ≤ g.vals.length := by omega
  have h4 := Nat.mul_le_mul_right a.accept.length h3
  rw [Nat.succ_mul] at h4
  omega
theorem nextV_len {g : Gr} {a : Au} (hg : GrOk g) (x s : Nat) : (nextV g a x s).length ≤ 288 := by
  have h1 : ∀ y, (nextA g a x s y).length ≤ 12 := fun y => by rw [nextA, List.length_map]; exact mem_len _ _
  have h2 := flat_len h1 (arcsOf g (x : Int))
  have h3 := arcs_len hg (x : Int)
  unfold nextV
  omega

/-! ### Breadth first search -/
def relax (d : Int) : List Nat → List Int → List Nat → List Int × List Nat
  | [], D, q => (D, q)
  | k :: l, D, q => if D.getD k 0 < 0 then relax d l (D.set k d) (q ++ [k]) else relax d l D q
def bfs (next : Nat → List Nat) : Nat → List Int → List Nat → List Int
  | 0, D, _ => D
  | _ + 1, D, [] => D
  | f + 1, D, h :: q => bfs next f (relax (D.getD h 0 + 1) (next h) D q).1 (relax (D.getD h 0 + 1) (next h) D q).2
def negs (D : List Int) : Nat := D.countP (fun x => decide (x < 0))
theorem negs_set {D : List Int} {k : Nat} {d : Int} (hk : k < D.length) (hn : D.getD k 0 < 0) (hd : 0 ≤ d) : negs (D.set k d) + 1 = negs D := by
  induction D generalizing k with
  | nil => simp at hk
  | cons x D ih =>
    cases k with
    | zero =>
      simp only [List.getD_cons_zero] at hn
      have : ¬ d < 0 := by omega
      simp [negs, List.countP_cons, hn, this]
    | succ k =>
      have := ih (k := k) (by simpa using hk) (by simpa using hn)
      simp only [negs, List.set_cons_succ, List.countP_cons] at this ⊢
      omega
/-- what holds of distances D and a queue q, with f rounds left of F -/
structure BfsI (N F f : Nat) (D : List Int) (q : List Nat) : Prop where
  len : D.length = N
  queue : ∀ h ∈ q, h < N ∧ 0 ≤ D.getD h 0
  fuel : q.length + negs D ≤ f
  top : ∀ h, D.getD h 0 + (f : Int) ≤ F
  low : ∀ h, -1 ≤ D.getD h 0
  fF : f ≤ F
theorem getD_set' {D : List Int} {k h : Nat} {d : Int} (hk : k < D.length) : (D.set k d).getD h 0 = if h = k then d else D.getD h 0 := by
  simp only [List.getD, List.getElem?_set]
  by_cases hh : h = k
  · subst hh; simp [hk]
  · simp [hh, Ne.symm hh]
theorem BfsI.new {N F f : Nat} {D : List Int} {q : List Nat} {k : Nat} {d : Int} (h : BfsI N F f D q) (hk : k < N) (hn : D.getD k 0 < 0) (hd : 0 ≤ d) (hdF : d + (f : Int) ≤ F) : BfsI N F f (D.set k d) (q ++ [k]) := by
  have hkl : k < D.length := by rw [h.len]; exact hk
  refine ⟨by rw [List.length_set]; exact h.len, fun x hx => ?_, ?_, fun x => ?_, fun x => ?_, h.fF⟩
  · rw [getD_set' hkl]
    rcases List.mem_append.1 hx with hx | hx
    · have := h.queue x hx
      split
      · exact ⟨this.1, hd⟩
      · exact this
    · have : x = k := by simpa using hx
      subst this
      simp [hk, hd]
  · have := negs_set hkl hn hd
    have := h.fuel
    rw [List.length_append, List.length_singleton]
    omega
  · rw [getD_set' hkl]
    have := h.top x
    split <;> omega
  · rw [getD_set' hkl]
    have := h.low x
    split <;> omega
theorem BfsI.pop {N F f : Nat} {D : List Int} {q : List Nat} {k : Nat} (h : BfsI N F (f + 1) D (k :: q)) : BfsI N F f D q :=
  ⟨h.len, fun x hx => h.queue x (List.mem_cons_of_mem _ hx), by have := h.fuel; rw [List.length_cons] at this; omega, fun x => by have := h.top x; omega, h.low, by have := h.fF; omega⟩
theorem bfs_nil (next : Nat → List Nat) (f : Nat) (D : List Int) : bfs next f D [] = D := by cases f <;> rfl
theorem bfs_len (next : Nat → List Nat) : ∀ (f : Nat) (D : List Int) (q : List Nat), (bfs next f D q).length = D.length := by
  have hr : ∀ (d : Int) (l : List Nat) (D : List Int) (q : List Nat), (relax d l D q).1.length = D.length := by
    intro d l
    induction l with
    | nil => intro D q; rfl
    | cons k l ih =>
      intro D q
      rw [relax]
      split
      · rw [ih, List.length_set]
      · exact ih _ _
  intro f
  induction f with
  | zero => intro D q; rfl
  | succ f ih =>
    intro D q
    cases q with
    | nil => rfl
    | cons h q => rw [bfs, ih, hr]
end Go.Proofs.Ytmlfkledhnlkeaa

/- Valid graphs and automata in memory: their shape and their cells, ready for a walk. Nothing of the program. -/
namespace Go.Proofs.Ytmlfkledhnlkeaa
set_option linter.unusedVariables false
set_option linter.unusedSimpArgs false
open Go.ChangeShapes Go.WideShapes Go.ChangeAt Go.RowKit

theorem bcell {w w' : World} (hb : Below w.heap.size w w') {b o : Nat} {v : Value} (h : w.cell? ⟨b, o, none⟩ = some v) (hl : b < w.heap.size) : w'.cell? ⟨b, o, none⟩ = some v := (hb.cell (p := ⟨b, o, none⟩) hl).trans h

/-- slice value v, of n elements, at A with capacity c; element i (k cells E x) lies in a block below H -/
structure SlC {α : Type} (H : Nat) (w : World) (E : α → List Value) (k : Nat) (A : Option Addr) (xs : List α) : Prop where
  at_ : ∀ i x, xs[i]? = some x → ∃ b o, A = some ⟨b, o, none⟩ ∧ b < H ∧ ∀ j u, (E x)[j]? = some u → w.cell? ⟨b, o + i * k + j, none⟩ = some u
theorem SlE.form {α : Type} {w : World} {E : α → List Value} {k : Nat} {v : Value} {xs : List α} (h : SlE w E k v xs) :
    ∃ A c, v = .slice A xs.length c ∧ xs.length ≤ c ∧ c ≤ 9223372036854775807 ∧ SlC w.heap.size w E k A xs := by
  obtain ⟨A, c, rfl, h1, h2, h3⟩ := h
  exact ⟨A, c, rfl, h1, by simpa [maxLen] using h2, ⟨fun i x hx => by obtain ⟨b, o, e, _, g, h⟩ := h3 i x hx; exact ⟨b, o, e, g, h⟩⟩⟩
theorem SlC.keep {α : Type} {w w' : World} {E : α → List Value} {k : Nat} {A : Option Addr} {xs : List α} (h : SlC w.heap.size w E k A xs) (hb : Below w.heap.size w w') : SlC w'.heap.size w' E k A xs :=
  ⟨fun i x hx => by obtain ⟨b, o, e, g, h⟩ := h.at_ i x hx; exact ⟨b, o, e, Nat.lt_of_lt_of_le g hb.size, fun j u hu => (hb.cell (p := ⟨_, _, none⟩) g).trans (h j u hu)⟩⟩
/-- an int, a bool: one cell -/
theorem SlC.int {H : Nat} {w : World} {A : Option Addr} {xs : List Int} (h : SlC H w cI 1 A xs) {i : Nat} {x : Int} (hx : xs[i]? = some x) : ∃ b o, A = some ⟨b, o, none⟩ ∧ b < H ∧ w.cell? ⟨b, o + i, none⟩ = some (.int .i64 x) := by
  obtain ⟨b, o, e, g, h⟩ := h.at_ i x hx
  exact ⟨b, o, e, g, by simpa using h 0 _ rfl⟩
theorem SlC.bool {H : Nat} {w : World} {A : Option Addr} {xs : List Bool} (h : SlC H w cB 1 A xs) {i : Nat} {x : Bool} (hx : xs[i]? = some x) : ∃ b o, A = some ⟨b, o, none⟩ ∧ b < H ∧ w.cell? ⟨b, o + i, none⟩ = some (.bool x) := by
  obtain ⟨b, o, e, g, h⟩ := h.at_ i x hx
  exact ⟨b, o, e, g, by simpa using h 0 _ rfl⟩
theorem SlC.val {H : Nat} {w : World} {A : Option Addr} {xs : List Value} (h : SlC H w cV 1 A xs) {i : Nat} {x : Value} (hx : xs[i]? = some x) : ∃ b o, A = some ⟨b, o, none⟩ ∧ b < H ∧ w.cell? ⟨b, o + i, none⟩ = some x := by
  obtain ⟨b, o, e, g, h⟩ := h.at_ i x hx
  exact ⟨b, o, e, g, by simpa using h 0 _ rfl⟩
theorem SlC.ed {H : Nat} {w : World} {A : Option Addr} {xs : List Ed} (h : SlC H w cEd 4 A xs) {i : Nat} {e : Ed} (hx : xs[i]? = some e) :
    ∃ b o, A = some ⟨b, o, none⟩ ∧ b < H ∧ w.cell? ⟨b, o + i * 4, none⟩ = some (.int .i64 e.1) ∧ w.cell? ⟨b, o + i * 4 + 1, none⟩ = some (.int .i64 e.2.1) ∧ w.cell? ⟨b, o + i * 4 + 2, none⟩ = some (.int .i64 e.2.2.1) ∧ w.cell? ⟨b, o + i * 4 + 3, none⟩ = some (.int .i64 e.2.2.2) := by
  obtain ⟨b, o, e, g, h⟩ := h.at_ i e hx
  exact ⟨b, o, e, g, by simpa using h 0 _ rfl, h 1 _ rfl, h 2 _ rfl, h 3 _ rfl⟩
theorem SlC.st {H : Nat} {w : World} {A : Option Addr} {xs : List St} (h : SlC H w cSt 2 A xs) {i : Nat} {e : St} (hx : xs[i]? = some e) :
    ∃ b o, A = some ⟨b, o, none⟩ ∧ b < H ∧ w.cell? ⟨b, o + i * 2, none⟩ = some (.int .i64 e.1) ∧ w.cell? ⟨b, o + i * 2 + 1, none⟩ = some (.bool e.2) := by
  obtain ⟨b, o, e, g, h⟩ := h.at_ i e hx
  exact ⟨b, o, e, g, by simpa using h 0 _ rfl, h 1 _ rfl⟩

/-- a valid automaton: the rows lie at A2, each of nine cells -/
structure AuC (w : World) (A1 A2 : Option Addr) (a : Au) : Prop where
  acc : SlC w.heap.size w cB 1 A1 a.accept
  row : ∀ i, i < a.accept.length → ∃ b o b3 o3 c3, A2 = some ⟨b, o, none⟩ ∧ b < w.heap.size ∧ w.cell? ⟨b, o + i, none⟩ = some (.slice (some ⟨b3, o3, none⟩) 9 c3) ∧ 9 ≤ c3 ∧ c3 ≤ 9223372036854775807 ∧ b3 < w.heap.size ∧ ∀ l, l < 9 → w.cell? ⟨b3, o3 + l, none⟩ = some (.int .i64 (mv a i l))
theorem AuV.form {w : World} {v : Value} {a : Au} (h : AuV 0 w.heap.size w v a) (hok : auOk a = true) :
    ∃ A1 c1 A2 c2, v = .agg #[.int .i64 a.start, .slice A1 a.accept.length c1, .slice A2 a.accept.length c2] ∧ a.accept.length ≤ c1 ∧ c1 ≤ 9223372036854775807 ∧ a.accept.length ≤ c2 ∧ c2 ≤ 9223372036854775807 ∧ AuC w A1 A2 a := by
  obtain ⟨⟨-, -⟩, -, hnl, hrk⟩ := auOk_iff.1 hok
  obtain ⟨ac, nx, rfl, h1, us, h2, hul, hrows⟩ := h
  obtain ⟨A1, c1, rfl, h3, h4, h5⟩ := SlE.form h1
  obtain ⟨A2, c2, rfl, h6, h7, h8⟩ := SlE.form h2
  rw [hul, hnl] at h6 ⊢
  refine ⟨A1, c1, A2, c2, rfl, h3, h4, h6, h7, h5, fun i hi => ?_⟩
  have hin : i < a.next.length := by omega
  have hiu : i < us.length := by omega
  have hxi : a.next[i]? = some a.next[i] := List.getElem?_eq_getElem hin
  obtain ⟨b, o, rfl, hb, hc⟩ := h8.val (List.getElem?_eq_getElem hiu)
  have hrl := (rowOk_iff.1 (hrk _ (List.getElem_mem hin))).2
  obtain ⟨A3, c3, hv3, h9, h10, h11⟩ := SlE.form (hrows i us[i] _ (List.getElem?_eq_getElem hiu) hxi)
  rw [hrl] at hv3 h9
  obtain ⟨b3, o3, rfl, hb3, -⟩ := h11.int (i := 0) (List.getElem?_eq_getElem (by omega))
  refine ⟨b, o, b3, o3, c3, rfl, hb, by rw [hc, hv3], h9, h10, hb3, fun l hl => ?_⟩
  have hti : a.next[i][l]? = some a.next[i][l] := List.getElem?_eq_getElem (by omega)
  obtain ⟨b4, o4, he, hb4, hc4⟩ := h11.int hti
  simp only [Option.some.injEq, Addr.mk.injEq, and_true] at he
  obtain ⟨rfl, rfl⟩ := he
  rw [hc4, mv_of hxi hti]
theorem AuC.keep {w w' : World} {A1 A2 : Option Addr} {a : Au} (h : AuC w A1 A2 a) (hb : Below w.heap.size w w') : AuC w' A1 A2 a := by
  refine ⟨h.acc.keep hb, fun i hi => ?_⟩
  obtain ⟨b, o, b3, o3, c3, e, h1, h2, h3, h4, h5, h6⟩ := h.row i hi
  exact ⟨b, o, b3, o3, c3, e, Nat.lt_of_lt_of_le h1 hb.size, (hb.cell (p := ⟨_, _, none⟩) h1).trans h2, h3, h4, Nat.lt_of_lt_of_le h5 hb.size, fun l hl => (hb.cell (p := ⟨_, _, none⟩) h5).trans (h6 l hl)⟩
/-- a graph: values at A1, edges at A2 -/
theorem GrV.form {w : World} {v : Value} {g : Gr} (h : GrV 0 w.heap.size w v g) :
    ∃ A1 c1 A2 c2, v = .agg #[.slice A1 g.vals.length c1, .slice A2 g.edges.length c2] ∧ g.vals.length ≤ c1 ∧ c1 ≤ 9223372036854775807 ∧ g.edges.length ≤ c2 ∧ c2 ≤ 9223372036854775807 ∧ SlC w.heap.size w cI 1 A1 g.vals ∧ SlC w.heap.size w cEd 4 A2 g.edges := by
  obtain ⟨vs, es, rfl, h1, h2⟩ := h
  obtain ⟨A1, c1, rfl, h3, h4, h5⟩ := SlE.form h1
  obtain ⟨A2, c2, rfl, h6, h7, h8⟩ := SlE.form h2
  exact ⟨A1, c1, A2, c2, rfl, h3, h4, h6, h7, h5, h8⟩
theorem WkV.form {w : World} {v : Value} {k : Wk} (h : WkV 0 w.heap.size w v k) :
    ∃ A1 c1, v = .agg #[.int .i64 k.1, .slice A1 k.2.length c1] ∧ k.2.length ≤ c1 ∧ c1 ≤ 9223372036854775807 ∧ SlC w.heap.size w cSt 2 A1 k.2 := by
  obtain ⟨ss, rfl, h1⟩ := h
  obtain ⟨A1, c1, rfl, h3, h4, h5⟩ := SlE.form h1
  exact ⟨A1, c1, rfl, h3, h4, h5⟩
end Go.Proofs.Ytmlfkledhnlkeaa

/- Ints as sets of small numbers: what Go's shifts, ands and ors come to. -/
namespace Go.Proofs.Ytmlfkledhnlkeaa
set_option linter.unusedVariables false
set_option linter.unusedSimpArgs false
open Go.ChangeShapes Go.WideShapes Go.ChangeAt Go.RowKit

theorem wrap_small {n : Int} (h0 : 0 ≤ n) (h1 : n < 9223372036854775808) : IntKind.i64.wrap n = n := by rw [IntKind.wrap_i64]; omega
theorem wrap64_small {n : Int} (h0 : 0 ≤ n) (h1 : n < 9223372036854775808) : wrap64 n = n := IntWalk.wrap64_in n ⟨by omega, by omega⟩
theorem i64_and_nat (a b : Nat) (ha : a < 2 ^ 62) (hb : b < 2 ^ 62) : bits .and .i64 (a : Int) (b : Int) = ((a &&& b : Nat) : Int) :=
  (bits_nat .i64 62 (by decide) (fun n h0 h1 => wrap_small h0 (by omega)) a b ha hb).1
theorem i64_or_nat (a b : Nat) (ha : a < 2 ^ 62) (hb : b < 2 ^ 62) : bits .or .i64 (a : Int) (b : Int) = ((a ||| b : Nat) : Int) :=
  (bits_nat .i64 62 (by decide) (fun n h0 h1 => wrap_small h0 (by omega)) a b ha hb).2
theorem shr_nat (m s : Nat) (_ : s ≤ 64) : (m : Int) / 2 ^ s = ((m / 2 ^ s : Nat) : Int) := by
  simp
/-- 1 << s -/
theorem shl_bit {s : Nat} (hs : s < 62) : wrap64 (2 ^ s) = (bit s : Int) := by
  have h1 : (2 : Int) ^ s = ((2 ^ s : Nat) : Int) := by simp
  have h2 : 2 ^ s < 2 ^ 62 := Nat.pow_lt_pow_right (by omega) hs
  rw [h1]
  show _ = ((2 ^ s : Nat) : Int)
  generalize 2 ^ s = k at h2 ⊢
  exact wrap64_small (by omega) (by omega)
theorem shl_bit2 {s : Nat} (hs : s < 62) : IntKind.i64.wrap (2 ^ s) = (bit s : Int) := by
  have h1 : (2 : Int) ^ s = ((2 ^ s : Nat) : Int) := by simp
  have h2 : 2 ^ s < 2 ^ 62 := Nat.pow_lt_pow_right (by omega) hs
  rw [h1]
  show _ = ((2 ^ s : Nat) : Int)
  generalize 2 ^ s = k at h2 ⊢
  exact IntWalk.i64_in _ (by omega)
theorem shl_bit3 {s : Nat} (hs : s < 62) : IntKind.i64.wrap (2 ^ min s 64) = (bit s : Int) := by rw [Nat.min_eq_left (by omega)]; exact shl_bit2 hs
/-- m | 1 << s -/
theorem or_ins {m s : Nat} (hm : m < 2 ^ 62) (hs : s < 62) : bits .or .i64 (m : Int) (bit s : Int) = (ins m s : Int) :=
  i64_or_nat m (bit s) hm (bit_lt hs)
/-- m >> s & 1 -/
theorem and_bit {m s : Nat} (hm : m < 2 ^ 62) (hs : s ≤ 64) : bits .and .i64 ((m : Int) / 2 ^ s) 1 = if m.testBit s = true then 1 else 0 := by
  have h1 : m / 2 ^ s < 2 ^ 62 := Nat.lt_of_le_of_lt (Nat.div_le_self _ _) hm
  rw [shr_nat m s hs, show (1 : Int) = ((1 : Nat) : Int) by rfl, i64_and_nat _ _ h1 (by decide), nat_mask1, Nat.testBit_eq_decide_div_mod_eq]
  have h2 := Nat.mod_two_eq_zero_or_one (m / 2 ^ s)
  rcases h2 with h2 | h2 <;> simp [h2]
theorem bit_on {m s : Nat} (hm : m < 2 ^ 62) (hs : s ≤ 64) (h : m.testBit s = true) : bits .and .i64 ((m : Int) / 2 ^ s) 1 = 1 := by rw [and_bit hm hs, if_pos h]
theorem bit_off {m s : Nat} (hm : m < 2 ^ 62) (hs : s ≤ 64) (h : m.testBit s = false) : bits .and .i64 ((m : Int) / 2 ^ s) 1 = 0 := by rw [and_bit hm hs, if_neg (by simp [h])]
/-- m >> i != 0 -/
theorem shr_on {m i : Nat} (hi : i ≤ 64) (h : 2 ^ i ≤ m) : ((m : Int) / 2 ^ i != 0) = true := by
  rw [shr_nat m i hi]
  have : 0 < m / 2 ^ i := Nat.div_pos h (Nat.two_pow_pos _)
  simp only [bne_iff_ne, ne_eq]; omega
theorem shr_off {m i : Nat} (hi : i ≤ 64) (h : m < 2 ^ i) : ((m : Int) / 2 ^ i != 0) = false := by
  rw [shr_nat m i hi, Nat.div_eq_of_lt h]; rfl
/-- a natural number as one cell -/
def cN (x : Nat) : List Value := [.int .i64 (x : Int)]
theorem cN_len (x : Nat) : (cN x).length = 1 := rfl
theorem cN_one (x : Nat) : ∀ u ∈ cN x, u.oneCell' = true := by intro u hu; simp only [cN, List.mem_cons, List.not_mem_nil, or_false] at hu; subst hu; rfl
theorem SlC.nat {H : Nat} {w : World} {A : Option Addr} {xs : List Nat} (h : SlC H w cN 1 A xs) {i : Nat} {x : Nat} (hx : xs[i]? = some x) : ∃ b o, A = some ⟨b, o, none⟩ ∧ b < H ∧ w.cell? ⟨b, o + i, none⟩ = some (.int .i64 (x : Int)) := by
  obtain ⟨b, o, e, g, h⟩ := h.at_ i x hx
  exact ⟨b, o, e, g, by simpa using h 0 _ rfl⟩
theorem Own.form {α : Type} {lo : Nat} {w : World} {e : TypeId} {E : α → List Value} {k : Nat} {v : Value} {xs : List α} (h : Own lo w.heap.size w e E k v xs) (hE : ∀ x, (E x).length = k) :
    ∃ A c, v = .slice A xs.length c ∧ xs.length ≤ c ∧ c ≤ 9223372036854775807 ∧ SlC w.heap.size w E k A xs := SlE.form ((h.sl hE).all (Nat.le_refl _))
end Go.Proofs.Ytmlfkledhnlkeaa

