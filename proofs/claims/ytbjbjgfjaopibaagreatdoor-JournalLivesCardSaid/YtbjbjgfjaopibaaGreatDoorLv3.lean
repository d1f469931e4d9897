import Derived.Shelf.Small.Bits
import Derived.Shelf.Strconv.Itoa0
import Derived.Shelf.Sort.Plain
import Derived.Shelf.Strings.Prefix
import Derived.Shelf.Slices.Equal
import Derived.Shelf.Slices.In.SortNone
import Derived.Shelf.Slices.Empties2
import Derived.Shelf.Bytes.SlSearch0
import Derived.Ground.SlbCloneProg
import Derived.Shelf.Bytes.SlClone
import Derived.Shelf.Bytes.SlEqualAll
import Derived.Shelf.Bytes.Small
import Derived.Test.YtbjbjgfjaopibaaGreatDoorProg
import Derived.Test.YtbjbjgfjaopibaaGreatDoorLv2
section
/-
  DERIVED: THE SHELF's CONTRACTS AT THIS DUMP, IN PLAIN WORDS (tools/lay-plain.mjs out of 'TryzShelf.lean', which tools/lay-shelf.mjs wrote): THE SAME DECLARATIONS UNDER THE SAME NAMES: 'import', 'namespace', 'open', 'def', 'theorem' AND NOTHING ELSE: no command of the shelf's: FOR A HAND-IN. Each laying: the table of numbers ('.._ren') and one theorem, a field a fact of the dump's own or the kernel's comparison; each contract: ONE APPLICATION.
-/
namespace Go.Proofs
open Go.Shelf
def Tryz.lays128_ren : Go.Shelf.Ren := ⟨fun | 128 => 105 | n => n, fun | 51 => 122 | 3 => 3 | 4 => 4 | 46 => 24 | 5 => 5 | 9 => 9 | n => n, fun | n => n⟩
theorem Tryz.lays128 : Go.Proofs.Lays.n128 Tryz.prog Tryz.lays128_ren := {
  mixed := by kernel_rfl
  f128 := Tryz.func105.trans (congrArg some (by kernel_rfl))
  t3 := Tryz.underlying3
  a3 := Tryz.isAgg3
  z3 := Tryz.sizeOf3
  v3 := Tryz.zeroValue3
  t4 := Tryz.underlying4
  a4 := Tryz.isAgg4
  z4 := Tryz.sizeOf4
  v4 := Tryz.zeroValue4
  t5 := Tryz.underlying5
  a5 := Tryz.isAgg5
  z5 := Tryz.sizeOf5
  v5 := Tryz.zeroValue5
  t9 := Tryz.underlying9
  a9 := Tryz.isAgg9
  z9 := Tryz.sizeOf9
  v9 := Tryz.zeroValue9
  t46 := Tryz.underlying24
  a46 := Tryz.isAgg24
  z46 := Tryz.sizeOf24
  v46 := Tryz.zeroValue24
  t51 := Tryz.underlying122
  a51 := Tryz.isAgg122
  z51 := Tryz.sizeOf122
  v51 := Tryz.zeroValue122 }
/-- bits.Len32: "Len32 returns the minimum number of bits required to represent x; the result is 0 for x == 0.": IT RETURNS 'Lib.bitLen x'; the world is as it was. ('h0', 'h1': x is a uint32.) (LAID: no walk: one application.) -/
theorem Tryz.bits_Len32 (x : Int) (w : World) (h0 : 0 ≤ x) (h1 : x ≤ 4294967295) :
    Calls Tryz.prog 105 #[.int .u32 x] w fun e w' => e = .returned (.int .i64 (Lib.bitLen x.toNat)) ∧ w' = w := Any.bits_Len32 Tryz.lays128 x w h0 h1
def Tryz.lays125_ren : Go.Shelf.Ren := ⟨fun | 125 => 87 | 128 => 105 | 129 => 106 | n => n, fun | 46 => 24 | 3 => 3 | 51 => 122 | 53 => 97 | 4 => 4 | 5 => 5 | 9 => 9 | n => n, fun | n => n⟩
theorem Tryz.lays125 : Go.Proofs.Lays.n125 Tryz.prog Tryz.lays125_ren := {
  mixed := by kernel_rfl
  f125 := Tryz.func87.trans (congrArg some (by kernel_rfl))
  f128 := Tryz.func105.trans (congrArg some (by kernel_rfl))
  f129 := Tryz.func106.trans (congrArg some (by kernel_rfl))
  t3 := Tryz.underlying3
  a3 := Tryz.isAgg3
  z3 := Tryz.sizeOf3
  v3 := Tryz.zeroValue3
  t4 := Tryz.underlying4
  a4 := Tryz.isAgg4
  z4 := Tryz.sizeOf4
  v4 := Tryz.zeroValue4
  t5 := Tryz.underlying5
  a5 := Tryz.isAgg5
  z5 := Tryz.sizeOf5
  v5 := Tryz.zeroValue5
  t9 := Tryz.underlying9
  a9 := Tryz.isAgg9
  z9 := Tryz.sizeOf9
  v9 := Tryz.zeroValue9
  t46 := Tryz.underlying24
  a46 := Tryz.isAgg24
  z46 := Tryz.sizeOf24
  v46 := Tryz.zeroValue24
  t51 := Tryz.underlying122
  a51 := Tryz.isAgg122
  z51 := Tryz.sizeOf122
  v51 := Tryz.zeroValue122
  t53 := Tryz.underlying97
  a53 := Tryz.isAgg97
  z53 := Tryz.sizeOf97
  v53 := Tryz.zeroValue97 }
/-- bits.Len: "Len returns the minimum number of bits required to represent x; the result is 0 for x == 0.": IT RETURNS 'Lib.bitLen x'; the world is as it was. (A uint has 64 bits in the model.) ITS CALLEE bits.Len64 IS MET BY ITS OWN CONTRACT OFF THE SHELF (lay that first). (LAID: no walk: one application.) -/
theorem Tryz.bits_Len (x : Int) (w : World) (h0 : 0 ≤ x) (h1 : x ≤ 18446744073709551615) :
    Calls Tryz.prog 87 #[.int .u64 x] w fun e w' => e = .returned (.int .i64 (Lib.bitLen x.toNat)) ∧ w' = w := Any.bits_Len Tryz.lays125 x w h0 h1
def Tryz.lays129_ren : Go.Shelf.Ren := ⟨fun | 129 => 106 | n => n, fun | 53 => 97 | 3 => 3 | 4 => 4 | 46 => 24 | 5 => 5 | 9 => 9 | n => n, fun | n => n⟩
theorem Tryz.lays129 : Go.Proofs.Lays.n129 Tryz.prog Tryz.lays129_ren := {
  mixed := by kernel_rfl
  f129 := Tryz.func106.trans (congrArg some (by kernel_rfl))
  t3 := Tryz.underlying3
  a3 := Tryz.isAgg3
  z3 := Tryz.sizeOf3
  v3 := Tryz.zeroValue3
  t4 := Tryz.underlying4
  a4 := Tryz.isAgg4
  z4 := Tryz.sizeOf4
  v4 := Tryz.zeroValue4
  t5 := Tryz.underlying5
  a5 := Tryz.isAgg5
  z5 := Tryz.sizeOf5
  v5 := Tryz.zeroValue5
  t9 := Tryz.underlying9
  a9 := Tryz.isAgg9
  z9 := Tryz.sizeOf9
  v9 := Tryz.zeroValue9
  t46 := Tryz.underlying24
  a46 := Tryz.isAgg24
  z46 := Tryz.sizeOf24
  v46 := Tryz.zeroValue24
  t53 := Tryz.underlying97
  a53 := Tryz.isAgg97
  z53 := Tryz.sizeOf97
  v53 := Tryz.zeroValue97 }
/-- bits.Len64: "Len64 returns the minimum number of bits required to represent x; the result is 0 for x == 0.": IT RETURNS 'Lib.bitLen x'; the world is as it was. ('h0', 'h1': x is a uint64.) (LAID: no walk: one application.) -/
theorem Tryz.bits_Len64 (x : Int) (w : World) (h0 : 0 ≤ x) (h1 : x ≤ 18446744073709551615) :
    Calls Tryz.prog 106 #[.int .u64 x] w fun e w' => e = .returned (.int .i64 (Lib.bitLen x.toNat)) ∧ w' = w := Any.bits_Len64 Tryz.lays129 x w h0 h1
def Tryz.lays190_ren : Go.Shelf.Ren := ⟨fun | 190 => 75 | 125 => 87 | 258 => 86 | 128 => 105 | 129 => 106 | 302 => 96 | 303 => 97 | 304 => 98 | 305 => 99 | 306 => 100 | 307 => 101 | 308 => 102 | 309 => 103 | 310 => 104 | 333 => 112 | 329 => 113 | 330 => 114 | 334 => 115 | 335 => 116 | 336 => 117 | 344 => 120 | n => n, fun | 31 => 39 | 9 => 9 | 3 => 3 | 46 => 24 | 0 => 0 | 51 => 122 | 53 => 97 | 4 => 4 | 183 => 127 | 182 => 126 | 131 => 131 | 5 => 5 | 218 => 147 | 222 => 151 | 228 => 156 | 229 => 157 | n => n, fun | n => n⟩
theorem Tryz.lays190 : Go.Proofs.Lays.n190 Tryz.prog Tryz.lays190_ren := {
  mixed := by kernel_rfl
  f125 := Tryz.func87.trans (congrArg some (by kernel_rfl))
  f128 := Tryz.func105.trans (congrArg some (by kernel_rfl))
  f129 := Tryz.func106.trans (congrArg some (by kernel_rfl))
  f190 := Tryz.func75.trans (congrArg some (by kernel_rfl))
  f258 := Tryz.func86.trans (congrArg some (by kernel_rfl))
  f302 := Tryz.func96.trans (congrArg some (by kernel_rfl))
  f303 := Tryz.func97.trans (congrArg some (by kernel_rfl))
  f304 := Tryz.func98.trans (congrArg some (by kernel_rfl))
  f305 := Tryz.func99.trans (congrArg some (by kernel_rfl))
  f306 := Tryz.func100.trans (congrArg some (by kernel_rfl))
  f307 := Tryz.func101.trans (congrArg some (by kernel_rfl))
  f308 := Tryz.func102.trans (congrArg some (by kernel_rfl))
  f309 := Tryz.func103.trans (congrArg some (by kernel_rfl))
  f310 := Tryz.func104.trans (congrArg some (by kernel_rfl))
  f329 := Tryz.func113.trans (congrArg some (by kernel_rfl))
  f330 := Tryz.func114.trans (congrArg some (by kernel_rfl))
  f333 := Tryz.func112.trans (congrArg some (by kernel_rfl))
  f334 := Tryz.func115.trans (congrArg some (by kernel_rfl))
  f335 := Tryz.func116.trans (congrArg some (by kernel_rfl))
  f336 := Tryz.func117.trans (congrArg some (by kernel_rfl))
  f344 := Tryz.func120.trans (congrArg some (by kernel_rfl))
  t0 := Tryz.underlying0
  a0 := Tryz.isAgg0
  z0 := Tryz.sizeOf0
  v0 := Tryz.zeroValue0
  t3 := Tryz.underlying3
  a3 := Tryz.isAgg3
  z3 := Tryz.sizeOf3
  v3 := Tryz.zeroValue3
  t4 := Tryz.underlying4
  a4 := Tryz.isAgg4
  z4 := Tryz.sizeOf4
  v4 := Tryz.zeroValue4
  t5 := Tryz.underlying5
  a5 := Tryz.isAgg5
  z5 := Tryz.sizeOf5
  v5 := Tryz.zeroValue5
  t9 := Tryz.underlying9
  a9 := Tryz.isAgg9
  z9 := Tryz.sizeOf9
  v9 := Tryz.zeroValue9
  t31 := Tryz.underlying39
  a31 := Tryz.isAgg39
  z31 := Tryz.sizeOf39
  v31 := Tryz.zeroValue39
  t46 := Tryz.underlying24
  a46 := Tryz.isAgg24
  z46 := Tryz.sizeOf24
  v46 := Tryz.zeroValue24
  t51 := Tryz.underlying122
  a51 := Tryz.isAgg122
  z51 := Tryz.sizeOf122
  v51 := Tryz.zeroValue122
  t53 := Tryz.underlying97
  a53 := Tryz.isAgg97
  z53 := Tryz.sizeOf97
  v53 := Tryz.zeroValue97
  t131 := Tryz.underlying131
  a131 := Tryz.isAgg131
  z131 := Tryz.sizeOf131
  v131 := Tryz.zeroValue131
  t182 := Tryz.underlying126
  a182 := Tryz.isAgg126
  z182 := Tryz.sizeOf126
  v182 := Tryz.zeroValue126
  t183 := Tryz.underlying127
  a183 := Tryz.isAgg127
  z183 := Tryz.sizeOf127
  v183 := Tryz.zeroValue127
  t218 := Tryz.underlying147
  a218 := Tryz.isAgg147
  z218 := Tryz.sizeOf147
  v218 := Tryz.zeroValue147
  t222 := Tryz.underlying151
  a222 := Tryz.isAgg151
  z222 := Tryz.sizeOf151
  v222 := Tryz.zeroValue151
  t228 := Tryz.underlying156
  a228 := Tryz.isAgg156
  z228 := Tryz.sizeOf156
  v228 := Tryz.zeroValue156
  t229 := Tryz.underlying157
  a229 := Tryz.isAgg157
  z229 := Tryz.sizeOf157
  v229 := Tryz.zeroValue157 }
open Go.Sort Go.RowKit in
theorem Tryz.slices_Sort_string (blk off cap : Nat) (ss : List (List UInt8)) (w : World) (hH : Holds encStr w blk off ss.toArray) (hblk : blk < w.heap.size) (hsz : ss.length < 4611686018427387904) :
    Calls Tryz.prog 75 #[.slice (some ⟨blk, off, none⟩) ss.length cap] w fun e w' =>
      e = .returned (.tuple #[]) ∧ ∃ n os, w' = grow (putRow encStr (Sort.ahead w n) blk off (ss.mergeSort fun x y => decide (x ≤ y)).toArray) os := Any.slices_Sort_string Tryz.lays190 blk off cap ss w hH hblk hsz
def Tryz.lays206_ren : Go.Shelf.Ren := ⟨fun | 206 => 78 | n => n, fun | 9 => 9 | 4 => 4 | 3 => 3 | n => n, fun | n => n⟩
theorem Tryz.lays206 : Go.Proofs.Lays.n206 Tryz.prog Tryz.lays206_ren := {
  mixed := by kernel_rfl
  f206 := Tryz.func78.trans (congrArg some (by kernel_rfl))
  t3 := Tryz.underlying3
  a3 := Tryz.isAgg3
  z3 := Tryz.sizeOf3
  v3 := Tryz.zeroValue3
  t4 := Tryz.underlying4
  a4 := Tryz.isAgg4
  z4 := Tryz.sizeOf4
  v4 := Tryz.zeroValue4
  t9 := Tryz.underlying9
  a9 := Tryz.isAgg9
  z9 := Tryz.sizeOf9
  v9 := Tryz.zeroValue9 }
open Go.RowKit Go.Lib in
/-- internal/stringslite.HasPrefix (what strings.HasPrefix calls). (LAID: no walk: one application.) -/
theorem Tryz.stringslite_HasPrefix (s p : ByteArray) (w : World) :
    Calls Tryz.prog 78 #[.string s, .string p] w fun e w' => e = .returned (.bool (Lib.hasPrefix s.data.toList p.data.toList)) ∧ w' = w := Any.stringslite_HasPrefix Tryz.lays206 s p w
def Tryz.lays99_ren : Go.Shelf.Ren := ⟨fun | 99 => 57 | 206 => 78 | n => n, fun | 9 => 9 | 4 => 4 | 3 => 3 | n => n, fun | n => n⟩
theorem Tryz.lays99 : Go.Proofs.Lays.n99 Tryz.prog Tryz.lays99_ren := {
  mixed := by kernel_rfl
  f99 := Tryz.func57.trans (congrArg some (by kernel_rfl))
  f206 := Tryz.func78.trans (congrArg some (by kernel_rfl))
  t3 := Tryz.underlying3
  a3 := Tryz.isAgg3
  z3 := Tryz.sizeOf3
  v3 := Tryz.zeroValue3
  t4 := Tryz.underlying4
  a4 := Tryz.isAgg4
  z4 := Tryz.sizeOf4
  v4 := Tryz.zeroValue4
  t9 := Tryz.underlying9
  a9 := Tryz.isAgg9
  z9 := Tryz.sizeOf9
  v9 := Tryz.zeroValue9 }
open Go.RowKit Go.Lib in
/-- strings.HasPrefix: "HasPrefix reports whether the string s begins with prefix.": IT RETURNS 'Lib.hasPrefix s prefix'; the world is as it was. (LAID: no walk: one application.) -/
theorem Tryz.strings_HasPrefix (s p : ByteArray) (w : World) :
    Calls Tryz.prog 57 #[.string s, .string p] w fun e w' => e = .returned (.bool (Lib.hasPrefix s.data.toList p.data.toList)) ∧ w' = w := Any.strings_HasPrefix Tryz.lays99 s p w
def Tryz.lays193_ren : Go.Shelf.Ren := ⟨fun | 193 => 30 | n => n, fun | 31 => 39 | 9 => 9 | 4 => 4 | 3 => 3 | 0 => 0 | n => n, fun | n => n⟩
theorem Tryz.lays193 : Go.Proofs.Lays.n193 Tryz.prog Tryz.lays193_ren := {
  mixed := by kernel_rfl
  f193 := Tryz.func30.trans (congrArg some (by kernel_rfl))
  t0 := Tryz.underlying0
  a0 := Tryz.isAgg0
  z0 := Tryz.sizeOf0
  v0 := Tryz.zeroValue0
  t3 := Tryz.underlying3
  a3 := Tryz.isAgg3
  z3 := Tryz.sizeOf3
  v3 := Tryz.zeroValue3
  t4 := Tryz.underlying4
  a4 := Tryz.isAgg4
  z4 := Tryz.sizeOf4
  v4 := Tryz.zeroValue4
  t9 := Tryz.underlying9
  a9 := Tryz.isAgg9
  z9 := Tryz.sizeOf9
  v9 := Tryz.zeroValue9
  t31 := Tryz.underlying39
  a31 := Tryz.isAgg39
  z31 := Tryz.sizeOf39
  v31 := Tryz.zeroValue39 }
open Go.RowKit Go.Lib in
/-- slices.Equal at []string: "Equal reports whether two slices are equal: the same length and all elements equal. If the lengths are different, Equal returns false. Otherwise, the elements are compared in increasing index order, and the comparison stops at the first unequal pair. Empty and nil slices are considered equal.": IT RETURNS WHETHER THE TWO LISTS OF ELEMENTS ARE ONE; the world is as it was but for the count of draws (the test 's1[i] != s2[i]' has two reads, whose order the model draws, once a round). 'xs', 'ys': what the cells behind the two addresses hold (the spare capacity too, if you have it); 'xs.take n', 'ys.take m': the elements. THE TWO SLICES MAY OVERLAP. (LAID: no walk: one application.) -/
theorem Tryz.slices_Equal_string (b1 o1 n c b2 o2 m d : Nat) (xs ys : List ByteArray) (w : World) (hx : n ≤ xs.length) (hy : m ≤ ys.length) (hbig : n ≤ 9223372036854775807) (hbig2 : m ≤ 9223372036854775807) (hc1 : ∀ j, j < xs.length → w.cell? ⟨b1, o1 + j, none⟩ = some (.string (xs.getD j ByteArray.empty))) (hc2 : ∀ j, j < ys.length → w.cell? ⟨b2, o2 + j, none⟩ = some (.string (ys.getD j ByteArray.empty))) :
    Calls Tryz.prog 30 #[.slice (some ⟨b1, o1, none⟩) n c, .slice (some ⟨b2, o2, none⟩) m d] w fun e w' => e = .returned (.bool (decide (xs.take n = ys.take m))) ∧ ∃ q, w' = w.drewN q := Any.slices_Equal_string Tryz.lays193 b1 o1 n c b2 o2 m d xs ys w hx hy hbig hbig2 hc1 hc2
open Go.RowKit Go.Lib in
/-- The same where the first is of length 0 (a nil one too): no cell is asked for. (LAID: no walk: one application.) -/
theorem Tryz.slices_Equal_string_empty (a1 a2 : Option Addr) (c m d : Nat) (w : World) (hbig2 : m ≤ 9223372036854775807) :
    Calls Tryz.prog 30 #[.slice a1 0 c, .slice a2 m d] w fun e w' => e = .returned (.bool (decide (m = 0))) ∧ w' = w := Any.slices_Equal_string_empty Tryz.lays193 a1 a2 c m d w hbig2
open Go.RowKit Go.Sort in
/-- .. and plain. (LAID: no walk: one application.) -/
theorem Tryz.slices_Sort_string_none (p : Option Addr) (cap : Nat) (w : World) :
    Calls Tryz.prog 75 #[.slice p 0 cap] w fun e w' => e = .returned (.tuple #[]) ∧ w' = w := Any.slices_Sort_string_none Tryz.lays190 p cap w
open Go.RowKit Go.Lib in
theorem Tryz.slices_Equal_string_lens (a1 a2 : Option Addr) (n c m d : Nat) (w : World) (hnm : n ≠ m) :
    Calls Tryz.prog 30 #[.slice a1 n c, .slice a2 m d] w fun e w' => e = .returned (.bool false) ∧ w' = w := Any.slices_Equal_string_lens Tryz.lays193 a1 a2 n c m d w hnm
def Tryz.lays115_ren : Go.Shelf.Ren := ⟨fun | 115 => 24 | n => n, fun | 37 => 22 | 4 => 4 | 9 => 9 | 5 => 5 | n => n, fun | n => n⟩
theorem Tryz.lays115 : Go.Proofs.Lays.n115 Tryz.prog Tryz.lays115_ren := {
  mixed := by kernel_rfl
  f115 := Tryz.func24.trans (congrArg some (by kernel_rfl))
  t4 := Tryz.underlying4
  a4 := Tryz.isAgg4
  z4 := Tryz.sizeOf4
  v4 := Tryz.zeroValue4
  t9 := Tryz.underlying9
  a9 := Tryz.isAgg9
  z9 := Tryz.sizeOf9
  v9 := Tryz.zeroValue9
  t37 := Tryz.underlying22
  a37 := Tryz.isAgg22
  z37 := Tryz.sizeOf22
  v37 := Tryz.zeroValue22 }
open Go.Proofs Go.RowKit Go.Lib in
/-- bytes.Equal, each argument with what 'string(..)' of it gives. (LAID: no walk: one application.) -/
theorem Tryz.bytes_Equal_strs (v1 v2 : Value) (t1 t2 : ByteArray) (w : World) (h1 : (convert 22 9 v1).run Tryz.prog w = .ok (.string t1) w) (h2 : (convert 22 9 v2).run Tryz.prog w = .ok (.string t2) w) :
    Calls Tryz.prog 24 #[v1, v2] w fun e w' => e = .returned (.bool (t1.toList == t2.toList)) ∧ w' = w := Any.bytes_Equal_strs Tryz.lays115 v1 v2 t1 t2 w h1 h2
def Tryz.laysSlK4_ren : Go.Shelf.Ren := ⟨fun | 4 => 9 | n => n, fun | 22 => 22 | 4 => 4 | 5 => 5 | n => n, fun | n => n⟩
theorem Tryz.laysSlK4 : Go.Proofs.SlLaysK.n4 Tryz.prog Tryz.laysSlK4_ren := {
  mixed := by kernel_rfl
  f4 := Tryz.func9.trans (congrArg some (by kernel_rfl))
  t4 := Tryz.underlying4
  a4 := Tryz.isAgg4
  z4 := Tryz.sizeOf4
  v4 := Tryz.zeroValue4
  t22 := Tryz.underlying22
  a22 := Tryz.isAgg22
  z22 := Tryz.sizeOf22
  v22 := Tryz.zeroValue22
  t5 := Tryz.underlying5
  i5 := by kernel_rfl }
open Go.RowKit Go.Lib in
/-- bytes.Clone: "Clone returns a copy of b[:len(b)]. The result may have additional unused capacity.": OF A SLICE THAT IS NOT nil IT RETURNS A SLICE THAT IS NOT nil, OF THE SAME BYTES, IN MEMORY OF THE CALL's OWN: in the how-to's words (6f): 'w'.ownsRow B e 1 v' n cells' · 'Below B w w'', B the heap's size at the call. b AT WHATEVER ADDRESS, its cells as 'open_ints' hands them ('a.add i'; the numbers 'xs'). No byte: no cell is asked for. (LAID: no walk: one application.) -/
theorem Tryz.bytes_Clone_at (a : Addr) (n c : Nat) (xs : List Int) (w : World) (hx : xs.length = n) (hbig : n ≤ 140737488355328) (hc : ∀ i, i < n → w.cell? (a.add i) = some (.int .u8 (xs.getD i 0))) :
    Calls Tryz.prog 9 #[.slice (some a) n c] w fun e w' => ∃ v', e = .returned v' ∧ w'.ownsRow w.heap.size 5 1 v' n (xs.map (Value.int .u8)) ∧ v' ≠ .slice none 0 0 ∧ Below w.heap.size w w' := Any.bytes_Clone_at Tryz.laysSlK4 a n c xs w hx hbig hc
open Go.RowKit Go.Lib in
/-- "Clone(nil) returns nil.": the world is as it was. (LAID: no walk: one application.) -/
theorem Tryz.bytes_Clone_nil (n c : Nat) (w : World) :
    Calls Tryz.prog 9 #[.slice none n c] w fun e w' => e = .returned (.slice none 0 0) ∧ w' = w := Any.bytes_Clone_nil Tryz.laysSlK4 n c w
def Tryz.laysnb115_ren : Go.Shelf.Ren := ⟨fun | 115 => 24 | n => n, fun | 37 => 22 | 4 => 4 | 9 => 9 | 5 => 5 | n => n, fun | n => n⟩
theorem Tryz.laysnb115 : Go.Proofs.Lays.nb115 Tryz.prog Tryz.laysnb115_ren := {
  mixed := by kernel_rfl
  f115 := Tryz.func24.trans (congrArg some (by kernel_rfl))
  t4 := Tryz.underlying4
  a4 := Tryz.isAgg4
  z4 := Tryz.sizeOf4
  v4 := Tryz.zeroValue4
  t9 := Tryz.underlying9
  a9 := Tryz.isAgg9
  z9 := Tryz.sizeOf9
  v9 := Tryz.zeroValue9
  t37 := Tryz.underlying22
  a37 := Tryz.isAgg22
  z37 := Tryz.sizeOf22
  v37 := Tryz.zeroValue22
  t5 := Tryz.underlying5
  a5 := Tryz.isAgg5
  z5 := Tryz.sizeOf5
  v5 := Tryz.zeroValue5 }
/-- bytes.Equal: WHOLE. (LAID: no walk: one application.) -/
theorem Tryz.bytes_Equal_all (p1 p2 : Option Addr) (n c m d : Nat) (xs ys : List Int) (w : World) (hx : xs.length = n) (hy : ys.length = m) (h1 : Lib.BytesIn w p1 n xs) (h2 : Lib.BytesIn w p2 m ys) :
    Calls Tryz.prog 24 #[.slice p1 n c, .slice p2 m d] w fun e w' => e = .returned (.bool (Lib.bytesOf xs == Lib.bytesOf ys)) ∧ w' = w := Any.bytes_Equal_all Tryz.laysnb115 p1 p2 n c m d xs ys w hx hy h1 h2
/-- bytes.Equal: "Equal reports whether a and b are the same length and contain the same bytes. A nil argument is equivalent to an empty slice.": IT RETURNS 'the bytes of the one == the bytes of the other'; the world is as it was. THE TWO ARGUMENTS COME AS WHATEVER VALUES, each with the one fact that the walk wants of it: what 'string(..)' of it gives: for a slice whose cells you know: 'run_convert_bytes_arg' (Derived/Laws/BytesArg.lean) hands that fact; for a nil one: 'run_convert_bytes_nil' (with xs := []). (LAID: no walk: one application.) -/
theorem Tryz.bytes_Equal (v1 v2 : Value) (xs ys : List Int) (w : World) (h1 : (convert 22 9 v1).run Tryz.prog w = .ok (.string (strOfNums xs)) w) (h2 : (convert 22 9 v2).run Tryz.prog w = .ok (.string (strOfNums ys)) w) :
    Calls Tryz.prog 24 #[v1, v2] w fun e w' => e = .returned (.bool (Lib.bytesOf xs == Lib.bytesOf ys)) ∧ w' = w := Any.bytes_Equal Tryz.lays115 v1 v2 xs ys w h1 h2
end Go.Proofs
end

section
/- Counts read: size.width, cut, Decode. -/
namespace Go.Proofs.YtbjbjgfjaopibaaGreatDoor
open Go Go.RowKit
set_option linter.unusedSimpArgs false
set_option linter.unusedVariables false
set_option maxRecDepth 100000

/-- how many bytes stand behind a count's first one, and the least number that needs them -/
def decW (b : Int) : Nat := if b = 253 then 2 else if b = 254 then 4 else if b = 255 then 8 else 0
def decL (b : Int) : Nat := if b = 253 then 253 else if b = 254 then 65536 else if b = 255 then 4294967296 else 0
def decE (bs : List Int) : Int := match bs with | [] => 50 | b :: r => if decW b = 0 then 0 else if r.length < decW b then 50 else if leN (r.take (decW b)) < decL b then 51 else 0
def decN (bs : List Int) : Nat := match bs with | [] => 0 | b :: r => if decW b = 0 then b.toNat else leN (r.take (decW b))
def decR (bs : List Int) : List Int := match bs with | [] => [] | b :: r => r.drop (decW b)
theorem below_drewN (w : World) : ∀ n, Below w.heap.size w (w.drewN n) := fun n => ⟨rfl, rfl, rfl, Nat.le_refl _, fun _ _ => rfl⟩
theorem decW_le (b : Int) : decW b ≤ 8 := by unfold decW; split <;> (try split) <;> (try split) <;> omega
theorem pwidth (b : Int) (w : World) : Calls Tryz.prog 107 #[.int .u8 b] w fun e w' => e = .returned (.tuple #[.int .i64 (decW b : Int), .int .u64 (decL b : Int)]) ∧ w = w' := by
  by_cases h1 : b = 253
  · subst h1
    go_enter Tryz.func107, Tryz.ntmps107
    go_wp2
    go_ret2
    exact ⟨rfl, rfl⟩
  · by_cases h2 : b = 254
    · subst h2
      go_enter Tryz.func107, Tryz.ntmps107
      go_wp2
      go_ret2
      exact ⟨rfl, rfl⟩
    · by_cases h3 : b = 255
      · subst h3
        go_enter Tryz.func107, Tryz.ntmps107
        go_wp2
        go_ret2
        exact ⟨rfl, rfl⟩
      · have e1 : (b == 253) = false := beq_false_of_ne h1
        have e2 : (b == 254) = false := beq_false_of_ne h2
        have e3 : (b == 255) = false := beq_false_of_ne h3
        have HW := Lib.hid (show decW b = 0 ∧ decL b = 0 from ⟨by unfold decW; rw [if_neg h1, if_neg h2, if_neg h3], by unfold decL; rw [if_neg h1, if_neg h2, if_neg h3]⟩)
        clear h1 h2 h3
        go_enter Tryz.func107, Tryz.ntmps107
        go_wp2
        go_ret2
        exact ⟨by rw [HW.out.1, HW.out.2]; rfl, rfl⟩
/-- what is cut: bytes that stand behind, in the same memory -/
def CutAt (w : World) (v : Value) (xs : List Int) : Prop := ∃ p c, v = .slice p xs.length c ∧ Lib.BytesIn w p xs.length xs ∧ xs.length ≤ c ∧ (c ≤ 9223372036854775807 ∧ xs.length ≤ 140737488355328) ∧ ∃ a, p = some a
theorem bytes_in_drop {w : World} {b o n : Nat} {xs : List Int} (hc : ∀ i, i < n → w.cell? ⟨b, o + i, none⟩ = some (.int .u8 (xs.getD i 0))) (hn : xs.length = n) (k : Nat) (p : Option Addr) (hp : k < n → p = some ⟨b, o + k, none⟩) : Lib.BytesIn w p (xs.drop k).length (xs.drop k) := fun h0 => by
  rw [List.length_drop] at h0
  refine ⟨b, o + k, hp (by omega), fun i hi => ?_⟩
  rw [List.length_drop] at hi
  rw [Nat.add_assoc, hc (k + i) (by omega)]
  simp [List.getD_eq_getElem?_getD, List.getElem?_drop]
/-- what 'cut' answers -/
def CutPost (bs : List Int) (w : World) (e : Ending) (w' : World) : Prop :=
  ∃ (x : Int) (v : Value), e = .returned (.tuple #[.int .u64 x, v, .int .i64 (decE bs)]) ∧ Below w.heap.size w w' ∧ (decE bs = 0 → x = (decN bs : Int) ∧ CutAt w' v (decR bs)) ∧ (decE bs ≠ 0 → x = 0 ∧ v = .slice none 0 0)
theorem CutPost.err {bs : List Int} {w w' : World} {E : Int} (h : decE bs = E) (hE : E ≠ 0) (hb : Below w.heap.size w w') : CutPost bs w (.returned (.tuple #[.int .u64 0, .slice none 0 0, .int .i64 E])) w' :=
  ⟨0, _, by rw [h], hb, fun h0 => absurd (h.symm.trans h0) hE, fun _ => ⟨rfl, rfl⟩⟩
theorem CutPost.ok {bs : List Int} {w w' : World} {x : Int} {v : Value} (h : decE bs = 0) (hx : x = (decN bs : Int)) (hv : CutAt w' v (decR bs)) (hb : Below w.heap.size w w') : CutPost bs w (.returned (.tuple #[.int .u64 x, v, .int .i64 0])) w' :=
  ⟨x, v, by rw [h], hb, fun _ => ⟨hx, hv⟩, fun h1 => absurd h h1⟩
theorem pcut_nil (q : Option Addr) (c : Nat) (w : World) : Calls Tryz.prog 88 #[.slice q 0 c] w (CutPost [] w) := by
  go_enter Tryz.func88, Tryz.ntmps88
  go_wp2
  exact bodyPost_ret (results_tmp3 Tryz.results88 _ _ _) rfl (CutPost.err rfl (by decide) (Below.refl _ _))
set_option maxHeartbeats 3200000 in
theorem pcut0 (b : Int) (r : List Int) (pb po c : Nat) (w : World) (hc : ∀ i, i < r.length + 1 → w.cell? ⟨pb, po + i, none⟩ = some (.int .u8 ((b :: r).getD i 0))) (hr : 0 ≤ b ∧ b ≤ 255) (hlc : r.length + 1 ≤ c) (hcm : c ≤ 9223372036854775807) (hl47 : r.length + 1 ≤ 140737488355328) (hW : decW b = 0) :
    Calls Tryz.prog 88 #[.slice (some ⟨pb, po, none⟩) (r.length + 1) c] w (CutPost (b :: r) w) := by
  have PW := Lib.hid (pwidth b w)
  rw [hW] at PW
  have c0 := hc 0 (by omega)
  rw [List.getD_cons_zero, Nat.add_zero] at c0
  have hbw : IntKind.u64.wrap b = b := IntWalk.u64_in _ (by omega)
  have HE := Lib.hid (show decE (b :: r) = 0 from if_pos hW)
  have HN := Lib.hid (show b = (decN (b :: r) : Int) from by unfold decN; simp only; rw [if_pos hW]; omega)
  have HR := Lib.hid (show ∀ m p, (1 < r.length + 1 → p = some ⟨pb, po + 1, none⟩) → (∃ a, p = some a) → CutAt (w.drewN m) (.slice p r.length (c - 1)) (decR (b :: r)) from fun m p hp ha => ⟨p, c - 1, by unfold decR; simp only; rw [hW, List.drop_zero], by
    have e : decR (b :: r) = (b :: r).drop 1 := by unfold decR; simp only; rw [hW]; rfl
    rw [e]
    exact bytes_in_drop (w := w.drewN m) hc (by simp) 1 p hp, by unfold decR; simp only; rw [hW, List.drop_zero]; omega, ⟨by omega, by unfold decR; simp only; rw [hW, List.drop_zero]; omega⟩, ha⟩)
  clear hc hW
  by_cases h1 : c = 1
  · have hr0 : r.length = 0 := by omega
    generalize r.length = N at *
    subst hr0
    subst h1
    go_enter Tryz.func88, Tryz.ntmps88
    go_wp2_with fail
    refine PW.out.mono ?_
    rintro e w1 ⟨rfl, rfl⟩
    go_wp2
    go_quiet (fail)
    go_wp2
    exact bodyPost_ret (results_tmp3 Tryz.results88 _ _ _) rfl (CutPost.ok HE.out HN.out (HR.out _ _ (fun h => by omega) ⟨_, rfl⟩) (below_drewN w _))
  · have hcn : ¬ c = 1 := h1
    clear h1
    obtain ⟨N, hN⟩ : ∃ N, N = r.length := ⟨_, rfl⟩
    rw [← hN] at hlc HR ⊢
    have HNN := Lib.hid hN
    clear hN
    have k1 : (1 : Int) ≤ (N : Int) + 1 := by omega
    have k2 : (N : Int) + 1 ≤ (c : Int) := by omega
    have k3 : 1 ≤ N + 1 := by omega
    go_enter Tryz.func88, Tryz.ntmps88
    go_wp2_with fail
    refine PW.out.mono ?_
    rintro e w1 ⟨rfl, rfl⟩
    go_upto_region 5 with fail
    refine wp_region_held_drew (S := fun w' => w' = w.drew) (by kernel_rfl) rfl (fun hS => ?_)
    refine tkH 0 (v := ?_) rfl (by kernel_rfl) ⟨by rfl, ?_⟩ hS ?_
    rotate_left
    · intro w0 hs; subst hs; go_simp; try (with_reducible rfl)
    try simp only [Act.put, List.setIfInBounds_toArray, List.set_cons_zero, List.set_cons_succ]
    refine tkH 1 (v := ?_) rfl (by kernel_rfl) ⟨by rfl, ?_⟩ hS ?_
    rotate_left
    · intro w0 hs; subst hs; go_simp; try (with_reducible rfl)
    try simp only [Act.put, List.setIfInBounds_toArray, List.set_cons_zero, List.set_cons_succ]
    refine tkH 2 (v := ?_) rfl (by kernel_rfl) ⟨by rfl, ?_⟩ hS ?_
    rotate_left
    · intro w0 hs; subst hs; go_simp; try (with_reducible rfl)
    try simp only [Act.put, List.setIfInBounds_toArray, List.set_cons_zero, List.set_cons_succ]
    refine tkH 3 (v := ?_) rfl (by kernel_rfl) ⟨by rfl, ?_⟩ hS ?_
    rotate_left
    · intro w0 hs; subst hs; go_simp; try (with_reducible rfl)
    try simp only [Act.put, List.setIfInBounds_toArray, List.set_cons_zero, List.set_cons_succ]
    refine tkH 4 (v := ?_) rfl (by kernel_rfl) ⟨by rfl, ?_⟩ hS ?_
    rotate_left
    · intro w0 hs; subst hs; go_simp; try (with_reducible rfl)
    try simp only [Act.put, List.setIfInBounds_toArray, List.set_cons_zero, List.set_cons_succ]
    refine tkH 5 (v := ?_) rfl (by kernel_rfl) ⟨by rfl, ?_⟩ hS ?_
    rotate_left
    · intro w0 hs; subst hs; go_simp; try (with_reducible rfl)
    try simp only [Act.put, List.setIfInBounds_toArray, List.set_cons_zero, List.set_cons_succ]
    refine tkH 6 (v := ?_) rfl (by kernel_rfl) ⟨by rfl, ?_⟩ hS ?_
    rotate_left
    · intro w0 hs; subst hs; go_simp; try (with_reducible rfl)
    try simp only [Act.put, List.setIfInBounds_toArray, List.set_cons_zero, List.set_cons_succ]
    refine tkH 7 (v := ?_) rfl (by kernel_rfl) ⟨by rfl, ?_⟩ hS ?_
    rotate_left
    · intro w0 hs; subst hs; go_simp; try (with_reducible rfl)
    try simp only [Act.put, List.setIfInBounds_toArray, List.set_cons_zero, List.set_cons_succ]
    refine tkH 8 (v := ?_) rfl (by kernel_rfl) ⟨by rfl, ?_⟩ hS ?_
    rotate_left
    · intro w0 hs; subst hs; go_simp; try (with_reducible rfl)
    try simp only [Act.put, List.setIfInBounds_toArray, List.set_cons_zero, List.set_cons_succ]
    refine wpAnyH_done (by kernel_rfl) ?_ _
    go_wp2
    exact bodyPost_ret (results_tmp3 Tryz.results88 _ _ _) rfl (CutPost.ok HE.out HN.out (HR.out 1 _ (fun h => rfl) ⟨_, rfl⟩) (below_drewN w 1))
theorem decE_W {b : Int} {r : List Int} {W : Nat} (hW : decW b = W) (h0 : 0 < W) : decE (b :: r) = if r.length < W then 50 else if leN (r.take W) < decL b then 51 else 0 := by
  unfold decE; simp only; rw [hW, if_neg (by omega)]
theorem decN_W {b : Int} {r : List Int} {W : Nat} (hW : decW b = W) (h0 : 0 < W) : decN (b :: r) = leN (r.take W) := by
  unfold decN; simp only; rw [hW, if_neg (by omega)]
theorem pcut_short (b : Int) (r : List Int) (W : Nat) (pb po c : Nat) (w : World) (hc : ∀ i, i < r.length + 1 → w.cell? ⟨pb, po + i, none⟩ = some (.int .u8 ((b :: r).getD i 0))) (hlc : r.length + 1 ≤ c) (hcm : c ≤ 9223372036854775807) (hl47 : r.length + 1 ≤ 140737488355328) (hW : decW b = W) (h0 : 0 < W) (hs : r.length < W) :
    Calls Tryz.prog 88 #[.slice (some ⟨pb, po, none⟩) (r.length + 1) c] w (CutPost (b :: r) w) := by
  have PW := Lib.hid (pwidth b w)
  rw [hW] at PW
  have c0 := hc 0 (by omega)
  rw [List.getD_cons_zero, Nat.add_zero] at c0
  have HE := Lib.hid (show decE (b :: r) = 50 from by rw [decE_W hW h0, if_pos hs])
  have e1 : ((W : Int) == 0) = false := beq_false_of_ne (by omega)
  have e2 : decide ((r.length : Int) + 1 ≤ (W : Int)) = true := decide_eq_true (by omega)
  have e3 : decide (r.length + 1 ≤ W) = true := decide_eq_true (by omega)
  have e4 : r.length + 1 ≤ W := by omega
  clear hc hW
  generalize decL b = L at *
  go_enter Tryz.func88, Tryz.ntmps88
  go_wp2_with fail
  refine PW.out.mono ?_
  rintro e w1 ⟨rfl, rfl⟩
  go_wp2
  exact bodyPost_ret (results_tmp3 Tryz.results88 _ _ _) rfl (CutPost.err HE.out (by decide) (Below.refl _ _))
set_option maxHeartbeats 3200000 in
theorem pcutW (b : Int) (r : List Int) (W : Nat) (pb po c : Nat) (w : World) (hc : ∀ i, i < r.length + 1 → w.cell? ⟨pb, po + i, none⟩ = some (.int .u8 ((b :: r).getD i 0))) (hr : ∀ y ∈ r, 0 ≤ y ∧ y ≤ 255) (hlc : r.length + 1 ≤ c) (hcm : c ≤ 9223372036854775807) (hl47 : r.length + 1 ≤ 140737488355328) (hW : decW b = W) (h0 : 0 < W) (hs : W ≤ r.length) :
    Calls Tryz.prog 88 #[.slice (some ⟨pb, po, none⟩) (r.length + 1) c] w (CutPost (b :: r) w) := by
  have hW8 : W ≤ 8 := by rw [← hW]; exact decW_le b
  have PW := Lib.hid (pwidth b w)
  rw [hW] at PW
  have c0 := hc 0 (by omega)
  rw [List.getD_cons_zero, Nat.add_zero] at c0
  have HE := Lib.hid (show decE (b :: r) = if leN (r.take W) < decL b then 51 else 0 from by rw [decE_W hW h0, if_neg (by omega)])
  have HN := Lib.hid (decN_W (r := r) hW h0)
  have HT := Lib.hid (show (r.take W).length = W from by rw [List.length_take]; omega)
  have HRT := Lib.hid (show ∀ y ∈ r.take W, 0 ≤ y ∧ y ≤ 255 from fun y hy => hr y (List.mem_of_mem_take hy))
  have HC := Lib.hid (show ∀ k, k < W → w.cell? ⟨pb, po + 1 + k, none⟩ = some (.int .u8 ((r.take W).getD k 0)) from fun k hk => by
    rw [Nat.add_assoc, hc (1 + k) (by omega), Nat.add_comm 1 k, List.getD_cons_succ]
    congr 2
    rw [List.getD_eq_getElem?_getD, List.getD_eq_getElem?_getD, List.getElem?_take, if_pos hk])
  have HR := Lib.hid (show ∀ m p, (W + 1 < r.length + 1 → p = some ⟨pb, po + (W + 1), none⟩) → (∃ a, p = some a) → CutAt (w.drewN m) (.slice p (r.length - W) (c - (W + 1))) (decR (b :: r)) from fun m p hp ha => by
    have e : decR (b :: r) = (b :: r).drop (W + 1) := by unfold decR; simp only; rw [hW]; rfl
    have hl : (decR (b :: r)).length = r.length - W := by rw [e]; simp
    refine ⟨p, c - (W + 1), by rw [hl], ?_, by rw [hl]; omega, ⟨by omega, by rw [hl]; omega⟩, ha⟩
    rw [e]
    exact bytes_in_drop (w := w.drewN m) hc (by simp) (W + 1) p hp)
  have e1 : ((W : Int) == 0) = false := beq_false_of_ne (by omega)
  have e2 : decide ((r.length : Int) + 1 ≤ (W : Int)) = false := decide_eq_false (by omega)
  have e3 : decide (r.length + 1 ≤ W) = false := decide_eq_false (by omega)
  have hsl := Lib.hid hs
  obtain ⟨N, hN⟩ : ∃ N, N = r.length := ⟨_, rfl⟩
  rw [← hN] at e2 e3 hlc hs HR ⊢
  have HNN := Lib.hid hN
  have s1 : IntKind.i64.wrap (1 + (W : Int)) = 1 + (W : Int) := by rw [IntKind.wrap_i64]; omega
  have s2 : (1 : Int) ≤ 1 + (W : Int) := by omega
  have s3 : 1 + (W : Int) ≤ (N : Int) + 1 := by omega
  have s4 : 1 + (W : Int) ≤ (c : Int) := by omega
  have s5 : (1 + (W : Int)).toNat = 1 + W := by omega
  have s6 : 0 ≤ 1 + (W : Int) := by omega
  have s7 : ¬ 1 + W = 1 := by omega
  have hcn : ¬ c = 1 := by omega
  clear hc hW hN hr
  generalize hL : decL b = L at *
  go_enter Tryz.func88, Tryz.ntmps88
  go_wp2_with fail
  refine PW.out.mono ?_
  rintro e w1 ⟨rfl, rfl⟩
  go_wp2
  go_loopg [7, 39] W (fun gh s i wx => ∃ k t : Nat, k ≤ W ∧ s = .int .u64 (t : Int) ∧ i = .int .i64 (k : Int) ∧ gh = W - k ∧ Hid (t = leN ((r.take W).take k)) ∧ wx = w)
  case atStart => exact ⟨0, 0, Nat.zero_le _, rfl, rfl, rfl, by rw [List.take_zero]; rfl, rfl⟩
  case round =>
    obtain ⟨k, t, hk, rfl, rfl, hg, HTT, hwx⟩ := hrel
    obtain rfl : w = wr := hwx.symm
    have HGK := Lib.hid hg
    clear hg
    by_cases hlt : k < W
    · have cb := HC.out k hlt
      have hst := le_step (r.take W) HRT.out k (by rw [HT.out]; exact hlt) (by rw [HT.out]; exact hW8)
      have hx := getD_rng HRT.out k
      generalize (r.take W).getD k 0 = x at *
      rw [← HTT.out] at hst
      generalize hu : leN ((r.take W).take (k + 1)) = u at *
      have HU := Lib.hid hu
      obtain ⟨hx0, hx1⟩ := hx
      have a2 : IntKind.i64.wrap (8 * (k : Int)) = 8 * (k : Int) := by rw [IntKind.wrap_i64]; omega
      have hux : IntKind.u64.wrap x = x := IntWalk.u64_in _ (by omega)
      clear hu
      go_wp2
      go_roundg (W - (k + 1))
      case measure => rw [HGK.out]; omega
      case rel => exact ⟨k + 1, u, hlt, rfl, rfl, rfl, HU.out.symm, rfl⟩
    · obtain rfl : k = W := by omega
      have ht : t = leN (r.take k) := by rw [HTT.out, List.take_of_length_le (by rw [HT.out]; exact Nat.le_refl _)]
      rw [← ht] at HE HN
      clear ht HTT
      by_cases hlL : t < L
      · have HE2 := Lib.hid (show decE (b :: r) = 51 from by rw [HE.out, if_pos hlL])
        have d1 : decide ((t : Int) < (L : Int)) = true := decide_eq_true (by omega)
        have d2 : decide (t < L) = true := decide_eq_true hlL
        go_wp2
        exact bodyPost_ret (results_tmp3 Tryz.results88 _ _ _) rfl (CutPost.err HE2.out (by decide) (Below.refl _ _))
      · have HE2 := Lib.hid (show decE (b :: r) = 0 from by rw [HE.out, if_neg hlL])
        have d1 : decide ((t : Int) < (L : Int)) = false := decide_eq_false (by omega)
        have d2 : decide (t < L) = false := decide_eq_false hlL
        have HN2 := Lib.hid (show (t : Int) = (decN (b :: r) : Int) from by rw [HN.out])
        clear hlL HE HN
        have u1 : IntKind.i64.wrap (1 + (k : Int)) = 1 + (k : Int) := s1
        have u2 : N + 1 - (1 + k) = N - k := by omega
        have u3 : 1 + k ≤ N + 1 := by omega
        have HP := Lib.hid (show ∀ m, CutAt (w.drewN m) (.slice (if c = 1 + k then some ⟨pb, po, none⟩ else some ⟨pb, po + (1 + k), none⟩) (N - k) (c - (1 + k))) (decR (b :: r)) from fun m => by
          have := HR.out m (if c = 1 + k then some ⟨pb, po, none⟩ else some ⟨pb, po + (1 + k), none⟩) (fun h => by rw [if_neg (by omega), Nat.add_comm k 1]) (by split <;> exact ⟨_, rfl⟩)
          rw [Nat.add_comm k 1] at this; exact this)
        generalize hpp : (if c = 1 + k then some (⟨pb, po, none⟩ : Addr) else some ⟨pb, po + (1 + k), none⟩) = pp at *
        go_upto_region 16 with fail
        refine wp_region_held_drew (S := fun w' => w' = w.drew) (by kernel_rfl) rfl (fun hS => ?_)
        refine tkH 0 (v := ?_) rfl (by kernel_rfl) ⟨by rfl, ?_⟩ hS ?_
        rotate_left
        · intro w0 hs; subst hs; go_simp; try (with_reducible rfl)
        try simp only [Act.put, List.setIfInBounds_toArray, List.set_cons_zero, List.set_cons_succ]
        refine tkH 1 (v := ?_) rfl (by kernel_rfl) ⟨by rfl, ?_⟩ hS ?_
        rotate_left
        · intro w0 hs; subst hs; go_simp; try (with_reducible rfl)
        try simp only [Act.put, List.setIfInBounds_toArray, List.set_cons_zero, List.set_cons_succ]
        refine tkH 2 (v := ?_) rfl (by kernel_rfl) ⟨by rfl, ?_⟩ hS ?_
        rotate_left
        · intro w0 hs; subst hs; go_simp; try (with_reducible rfl)
        try simp only [Act.put, List.setIfInBounds_toArray, List.set_cons_zero, List.set_cons_succ]
        refine tkH 3 (v := ?_) rfl (by kernel_rfl) ⟨by rfl, ?_⟩ hS ?_
        rotate_left
        · intro w0 hs; subst hs; go_simp; try (with_reducible rfl)
        try simp only [Act.put, List.setIfInBounds_toArray, List.set_cons_zero, List.set_cons_succ]
        refine tkH 4 (v := ?_) rfl (by kernel_rfl) ⟨by rfl, ?_⟩ hS ?_
        rotate_left
        · intro w0 hs; subst hs; go_simp; try (with_reducible rfl)
        try simp only [Act.put, List.setIfInBounds_toArray, List.set_cons_zero, List.set_cons_succ]
        refine tkH 5 (v := ?_) rfl (by kernel_rfl) ⟨by rfl, ?_⟩ hS ?_
        rotate_left
        · intro w0 hs; subst hs; go_simp; try (with_reducible rfl)
        try simp only [Act.put, List.setIfInBounds_toArray, List.set_cons_zero, List.set_cons_succ]
        refine tkH 6 (v := ?_) rfl (by kernel_rfl) ⟨by rfl, ?_⟩ hS ?_
        rotate_left
        · intro w0 hs; subst hs; go_simp; try (with_reducible rfl)
        try simp only [Act.put, List.setIfInBounds_toArray, List.set_cons_zero, List.set_cons_succ]
        refine tkH 7 (v := ?_) rfl (by kernel_rfl) ⟨by rfl, ?_⟩ hS ?_
        rotate_left
        · intro w0 hs; subst hs; go_simp; try (with_reducible rfl)
        try simp only [Act.put, List.setIfInBounds_toArray, List.set_cons_zero, List.set_cons_succ]
        refine wpAnyH_done (by kernel_rfl) ?_ _
        go_wp2
        exact bodyPost_ret (results_tmp3 Tryz.results88 _ _ _) rfl (CutPost.ok HE2.out HN2.out (HP.out 1) (below_drewN w 1))
end Go.Proofs.YtbjbjgfjaopibaaGreatDoor
end
