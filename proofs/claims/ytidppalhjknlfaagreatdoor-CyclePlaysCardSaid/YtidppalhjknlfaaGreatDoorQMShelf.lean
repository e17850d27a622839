/- The shelf's contracts (slices.Sort, bytes.Equal, bytes.HasPrefix ..) at this seat's dump, laid by the kit's lay-shelf.mjs and lay-plain.mjs. Rows of strings, rows of pairs of byte slices, the library's sort of strings. The walk of kv's Range: pairs in order. The walk of kv's Range. -/
import Derived.Shelf.Small.Bits
import Derived.Shelf.Strconv.Itoa0
import Derived.Shelf.Sort.Plain
import Derived.Shelf.Slices.In.SortNone
import Derived.Shelf.Bytes.SlSearch0
import Derived.Shelf.Bytes.SlSmallAll
import Derived.Shelf.Bytes.SlEqualAll
import Derived.Shelf.Bytes.Small
import Derived.Test.YtidppalhjknlfaaGreatDoorProg
import Derived.Test.YtidppalhjknlfaaGreatDoorQKv2
import Derived.Test.YtidppalhjknlfaaGreatDoorQMMem
import Derived.Lib.OwnBridge
import Derived.Lib.SortBridgeS
import Derived.WalkLawsBesides
namespace Go.Proofs
open Go.Shelf
def Tryz.lays128_ren : Go.Shelf.Ren := ⟨fun | 128 => 118 | n => n, fun | 51 => 32 | 3 => 3 | 4 => 4 | 46 => 118 | 5 => 5 | 9 => 9 | n => n, fun | n => n⟩
theorem Tryz.lays128 : Go.Proofs.Lays.n128 Tryz.prog Tryz.lays128_ren := {
  mixed := by kernel_rfl
  f128 := Tryz.func118.trans (congrArg some (by kernel_rfl))
  t3 := Tryz.underlying3
  a3 := Tryz.isAgg3
  z3 := Tryz.sizeOf3
  v3 := Tryz.zeroValue3
  t4 := Tryz.underlying4
  a4 := Tryz.isAgg4
  z4 := Tryz.sizeOf4
  v4 := Tryz.zeroValue4
  t5 := Tryz.underlying5
  a5 := Tryz.isAgg5
  z5 := Tryz.sizeOf5
  v5 := Tryz.zeroValue5
  t9 := Tryz.underlying9
  a9 := Tryz.isAgg9
  z9 := Tryz.sizeOf9
  v9 := Tryz.zeroValue9
  t46 := Tryz.underlying118
  a46 := Tryz.isAgg118
  z46 := Tryz.sizeOf118
  v46 := Tryz.zeroValue118
  t51 := Tryz.underlying32
  a51 := Tryz.isAgg32
  z51 := Tryz.sizeOf32
  v51 := Tryz.zeroValue32 }
/-- bits.Len32: "Len32 returns the minimum number of bits required to represent x; the result is 0 for x == 0.": IT RETURNS 'Lib.bitLen x'; the world is as it was. ('h0', 'h1': x is a uint32.) (LAID: no walk: one application.) -/
theorem Tryz.bits_Len32 (x : Int) (w : World) (h0 : 0 ≤ x) (h1 : x ≤ 4294967295) :
    Calls Tryz.prog 118 #[.int .u32 x] w fun e w' => e = .returned (.int .i64 (Lib.bitLen x.toNat)) ∧ w' = w := Any.bits_Len32 Tryz.lays128 x w h0 h1
def Tryz.lays125_ren : Go.Shelf.Ren := ⟨fun | 125 => 108 | 128 => 118 | 129 => 119 | n => n, fun | 46 => 118 | 3 => 3 | 51 => 32 | 53 => 80 | 4 => 4 | 5 => 5 | 9 => 9 | n => n, fun | n => n⟩
theorem Tryz.lays125 : Go.Proofs.Lays.n125 Tryz.prog Tryz.lays125_ren := {
  mixed := by kernel_rfl
  f125 := Tryz.func108.trans (congrArg some (by kernel_rfl))
  f128 := Tryz.func118.trans (congrArg some (by kernel_rfl))
  f129 := Tryz.func119.trans (congrArg some (by kernel_rfl))
  t3 := Tryz.underlying3
  a3 := Tryz.isAgg3
  z3 := Tryz.sizeOf3
  v3 := Tryz.zeroValue3
  t4 := Tryz.underlying4
  a4 := Tryz.isAgg4
  z4 := Tryz.sizeOf4
  v4 := Tryz.zeroValue4
  t5 := Tryz.underlying5
  a5 := Tryz.isAgg5
  z5 := Tryz.sizeOf5
  v5 := Tryz.zeroValue5
  t9 := Tryz.underlying9
  a9 := Tryz.isAgg9
  z9 := Tryz.sizeOf9
  v9 := Tryz.zeroValue9
  t46 := Tryz.underlying118
  a46 := Tryz.isAgg118
  z46 := Tryz.sizeOf118
  v46 := Tryz.zeroValue118
  t51 := Tryz.underlying32
  a51 := Tryz.isAgg32
  z51 := Tryz.sizeOf32
  v51 := Tryz.zeroValue32
  t53 := Tryz.underlying80
  a53 := Tryz.isAgg80
  z53 := Tryz.sizeOf80
  v53 := Tryz.zeroValue80 }
/-- bits.Len: "Len returns the minimum number of bits required to represent x; the result is 0 for x == 0.": IT RETURNS 'Lib.bitLen x'; the world is as it was. (A uint has 64 bits in the model.) ITS CALLEE bits.Len64 IS MET BY ITS OWN CONTRACT OFF THE SHELF (lay that first). (LAID: no walk: one application.) -/
theorem Tryz.bits_Len (x : Int) (w : World) (h0 : 0 ≤ x) (h1 : x ≤ 18446744073709551615) :
    Calls Tryz.prog 108 #[.int .u64 x] w fun e w' => e = .returned (.int .i64 (Lib.bitLen x.toNat)) ∧ w' = w := Any.bits_Len Tryz.lays125 x w h0 h1
def Tryz.lays129_ren : Go.Shelf.Ren := ⟨fun | 129 => 119 | n => n, fun | 53 => 80 | 3 => 3 | 4 => 4 | 46 => 118 | 5 => 5 | 9 => 9 | n => n, fun | n => n⟩
theorem Tryz.lays129 : Go.Proofs.Lays.n129 Tryz.prog Tryz.lays129_ren := {
  mixed := by kernel_rfl
  f129 := Tryz.func119.trans (congrArg some (by kernel_rfl))
  t3 := Tryz.underlying3
  a3 := Tryz.isAgg3
  z3 := Tryz.sizeOf3
  v3 := Tryz.zeroValue3
  t4 := Tryz.underlying4
  a4 := Tryz.isAgg4
  z4 := Tryz.sizeOf4
  v4 := Tryz.zeroValue4
  t5 := Tryz.underlying5
  a5 := Tryz.isAgg5
  z5 := Tryz.sizeOf5
  v5 := Tryz.zeroValue5
  t9 := Tryz.underlying9
  a9 := Tryz.isAgg9
  z9 := Tryz.sizeOf9
  v9 := Tryz.zeroValue9
  t46 := Tryz.underlying118
  a46 := Tryz.isAgg118
  z46 := Tryz.sizeOf118
  v46 := Tryz.zeroValue118
  t53 := Tryz.underlying80
  a53 := Tryz.isAgg80
  z53 := Tryz.sizeOf80
  v53 := Tryz.zeroValue80 }
/-- bits.Len64: "Len64 returns the minimum number of bits required to represent x; the result is 0 for x == 0.": IT RETURNS 'Lib.bitLen x'; the world is as it was. ('h0', 'h1': x is a uint64.) (LAID: no walk: one application.) -/
theorem Tryz.bits_Len64 (x : Int) (w : World) (h0 : 0 ≤ x) (h1 : x ≤ 18446744073709551615) :
    Calls Tryz.prog 119 #[.int .u64 x] w fun e w' => e = .returned (.int .i64 (Lib.bitLen x.toNat)) ∧ w' = w := Any.bits_Len64 Tryz.lays129 x w h0 h1
def Tryz.lays190_ren : Go.Shelf.Ren := ⟨fun | 190 => 106 | 125 => 108 | 258 => 107 | 128 => 118 | 129 => 119 | 302 => 109 | 303 => 110 | 304 => 111 | 305 => 112 | 306 => 113 | 307 => 114 | 308 => 115 | 309 => 116 | 310 => 117 | 333 => 120 | 329 => 121 | 330 => 122 | 334 => 123 | 335 => 124 | 336 => 125 | 344 => 126 | n => n, fun | 31 => 164 | 9 => 9 | 3 => 3 | 46 => 118 | 0 => 0 | 51 => 32 | 53 => 80 | 4 => 4 | 183 => 170 | 182 => 169 | 131 => 175 | 5 => 5 | 218 => 179 | 222 => 182 | 228 => 185 | 229 => 186 | n => n, fun | n => n⟩
theorem Tryz.lays190 : Go.Proofs.Lays.n190 Tryz.prog Tryz.lays190_ren := {
  mixed := by kernel_rfl
  f125 := Tryz.func108.trans (congrArg some (by kernel_rfl))
  f128 := Tryz.func118.trans (congrArg some (by kernel_rfl))
  f129 := Tryz.func119.trans (congrArg some (by kernel_rfl))
  f190 := Tryz.func106.trans (congrArg some (by kernel_rfl))
  f258 := Tryz.func107.trans (congrArg some (by kernel_rfl))
  f302 := Tryz.func109.trans (congrArg some (by kernel_rfl))
  f303 := Tryz.func110.trans (congrArg some (by kernel_rfl))
  f304 := Tryz.func111.trans (congrArg some (by kernel_rfl))
  f305 := Tryz.func112.trans (congrArg some (by kernel_rfl))
  f306 := Tryz.func113.trans (congrArg some (by kernel_rfl))
  f307 := Tryz.func114.trans (congrArg some (by kernel_rfl))
  f308 := Tryz.func115.trans (congrArg some (by kernel_rfl))
  f309 := Tryz.func116.trans (congrArg some (by kernel_rfl))
  f310 := Tryz.func117.trans (congrArg some (by kernel_rfl))
  f329 := Tryz.func121.trans (congrArg some (by kernel_rfl))
  f330 := Tryz.func122.trans (congrArg some (by kernel_rfl))
  f333 := Tryz.func120.trans (congrArg some (by kernel_rfl))
  f334 := Tryz.func123.trans (congrArg some (by kernel_rfl))
  f335 := Tryz.func124.trans (congrArg some (by kernel_rfl))
  f336 := Tryz.func125.trans (congrArg some (by kernel_rfl))
  f344 := Tryz.func126.trans (congrArg some (by kernel_rfl))
  t0 := Tryz.underlying0
  a0 := Tryz.isAgg0
  z0 := Tryz.sizeOf0
  v0 := Tryz.zeroValue0
  t3 := Tryz.underlying3
  a3 := Tryz.isAgg3
  z3 := Tryz.sizeOf3
  v3 := Tryz.zeroValue3
  t4 := Tryz.underlying4
  a4 := Tryz.isAgg4
  z4 := Tryz.sizeOf4
  v4 := Tryz.zeroValue4
  t5 := Tryz.underlying5
  a5 := Tryz.isAgg5
  z5 := Tryz.sizeOf5
  v5 := Tryz.zeroValue5
  t9 := Tryz.underlying9
  a9 := Tryz.isAgg9
  z9 := Tryz.sizeOf9
  v9 := Tryz.zeroValue9
  t31 := Tryz.underlying164
  a31 := Tryz.isAgg164
  z31 := Tryz.sizeOf164
  v31 := Tryz.zeroValue164
  t46 := Tryz.underlying118
  a46 := Tryz.isAgg118
  z46 := Tryz.sizeOf118
  v46 := Tryz.zeroValue118
  t51 := Tryz.underlying32
  a51 := Tryz.isAgg32
  z51 := Tryz.sizeOf32
  v51 := Tryz.zeroValue32
  t53 := Tryz.underlying80
  a53 := Tryz.isAgg80
  z53 := Tryz.sizeOf80
  v53 := Tryz.zeroValue80
  t131 := Tryz.underlying175
  a131 := Tryz.isAgg175
  z131 := Tryz.sizeOf175
  v131 := Tryz.zeroValue175
  t182 := Tryz.underlying169
  a182 := Tryz.isAgg169
  z182 := Tryz.sizeOf169
  v182 := Tryz.zeroValue169
  t183 := Tryz.underlying170
  a183 := Tryz.isAgg170
  z183 := Tryz.sizeOf170
  v183 := Tryz.zeroValue170
  t218 := Tryz.underlying179
  a218 := Tryz.isAgg179
  z218 := Tryz.sizeOf179
  v218 := Tryz.zeroValue179
  t222 := Tryz.underlying182
  a222 := Tryz.isAgg182
  z222 := Tryz.sizeOf182
  v222 := Tryz.zeroValue182
  t228 := Tryz.underlying185
  a228 := Tryz.isAgg185
  z228 := Tryz.sizeOf185
  v228 := Tryz.zeroValue185
  t229 := Tryz.underlying186
  a229 := Tryz.isAgg186
  z229 := Tryz.sizeOf186
  v229 := Tryz.zeroValue186 }
open Go.Sort Go.RowKit in
theorem Tryz.slices_Sort_string (blk off cap : Nat) (ss : List (List UInt8)) (w : World) (hH : Holds encStr w blk off ss.toArray) (hblk : blk < w.heap.size) (hsz : ss.length < 4611686018427387904) :
    Calls Tryz.prog 106 #[.slice (some ⟨blk, off, none⟩) ss.length cap] w fun e w' =>
      e = .returned (.tuple #[]) ∧ ∃ n os, w' = grow (putRow encStr (Sort.ahead w n) blk off (ss.mergeSort fun x y => decide (x ≤ y)).toArray) os := Any.slices_Sort_string Tryz.lays190 blk off cap ss w hH hblk hsz
open Go.RowKit Go.Sort in
/-- .. and plain. (LAID: no walk: one application.) -/
theorem Tryz.slices_Sort_string_none (p : Option Addr) (cap : Nat) (w : World) :
    Calls Tryz.prog 106 #[.slice p 0 cap] w fun e w' => e = .returned (.tuple #[]) ∧ w' = w := Any.slices_Sort_string_none Tryz.lays190 p cap w
def Tryz.lays115_ren : Go.Shelf.Ren := ⟨fun | 115 => 85 | n => n, fun | 37 => 76 | 4 => 4 | 9 => 9 | 5 => 5 | n => n, fun | n => n⟩
theorem Tryz.lays115 : Go.Proofs.Lays.n115 Tryz.prog Tryz.lays115_ren := {
  mixed := by kernel_rfl
  f115 := Tryz.func85.trans (congrArg some (by kernel_rfl))
  t4 := Tryz.underlying4
  a4 := Tryz.isAgg4
  z4 := Tryz.sizeOf4
  v4 := Tryz.zeroValue4
  t9 := Tryz.underlying9
  a9 := Tryz.isAgg9
  z9 := Tryz.sizeOf9
  v9 := Tryz.zeroValue9
  t37 := Tryz.underlying76
  a37 := Tryz.isAgg76
  z37 := Tryz.sizeOf76
  v37 := Tryz.zeroValue76 }
open Go.Proofs Go.RowKit Go.Lib in
/-- bytes.Equal, each argument with what 'string(..)' of it gives. (LAID: no walk: one application.) -/
theorem Tryz.bytes_Equal_strs (v1 v2 : Value) (t1 t2 : ByteArray) (w : World) (h1 : (convert 76 9 v1).run Tryz.prog w = .ok (.string t1) w) (h2 : (convert 76 9 v2).run Tryz.prog w = .ok (.string t2) w) :
    Calls Tryz.prog 85 #[v1, v2] w fun e w' => e = .returned (.bool (t1.toList == t2.toList)) ∧ w' = w := Any.bytes_Equal_strs Tryz.lays115 v1 v2 t1 t2 w h1 h2
def Tryz.laysnb116_ren : Go.Shelf.Ren := ⟨fun | 116 => 78 | 115 => 85 | n => n, fun | 37 => 76 | 4 => 4 | 3 => 3 | 9 => 9 | 5 => 5 | n => n, fun | n => n⟩
theorem Tryz.laysnb116 : Go.Proofs.Lays.nb116 Tryz.prog Tryz.laysnb116_ren := {
  mixed := by kernel_rfl
  f115 := Tryz.func85.trans (congrArg some (by kernel_rfl))
  f116 := Tryz.func78.trans (congrArg some (by kernel_rfl))
  t3 := Tryz.underlying3
  a3 := Tryz.isAgg3
  z3 := Tryz.sizeOf3
  v3 := Tryz.zeroValue3
  t4 := Tryz.underlying4
  a4 := Tryz.isAgg4
  z4 := Tryz.sizeOf4
  v4 := Tryz.zeroValue4
  t9 := Tryz.underlying9
  a9 := Tryz.isAgg9
  z9 := Tryz.sizeOf9
  v9 := Tryz.zeroValue9
  t37 := Tryz.underlying76
  a37 := Tryz.isAgg76
  z37 := Tryz.sizeOf76
  v37 := Tryz.zeroValue76
  t5 := Tryz.underlying5
  a5 := Tryz.isAgg5
  z5 := Tryz.sizeOf5
  v5 := Tryz.zeroValue5 }
theorem Tryz.bytes_HasPrefix_e2 (p1 p2 : Option Addr) (n c d : Nat) (w : World) :
    Calls Tryz.prog 78 #[.slice p1 n c, .slice p2 0 d] w fun e w' => e = .returned (.bool true) ∧ w' = w := Any.bytes_HasPrefix_e2 Tryz.laysnb116 p1 p2 n c d w
theorem Tryz.bytes_HasPrefix_e1 (p1 p2 : Option Addr) (c m d : Nat) (hm : 0 < m) (w : World) :
    Calls Tryz.prog 78 #[.slice p1 0 c, .slice p2 m d] w fun e w' => e = .returned (.bool false) ∧ w' = w := Any.bytes_HasPrefix_e1 Tryz.laysnb116 p1 p2 c m d hm w
/-- bytes.HasPrefix: WHOLE: each argument nil, or of no byte at whatever address, or at an address with its cells. (LAID: no walk: one application.) -/
theorem Tryz.bytes_HasPrefix_all (p1 p2 : Option Addr) (n c m d : Nat) (xs ys : List Int) (w : World) (hx : xs.length = n) (hy : ys.length = m) (hnc : n ≤ c) (h1 : Lib.BytesIn w p1 n xs) (h2 : Lib.BytesIn w p2 m ys) :
    Calls Tryz.prog 78 #[.slice p1 n c, .slice p2 m d] w fun e w' => e = .returned (.bool (Lib.hasPrefix (Lib.bytesOf xs) (Lib.bytesOf ys))) ∧ w' = w := Any.bytes_HasPrefix_all Tryz.laysnb116 p1 p2 n c m d xs ys w hx hy hnc h1 h2
def Tryz.laysnb115_ren : Go.Shelf.Ren := ⟨fun | 115 => 85 | n => n, fun | 37 => 76 | 4 => 4 | 9 => 9 | 5 => 5 | n => n, fun | n => n⟩
theorem Tryz.laysnb115 : Go.Proofs.Lays.nb115 Tryz.prog Tryz.laysnb115_ren := {
  mixed := by kernel_rfl
  f115 := Tryz.func85.trans (congrArg some (by kernel_rfl))
  t4 := Tryz.underlying4
  a4 := Tryz.isAgg4
  z4 := Tryz.sizeOf4
  v4 := Tryz.zeroValue4
  t9 := Tryz.underlying9
  a9 := Tryz.isAgg9
  z9 := Tryz.sizeOf9
  v9 := Tryz.zeroValue9
  t37 := Tryz.underlying76
  a37 := Tryz.isAgg76
  z37 := Tryz.sizeOf76
  v37 := Tryz.zeroValue76
  t5 := Tryz.underlying5
  a5 := Tryz.isAgg5
  z5 := Tryz.sizeOf5
  v5 := Tryz.zeroValue5 }
/-- bytes.Equal: WHOLE. (LAID: no walk: one application.) -/
theorem Tryz.bytes_Equal_all (p1 p2 : Option Addr) (n c m d : Nat) (xs ys : List Int) (w : World) (hx : xs.length = n) (hy : ys.length = m) (h1 : Lib.BytesIn w p1 n xs) (h2 : Lib.BytesIn w p2 m ys) :
    Calls Tryz.prog 85 #[.slice p1 n c, .slice p2 m d] w fun e w' => e = .returned (.bool (Lib.bytesOf xs == Lib.bytesOf ys)) ∧ w' = w := Any.bytes_Equal_all Tryz.laysnb115 p1 p2 n c m d xs ys w hx hy h1 h2
/-- bytes.Equal: "Equal reports whether a and b are the same length and contain the same bytes. A nil argument is equivalent to an empty slice.": IT RETURNS 'the bytes of the one == the bytes of the other'; the world is as it was. THE TWO ARGUMENTS COME AS WHATEVER VALUES, each with the one fact that the walk wants of it: what 'string(..)' of it gives: for a slice whose cells you know: 'run_convert_bytes_arg' (Derived/Laws/BytesArg.lean) hands that fact; for a nil one: 'run_convert_bytes_nil' (with xs := []). (LAID: no walk: one application.) -/
theorem Tryz.bytes_Equal (v1 v2 : Value) (xs ys : List Int) (w : World) (h1 : (convert 76 9 v1).run Tryz.prog w = .ok (.string (strOfNums xs)) w) (h2 : (convert 76 9 v2).run Tryz.prog w = .ok (.string (strOfNums ys)) w) :
    Calls Tryz.prog 85 #[v1, v2] w fun e w' => e = .returned (.bool (Lib.bytesOf xs == Lib.bytesOf ys)) ∧ w' = w := Any.bytes_Equal Tryz.lays115 v1 v2 xs ys w h1 h2
/-- bytes.HasPrefix: "HasPrefix reports whether the byte slice s begins with prefix.": IT RETURNS 'Lib.hasPrefix (the bytes of s) (the bytes of prefix)'; the world is as it was. ITS CALLEE bytes.Equal IS MET BY ITS OWN CONTRACT OFF THE SHELF (lay that first). 'xs', 'ys': the numbers that the two slices' cells hold. (LAID: no walk: one application.) -/
theorem Tryz.bytes_HasPrefix (b1 o1 n c b2 o2 m d : Nat) (xs ys : List Int) (w : World) (hx : xs.length = n) (hy : ys.length = m) (hnc : n ≤ c) (hc1 : ∀ i, i < n → w.cell? ⟨b1, o1 + i, none⟩ = some (.int .u8 (xs.getD i 0))) (hc2 : ∀ i, i < m → w.cell? ⟨b2, o2 + i, none⟩ = some (.int .u8 (ys.getD i 0))) :
    Calls Tryz.prog 78 #[.slice (some ⟨b1, o1, none⟩) n c, .slice (some ⟨b2, o2, none⟩) m d] w fun e w' => e = .returned (.bool (Lib.hasPrefix (Lib.bytesOf xs) (Lib.bytesOf ys))) ∧ w' = w := Any.bytes_HasPrefix Tryz.laysnb116 b1 o1 n c b2 o2 m d xs ys w hx hy hnc hc1 hc2
end Go.Proofs
namespace Go.Proofs.YtidppalhjknlfaaGreatDoor
open Go.RowKit
set_option maxRecDepth 100000
set_option linter.unusedVariables false
set_option linter.unusedSimpArgs false

/-! ### a byte slice at the head of a block of bytes -/
def BL (e : TypeId) (w : World) (v : Value) (s : ByteArray) : Prop :=
  ∃ b c cs z, v = .slice (some ⟨b, 0, none⟩) s.size c ∧ s.size ≤ c ∧ c ≤ maxLen ∧ w.heap[b]? = some (.cells cs e z) ∧ ∀ i, i < s.size → cs[i]? = some (.int .u8 (s.data.toList.getD i 0).toNat)
theorem BL.bs {e : TypeId} {w : World} {v : Value} {s : ByteArray} (h : BL e w v s) : BS w v s := by
  obtain ⟨b, c, cs, z, rfl, h1, h2, h3, h4⟩ := h
  exact ⟨_, _, rfl, h1, h2, (fun h => by cases h), .inr ⟨b, 0, rfl, fun i hi => by rw [Nat.zero_add, blk_cell h3]; exact h4 i hi⟩⟩
theorem BL.keep {e : TypeId} {w w' : World} {v : Value} {s : ByteArray} {F : Nat → Prop} (h : BL e w v s) (hk : Keep F w w') (hF : ∀ b cs z, w.heap[b]? = some (.cells cs e z) → ¬ F b) : BL e w' v s := by
  obtain ⟨b, c, cs, z, rfl, h1, h2, h3, h4⟩ := h
  exact ⟨b, c, cs, z, rfl, h1, h2, hk.blk h3 (hF b cs z h3), h4⟩
theorem BL.below {e : TypeId} {w w' : World} {v : Value} {s : ByteArray} (h : BL e w v s) (hb : Below w.heap.size w w') : BL e w' v s := h.keep (Keep.ofBelow hb (fun _ => False)) (fun _ _ _ _ h => h)
theorem bl_bytes (w : World) (e : TypeId) (s : ByteArray) (hs : s.size ≤ 9223372036854775807) : BL e (Lib.bytesWorld w e s) (.slice (some ⟨w.heap.size, 0, none⟩) s.size (grownCap w s.size 0 e)) s := by
  have hm : s.size ≤ maxLen := by unfold maxLen; exact hs
  refine ⟨_, _, _, _, rfl, grownCap_ge _ _ _ _, grownCap_le_maxLen _ _ _ _ hm, Lib.bytesWorld_at_new w e s, fun i hi => ?_⟩
  have := Lib.bytesWorld_cell w e s i hi
  rwa [blk_cell (Lib.bytesWorld_at_new w e s)] at this

/-! ### append of one element -/
theorem wp_app_el {P : Program} {ops : Array Oper} {rest : List Oper} {o : Oper} {a : Act} {Q : Exit → Act → World → Prop} {W : World} (base : Nat) (hgd : o.guard = none) (sl x : Operand) (t e : TypeId)
    (ho : o.op = .call { callee := .builtin .append, args := #[sl, x], argTypes := #[t, t] })
    (ht : P.underlying t = some (.slice e)) (z : Value) (size bytes : Nat) (hinfo : (P.info? e).map (fun i => (i.zero, i.size, i.bytes)) = some (some z, size, bytes)) (hz : z.cells.size = size) (hsz : 0 < size) (hby : 0 < bytes)
    (v : Value) (n : Nat) (xs news : List Value) (hn : news.length = size) (hs : a.eval sl = v) (hx : a.eval x = .slice (some ⟨W.heap.size, 0, none⟩) 1 1) (HO : W.ownsRow base e size v n xs) (hbase : base ≤ W.heap.size)
    (hl : (n + 1) * bytes ≤ 140737488355328) (h1 : ∀ u ∈ news, u.oneCell' = true)
    (h : ∀ v' w', w'.ownsRow base e size v' (n + 1) (xs ++ news) → Grows W w' v v' → wpList P ops Q rest (a.put o.dst v') w') :
    wpList P ops Q (o :: rest) a (W.alloc (.cells news.toArray e)) := by
  obtain ⟨i0, hi, hzz⟩ := Option.map_eq_some_iff.1 hinfo
  simp only [Prod.mk.injEq] at hzz
  obtain ⟨hz0, hz1, hz2⟩ := hzz
  have hlen : n + 1 ≤ 140737488355328 := Nat.le_trans (Nat.le_mul_of_pos_right _ hby) hl
  refine wpList_append_own_at (W.alloc (.cells news.toArray e)) hgd sl x t ho base e i0 z size bytes ht hi hz0 hz1 hz2 hz hsz v n xs hs (HO.alloc _) ⟨W.heap.size, 0, none⟩ 1 1 news hx (by rw [hn, Nat.one_mul])
    (World.news_of_block (cs := news.toArray) (t := e) (fr := (0, 0)) (heap_alloc_new W _)) h1 (by simp only [maxLen]; omega) hl (by simp; omega) ?_
  intro v1 w1 hown hg _ hat
  refine h v1 w1 hown ⟨?_, ?_⟩
  · exact ((Keep.refl _ W).alloc _).trans (keep_grown hg) (fun i hi => .inl hi)
  · rcases hat with hat | hat
    · exact .inl hat
    · exact .inr ⟨_, hat, by simp⟩

/-! ### a row of strings -/
theorem iStr : (Tryz.prog.info? 9).map (fun i => (i.zero, i.size, i.bytes)) = some (some (.string ByteArray.empty), 1, 16) := by kernel_rfl
theorem uStrs : Tryz.prog.underlying 164 = some (.slice 9) := by kernel_rfl
def SR (w : World) (base : Nat) (v : Value) (ks : List ByteArray) : Prop := w.ownsRow base 9 1 v ks.length (ks.map Value.string)
theorem SR.keep {w w' : World} {base : Nat} {v : Value} {ks : List ByteArray} {F : Nat → Prop} (h : SR w base v ks) (hk : Keep F w w') (hF : ∀ k, v.ownBlock = some k → ¬ F k) : SR w' base v ks := by
  refine ⟨h.1, ?_⟩
  rcases h.2 with hn | ⟨g, cap, cur, rfl, hb, hg, rest⟩
  · exact .inl hn
  · exact .inr ⟨g, cap, cur, rfl, hb, hk.blk hg (hF g rfl), rest⟩
theorem SR.blk {w : World} {base : Nat} {v : Value} {ks : List ByteArray} (h : SR w base v ks) : ∀ k, v.ownBlock = some k → base ≤ k ∧ k < w.heap.size ∧ ∃ cur z, w.heap[k]? = some (.cells cur 9 z) := by
  intro k hk
  have h1 := World.ownsRow.lt h k hk
  refine ⟨h1.1, h1.2, ?_⟩
  rcases h.2 with ⟨rfl, _⟩ | ⟨g, cap, cur, rfl, hb, hg, rest⟩
  · simp [Value.ownBlock] at hk
  · simp [Value.ownBlock] at hk
    subst hk
    exact ⟨_, _, hg⟩
def sortS (ks : List ByteArray) : List ByteArray := ((ks.map (·.data.toList)).mergeSort fun x y => decide (x ≤ y)).map fun l => ⟨l.toArray⟩
theorem sortS_length (ks : List ByteArray) : (sortS ks).length = ks.length := by simp [sortS]
theorem sort_any (v : Value) (ks : List ByteArray) (base : Nat) (w : World) (h : SR w base v ks) (hl : ks.length < 4611686018427387904) :
    Calls Tryz.prog 106 #[v] w fun e w' => e = .returned (.tuple #[]) ∧ SR w' base v (sortS ks) ∧ Keep (fun i => v.ownBlock = some i) w w' := by
  by_cases hv : v = .slice none 0 0
  · subst hv
    have hk : ks = [] := by
      rcases h.2 with ⟨_, h0⟩ | ⟨g, cap, cur, he, _⟩
      · exact List.eq_nil_of_length_eq_zero h0
      · cases he
    subst hk
    refine (Tryz.slices_Sort_string_none none 0 w).mono ?_
    rintro e w' ⟨rfl, rfl⟩
    exact ⟨rfl, by rw [show sortS [] = [] by simp [sortS]]; exact h, Keep.refl _ _⟩
  · have h' : w.ownsRow base 9 1 v ks.length ((ks.map (·.data.toList)).map Proofs.encStr) := by rw [Lib.map_encStr]; exact h
    obtain ⟨g, cap, rfl, hb, hg, hn, hm, hzl, hH⟩ := Lib.holds_of_ownsRow h' hv
    have hc := Tryz.slices_Sort_string g 0 cap (ks.map (·.data.toList)) w hH hg (by simpa using hl)
    rw [List.length_map] at hc
    refine hc.mono ?_
    rintro e w' ⟨rfl, q, os, rfl⟩
    have ho := Lib.ownsRow_putRow (q := q) (k := ks.length) (ys := (ks.map (·.data.toList)).mergeSort fun x y => decide (x ≤ y)) h' (by simp) (Nat.le_refl _)
    have hsz : g < (Sort.putRow Proofs.encStr (Sort.ahead w q) g 0 ((ks.map (·.data.toList)).mergeSort fun x y => decide (x ≤ y)).toArray).heap.size := by simp [Sort.ahead]; exact hg
    refine ⟨rfl, ?_, ?_⟩
    · have ho2 : (Sort.putRow Proofs.encStr (Sort.ahead w q) g 0 ((ks.map (·.data.toList)).mergeSort fun x y => decide (x ≤ y)).toArray).ownsRow base 9 1 (.slice (some ⟨g, 0, none⟩) ks.length cap) (sortS ks).length ((sortS ks).map Value.string) := by
        rw [sortS_length]
        have e : ((((ks.map (·.data.toList)).mergeSort fun x y => decide (x ≤ y)).take ks.length).map Proofs.encStr) = (sortS ks).map Value.string := by
          rw [List.take_of_length_le (by simp), sortS, List.map_map]
          rfl
        rw [← e]
        exact ho
      refine ⟨ho2.1, ?_⟩
      rcases ho2.2 with ⟨e, _⟩ | ⟨g', cap', cur, e, hb', hg', rest⟩
      · cases e
      · injection e with e1 _ e3
        injection e1 with e1
        injection e1 with e1
        subst e1; subst e3
        exact .inr ⟨g, cap, cur, by rw [sortS_length], hb', by rw [Sort.heap_grow_old _ _ hsz]; exact hg', rest⟩
    · refine ⟨rfl, rfl, rfl, by simp [Sort.ahead], fun k hk hne => ?_⟩
      have hk' : k < (Sort.putRow Proofs.encStr (Sort.ahead w q) g 0 ((ks.map (·.data.toList)).mergeSort fun x y => decide (x ≤ y)).toArray).heap.size := by simp [Sort.ahead]; exact hk
      have hne' : g ≠ k := fun e => hne (by rw [← e]; rfl)
      rw [Sort.heap_grow_old _ _ hk']
      simp [Sort.putRow, Sort.mapBlock, Sort.ahead, Array.getElem?_modify, hne']

/-! ### a row of pairs -/
theorem uPairs : Tryz.prog.underlying 113 = some (.slice 117) := by kernel_rfl
theorem iPair : (Tryz.prog.info? 117).map (fun i => (i.zero, i.size, i.bytes)) = some (some (.agg #[.slice none 0 0, .slice none 0 0]), 2, 48) := by kernel_rfl
/-- v is a row of the call's own that reads as the pairs l -/
def PS (w : World) (base : Nat) (v : Value) (l : AL) : Prop :=
  ∃ xs, w.ownsRow base 117 2 v l.length xs ∧ ∀ i p, l[i]? = some p → ∃ kv vv, xs[2 * i]? = some kv ∧ xs[2 * i + 1]? = some vv ∧ BL 5 w kv p.1 ∧ BL 5 w vv p.2
theorem PS.nil (w : World) (base : Nat) : PS w base (.slice none 0 0) [] := ⟨[], World.ownsRow_nil w base _ 2, fun i p h => by simp at h⟩
theorem PS.keep {w w' : World} {base : Nat} {v : Value} {l : AL} {F : Nat → Prop} (h : PS w base v l) (hk : Keep F w w') (hF : ∀ b cs e z, w.heap[b]? = some (.cells cs e z) → e = 117 ∨ e = 5 → ¬ F b) : PS w' base v l := by
  obtain ⟨xs, h1, h2⟩ := h
  refine ⟨xs, ⟨h1.1, ?_⟩, fun i p hp => ?_⟩
  · rcases h1.2 with hn | ⟨g, cap, cur, rfl, hb, hg, rest⟩
    · exact .inl hn
    · exact .inr ⟨g, cap, cur, rfl, hb, hk.blk hg (hF g _ _ _ hg (.inl rfl)), rest⟩
  · obtain ⟨kv, vv, a, b, c, d⟩ := h2 i p hp
    exact ⟨kv, vv, a, b, c.keep hk (fun b cs z hb => hF b cs _ z hb (.inr rfl)), d.keep hk (fun b cs z hb => hF b cs _ z hb (.inr rfl))⟩
theorem PS.below {w w' : World} {base : Nat} {v : Value} {l : AL} (h : PS w base v l) (hb : Below w.heap.size w w') : PS w' base v l := h.keep (Keep.ofBelow hb (fun _ => False)) (fun _ _ _ _ _ _ h => h)
theorem PS.blk {w : World} {base : Nat} {v : Value} {l : AL} (h : PS w base v l) : ∀ k, v.ownBlock = some k → base ≤ k ∧ k < w.heap.size ∧ ∃ cur z, w.heap[k]? = some (.cells cur 117 z) := by
  obtain ⟨xs, h, _⟩ := h
  intro k hk
  have h1 := World.ownsRow.lt h k hk
  refine ⟨h1.1, h1.2, ?_⟩
  rcases h.2 with ⟨rfl, _⟩ | ⟨g, cap, cur, rfl, hb, hg, rest⟩
  · simp [Value.ownBlock] at hk
  · simp [Value.ownBlock] at hk
    subst hk
    exact ⟨_, _, hg⟩
/-- what the append of a pair leaves -/
theorem PS.snoc {w w' : World} {base : Nat} {v v' kv vv : Value} {l : AL} {k u : ByteArray} {xs : List Value} (h1 : ∀ i p, l[i]? = some p → ∃ kv vv, xs[2 * i]? = some kv ∧ xs[2 * i + 1]? = some vv ∧ BL 5 w kv p.1 ∧ BL 5 w vv p.2)
    (ho : w'.ownsRow base 117 2 v' (l.length + 1) (xs ++ [kv, vv])) (hx : xs.length = l.length * 2) (hg : Grows w w' v v') (hv : ∀ k, v.ownBlock = some k → ∃ cur z, w.heap[k]? = some (.cells cur 117 z))
    (hk : BL 5 w kv k) (hu : BL 5 w vv u) : PS w' base v' (l ++ [(k, u)]) := by
  have hF : ∀ b cs z, w.heap[b]? = some (.cells cs 5 z) → ¬ (v.ownBlock = some b) := by
    intro b cs z hb hv'
    obtain ⟨cur, z', hb'⟩ := hv b hv'
    rw [hb] at hb'
    cases hb'
  refine ⟨xs ++ [kv, vv], by rw [List.length_append]; exact ho, fun i p hp => ?_⟩
  by_cases hi : i < l.length
  · rw [List.getElem?_append_left hi] at hp
    obtain ⟨kv', vv', a, b, c, d⟩ := h1 i p hp
    refine ⟨kv', vv', ?_, ?_, c.keep hg.keep hF, d.keep hg.keep hF⟩
    · rw [List.getElem?_append_left (by omega)]; exact a
    · rw [List.getElem?_append_left (by omega)]; exact b
  · have hil : i = l.length := by
      rcases Nat.lt_or_ge i (l ++ [(k, u)]).length with h | h
      · simp at h; omega
      · rw [List.getElem?_eq_none h] at hp; cases hp
    subst hil
    simp at hp
    subst hp
    refine ⟨kv, vv, ?_, ?_, hk.keep hg.keep hF, hu.keep hg.keep hF⟩
    · rw [List.getElem?_append_right (by omega), show 2 * l.length - xs.length = 0 by omega]; rfl
    · rw [List.getElem?_append_right (by omega), show 2 * l.length + 1 - xs.length = 1 by omega]; rfl
end Go.Proofs.YtidppalhjknlfaaGreatDoor
namespace Go.Proofs.YtidppalhjknlfaaGreatDoor
open Go.RowKit
set_option maxRecDepth 100000
set_option linter.unusedVariables false
set_option linter.unusedSimpArgs false

/-! ### a range over a map, step by step -/
theorem range_step {P : Program} (w : World) (r b c : Nat) (seen : Array Nat) (es : Array MapEntry) (hr : w.heap[r]? = some (.mapIter (some b) c seen c)) (hb : w.heap[b]? = some (.map es c))
    (hborn : ∀ x ∈ es.toList, x.born < c) (hnd : (es.toList.map (·.born)).Nodup) :
    ((leftOf es seen).size = 0 ∧ ∀ ty, (Instr.next (.pointer (some ⟨r, 0, none⟩)) false ty).run P w = .ok (.tuple #[.bool false]) w) ∨
    ∃ e w2, e ∈ es.toList ∧ e.born ∉ seen.toList ∧ (∀ ty, (Instr.next (.pointer (some ⟨r, 0, none⟩)) false ty).run P w = .ok (.tuple #[.bool true, e.key, e.val]) w2) ∧
      (Instr.entry (.pointer (some ⟨r, 0, none⟩))).run P w2 = .ok (.tuple #[e.key, e.val]) w2 ∧ w2.heap[r]? = some (.mapIter (some b) c (seen.push e.born) c) ∧ Keep (fun i => i = r) w w2 := by
  rcases run_next_at (P := P) w 0 r b c c seen es c hr hb hborn (Nat.le_refl _) with ⟨h0, h1⟩ | ⟨e, he, w1, hw, h1⟩
  · exact .inl ⟨h0, fun ty => h1⟩
  · have he' : e ∈ es.toList ∧ e.born ∉ seen.toList := by
      unfold leftOf at he
      simp only [Array.toList_filter, List.mem_filter, Bool.not_eq_true'] at he
      refine ⟨he.1, fun hm => ?_⟩
      have := he.2
      simp at this
      exact this (by simpa using hm)
    have hne : r ≠ b := by intro h; subst h; rw [hr] at hb; cases hb
    have hr1 : w1.heap[r]? = some (.mapIter (some b) c seen c) := by rcases hw with rfl | rfl <;> exact hr
    have hb1 : w1.heap[b]? = some (.map es c) := by rcases hw with rfl | rfl <;> exact hb
    have hk1 : Keep (fun i => i = r) w w1 := by
      rcases hw with rfl | rfl
      · exact Keep.refl _ _
      · exact (Keep.refl _ _).drew
    have hr2 := heap_setBlock_eq w1 r (.mapIter (some b) c (seen.push e.born) c) (blk_lt hr1)
    have hb2 := (heap_setBlock_ne w1 r (.mapIter (some b) c (seen.push e.born) c) b hne.symm).trans hb1
    refine .inr ⟨e, _, he'.1, he'.2, fun ty => h1, run_entry_at _ r b c seen es c e hr2 hb2 he'.1 hnd, hr2, hk1.setBlock (.inl rfl) _⟩

/-! ### what Range answers -/
def selB (f t k : ByteArray) : Bool := !slt k f && (decide (t.size = 0) || slt k t)
def keyOf' (e : MapEntry) : ByteArray := match e.key with | .string s => s | _ => ByteArray.empty
/-- the pairs from f on, below t, in order -/
def AL.range (f t : ByteArray) (l : AL) : AL := (AL.srt l).filter fun p => selB f t p.1
structure RInv (w0 : World) (c b r : Nat) (es : Array MapEntry) (f t : ByteArray) (w : World) (ks : Value) (vis : List MapEntry) : Prop where
  iter : w.heap[r]? = some (.mapIter (some b) c (vis.map (·.born)).toArray c)
  sub : ∀ e ∈ vis, e ∈ es.toList
  nd : (vis.map (·.born)).Nodup
  row : SR w w0.heap.size ks ((vis.map keyOf').filter (selB f t))
  keep : Below w0.heap.size w0 w
theorem RInv.len {w0 : World} {c b r : Nat} {es : Array MapEntry} {f t : ByteArray} {w : World} {ks : Value} {vis : List MapEntry} (h : RInv w0 c b r es f t w ks vis) (hnd : (es.toList.map (·.born)).Nodup) : vis.length ≤ es.toList.length := by
  have h1 : (vis.map (·.born)).length ≤ (es.toList.map (·.born)).length := by
    refine List.Nodup.length_le_of_subset h.nd ?_
    intro x hx
    obtain ⟨e, he, rfl⟩ := List.mem_map.1 hx
    exact List.mem_map.2 ⟨e, h.sub e he, rfl⟩
  simpa using h1
/-- behind the loop: the keys that were collected are the wanted ones of the map's -/
theorem vis_perm {es vis : List MapEntry} (hnd : (es.map (·.born)).Nodup) (hsub : ∀ e ∈ vis, e ∈ es) (hv : (vis.map (·.born)).Nodup) (hall : ∀ e ∈ es, e.born ∈ vis.map (·.born)) : vis.Perm es := by
  have e1 : vis.Nodup := (List.pairwise_map.1 hv).imp (fun {p q} h e => h (by rw [e]))
  have e2 : es.Nodup := (List.pairwise_map.1 hnd).imp (fun {p q} h e => h (by rw [e]))
  refine (List.perm_ext_iff_of_nodup e1 e2).2 fun e => ⟨hsub e, fun he => ?_⟩
  obtain ⟨e', h1, h2⟩ := List.mem_map.1 (hall e he)
  have : e' = e := by
    have key : ∀ (l : List MapEntry), (l.map (·.born)).Nodup → ∀ x ∈ l, ∀ y ∈ l, x.born = y.born → x = y := by
      intro l
      induction l with
      | nil => intro _ x hx; simp at hx
      | cons a l ih =>
        intro hn x hx y hy hxy
        obtain ⟨n1, n2⟩ := List.nodup_cons.1 (show (a.born :: l.map (·.born)).Nodup from hn)
        rcases List.mem_cons.1 hx with rfl | hx' <;> rcases List.mem_cons.1 hy with rfl | hy'
        · rfl
        · exact absurd (List.mem_map.2 ⟨y, hy', hxy.symm⟩) n1
        · exact absurd (show y.born ∈ l.map (·.born) from List.mem_map.2 ⟨x, hx', hxy⟩) n1
        · exact ih n2 x hx' y hy' hxy
    exact key es hnd e' (hsub e' h1) e he h2
  rw [← this]; exact h1
theorem keys_kvs : ∀ {es : List MapEntry} {l : AL}, KVs es l → es.map keyOf' = AL.keys l
  | [], l, h => by
    have : l = [] := by unfold KVs at h; simpa using h.symm
    subst this; rfl
  | e :: es, l, h => by
    obtain ⟨p, r, rfl, h1, h2, h3⟩ := h.cons
    simp only [List.map_cons, AL.keys, keyOf', h1]
    exact congrArg (p.1 :: ·) (keys_kvs h3)
theorem mk_data (s : ByteArray) : (⟨s.data.toList.toArray⟩ : ByteArray) = s := by cases s; simp
/-- sorting the wanted keys and looking each up is the range -/
theorem range_eq {l : AL} (h : AL.ND l) (f t : ByteArray) {ks : List ByteArray} (hp : ks.Perm ((AL.keys l).filter (selB f t))) :
    (sortS ks).map (fun k => (k, (AL.get k l).getD ByteArray.empty)) = AL.range f t l := by
  have hn : ((AL.keys l).filter (selB f t)).Nodup := h.sublist (List.filter_sublist)
  have hks : ks.Nodup := hp.nodup_iff.2 hn
  have hsp : (sortS ks).Perm ks := by
    unfold sortS
    have h1 := (List.mergeSort_perm (ks.map (·.data.toList)) fun x y => decide (x ≤ y)).map fun l => (⟨l.toArray⟩ : ByteArray)
    refine h1.trans ?_
    rw [List.map_map]
    have : ks.map ((fun l => (⟨l.toArray⟩ : ByteArray)) ∘ fun x => x.data.toList) = ks := by
      conv => rhs; rw [← List.map_id ks]
      exact List.map_congr_left (fun x _ => mk_data x)
    rw [this]
  have hst : (sortS ks).Pairwise fun a b => slt a b = true := by
    have h1 : ((ks.map (·.data.toList)).mergeSort fun x y => decide (x ≤ y)).Pairwise fun x y => decide (x ≤ y) = true :=
      List.pairwise_mergeSort (fun a b c hab hbc => by simp only [decide_eq_true_eq] at *; exact List.le_trans hab hbc) (fun a b => by simp only [Bool.or_eq_true, decide_eq_true_eq]; exact List.le_total _ _) _
    have h2 : (sortS ks).Pairwise fun a b => decide (a.toList ≤ b.toList) = true := by
      unfold sortS
      rw [List.pairwise_map]
      refine h1.imp (fun {a b} hab => ?_)
      rw [toList_data, toList_data]
      simpa using hab
    have h3 : (sortS ks).Nodup := hsp.nodup_iff.2 hks
    refine (h2.and h3).imp (fun {a b} ⟨x, y⟩ => ?_)
    rw [bl_le] at x
    cases hs : slt a b
    · exact absurd (slt_total hs (by simpa [slt] using x)) y
    · rfl
  refine eq_of_perm_strict plt plt_asymm _ _ ?_ ?_ ((srt_strict h).sublist List.filter_sublist)
  · have hmap : ((sortS ks).map (fun k => (k, (AL.get k l).getD ByteArray.empty))).Nodup := by
      refine List.pairwise_map.2 ((hsp.nodup_iff.2 hks).imp (fun {a b} hab e => hab ?_))
      exact (Prod.mk.inj e).1
    have hfn : (AL.range f t l).Nodup := (((srt_perm l).nodup_iff.2 (nd_nodup h))).sublist List.filter_sublist
    refine (List.perm_ext_iff_of_nodup hmap hfn).2 fun q => ?_
    rw [List.mem_map]
    constructor
    · rintro ⟨k, hk, rfl⟩
      have hk' := hp.subset (hsp.subset hk)
      rw [List.mem_filter] at hk'
      obtain ⟨p, hpl, hpk⟩ := List.mem_map.1 hk'.1
      have hg : AL.get k l = some p.2 := (get_some h).2 (by rw [← hpk]; exact hpl)
      unfold AL.range
      rw [List.mem_filter]
      refine ⟨(srt_perm l).symm.subset ?_, hk'.2⟩
      rw [hg, ← hpk]; exact hpl
    · intro hq
      unfold AL.range at hq
      rw [List.mem_filter] at hq
      have hql := (srt_perm l).subset hq.1
      refine ⟨q.1, hsp.symm.subset (hp.symm.subset (List.mem_filter.2 ⟨List.mem_map.2 ⟨q, hql, rfl⟩, hq.2⟩)), ?_⟩
      rw [(get_some h).2 (show (q.1, q.2) ∈ l from hql)]
      rfl
  · rw [List.pairwise_map]
    exact hst
end Go.Proofs.YtidppalhjknlfaaGreatDoor
namespace Go.Proofs.YtidppalhjknlfaaGreatDoor
open Go.RowKit
set_option maxRecDepth 100000
set_option linter.unusedVariables false
set_option linter.unusedSimpArgs false
theorem SR.len {w : World} {base : Nat} {v : Value} {ks : List ByteArray} (h : SR w base v ks) : ∃ a cap, v = .slice a ks.length cap := by
  rcases h.2 with ⟨rfl, h0⟩ | ⟨g, cap, cur, rfl, _⟩
  · exact ⟨none, 0, by rw [h0]⟩
  · exact ⟨_, _, rfl⟩
theorem SR.at_ {w : World} {base : Nat} {v : Value} {ks : List ByteArray} (h : SR w base v ks) {j : Nat} {k : ByteArray} (hj : ks[j]? = some k) : ∃ g cap, v = .slice (some ⟨g, 0, none⟩) ks.length cap ∧ w.cell? ⟨g, j, none⟩ = some (.string k) := by
  have hlt : j < ks.length := (List.getElem?_eq_some_iff.1 hj).1
  rcases h.2 with ⟨rfl, h0⟩ | ⟨g, cap, cur, rfl, hr⟩
  · omega
  · have h' : w.ownsRow base 9 1 (.slice (some ⟨g, 0, none⟩) ks.length cap) ks.length (ks.map Value.string) := h
    have := h'.cells rfl j (.string k) (by rw [List.getElem?_map, hj]; rfl)
    refine ⟨g, cap, rfl, ?_⟩
    have hz : (⟨g, 0, none⟩ : Addr).add j = ⟨g, j, none⟩ := by by_cases h : j = 0 <;> simp [Addr.add, h]
    rwa [hz] at this
theorem BL.one {e : TypeId} {w : World} {v : Value} {s : ByteArray} (h : BL e w v s) : v.oneCell' = true := by
  obtain ⟨b, c, cs, z, rfl, _⟩ := h; rfl
theorem sortS_mem {ks : List ByteArray} {k : ByteArray} (h : k ∈ sortS ks) : k ∈ ks := by
  unfold sortS at h
  obtain ⟨l, hl, rfl⟩ := List.mem_map.1 h
  obtain ⟨k', hk', rfl⟩ := List.mem_map.1 ((List.mergeSort_perm _ _).subset hl)
  rw [mk_data]; exact hk'
def iterLeft (n r : Nat) (w : World) : Nat := match w.heap[r]? with | some (.mapIter _ _ seen _) => n - seen.size | _ => 0
/-- the map's rows are small -/
def Small (l : AL) : Prop := l.length ≤ 1000000 ∧ ∀ p ∈ l, p.1.size ≤ 256 ∧ p.2.size ≤ 1024
set_option maxHeartbeats 4000000
theorem range_any (p : Nat) (room : Int) (b1 b2 : Nat) (now was : AL) (fv tv : Value) (f t : ByteArray) (w : World) (hM : MemIs w p room b1 b2 now was) (hF : BS w fv f) (hT : BS w tv t) (hS : Small now) (hN : AL.ND now) :
    Calls Tryz.prog 105 #[pV p, fv, tv] w fun e w' => ∃ v, e = .returned (.tuple #[v, .int .i64 0]) ∧ PS w' w.heap.size v (AL.range f t now) ∧ Below w.heap.size w w' := by
  have hc1 : w.cell? ⟨p, 1, none⟩ = some (.map (some b1)) := by rw [blk_cell hM.blk]; rfl
  obtain ⟨es, c, hb, hkv, hpw, hborn⟩ := hM.now
  have hnd : (es.toList.map (·.born)).Nodup := hpw.imp (fun h => Nat.ne_of_lt h)
  have hrg := run_range_map (P := Tryz.prog) w 39 9 9 b1 es c uMap hb
  have hlen : es.toList.length = now.length := by have := congrArg List.length hkv; simpa using this
  have hm1 : b1 ≠ p := hM.ne1
  have HM := Lib.hid hM
  have HF := Lib.hid hF
  have HT := Lib.hid hT
  have HS := Lib.hid hS
  have HN := Lib.hid hN
  have HK := Lib.hid hkv
  have HB := Lib.hid hb
  have HBN := Lib.hid hborn
  have HND := Lib.hid hnd
  have HL := Lib.hid hlen
  have hbl : b1 < w.heap.size := blk_lt hb
  unfold pV
  clear hM hF hT hS hN hkv hpw hborn hb hnd hlen
  go_enter Tryz.func105, Tryz.ntmps105
  go_wp2_with fail
  go_loopw [8] (fun ks wr => ∃ vis, Hid (RInv w c b1 w.heap.size es f t wr ks vis)) (fun _ wr => iterLeft (es.toList.length + 1) w.heap.size wr)
  case atStart =>
    refine ⟨[], Lib.hid ⟨blk_new _ _, by simp, by simp, World.ownsRow_nil _ _ _ _, ?_⟩⟩
    exact (Below.refl _ _).alloc (Nat.le_refl _) _
  case round =>
    obtain ⟨vis, HR⟩ := hrel
    have hbw : wr.heap[b1]? = some (.map es c) := (Keep.ofBelow HR.out.keep (fun _ => False)).blk HB.out (fun h => h)
    rcases range_step (P := Tryz.prog) wr w.heap.size b1 c _ es HR.out.iter hbw HBN.out HND.out with ⟨h0, h1⟩ | ⟨e, w2, h1, h2, h3, h4, h5, h6⟩
    · have hp : vis.Perm es.toList := by
        refine vis_perm HND.out HR.out.sub HR.out.nd fun x hx => ?_
        have := h0
        unfold leftOf at this
        rw [Array.size_eq_zero_iff, Array.filter_eq_empty_iff] at this
        have := this x (by simpa using hx)
        simpa using this
      have HP := Lib.hid hp
      have HSR := Lib.hid HR.out.row
      have HBW := Lib.hid HR.out.keep
      clear HR hp h0 hbw
      go_wp2_with fail
      refine (sort_any _ _ _ _ HSR.out ?_).mono ?_
      · have h1 := HP.out.length_eq
        have h2 := List.length_filter_le (selB f t) (vis.map keyOf')
        have h3 := HL.out
        have h4 := HS.out.1
        simp only [List.length_map] at h2
        omega
      rintro e w1 ⟨rfl, hs1, hk1⟩
      have hkey : ∀ k ∈ sortS ((vis.map keyOf').filter (selB f t)), ∃ p ∈ now, p.1 = k := by
        intro k hk
        have h1 := (List.mem_filter.1 (sortS_mem hk)).1
        have h2 : k ∈ es.toList.map keyOf' := (HP.out.map _).subset h1
        rw [keys_kvs HK.out] at h2
        exact List.mem_map.1 h2
      have hq : (sortS ((vis.map keyOf').filter (selB f t))).map (fun k => (k, (AL.get k now).getD ByteArray.empty)) = AL.range f t now :=
        range_eq HN.out f t (((HP.out.map keyOf').trans (by rw [keys_kvs HK.out])).filter _)
      have hn : (sortS ((vis.map keyOf').filter (selB f t))).length ≤ 1000000 := by
        have := congrArg List.length hq
        rw [List.length_map] at this
        rw [this]
        unfold AL.range
        refine Nat.le_trans (List.length_filter_le _ _) ?_
        rw [(srt_perm now).length_eq]; exact HS.out.1
      have HK1 := Lib.hid (HBW.out.trans (hk1.below HBW.out.size (fun i hi => (HSR.out.blk i hi).1)))
      obtain ⟨K, hK⟩ : ∃ K, K = sortS ((vis.map keyOf').filter (selB f t)) := ⟨_, rfl⟩
      rw [← hK] at hs1 hkey hq hn
      obtain ⟨a, cap, rfl⟩ := hs1.len
      have HS1 := Lib.hid hs1
      have HQ := Lib.hid hq
      have HKEY := Lib.hid hkey
      have hb1 : w.heap.size ≤ w1.heap.size := HK1.out.size
      clear hk1 hs1 hK hq hkey HP HSR h1
      obtain ⟨wo, rfl⟩ : ∃ wo : World, wo = wr := ⟨_, rfl⟩
      go_wp2_with fail
      go_loopw [10, 47] (fun b i w3 => ∃ j : Nat, j ≤ K.length ∧ i = .int .i64 j ∧ Hid (PS w3 w.heap.size b ((K.take j).map fun k => (k, (AL.get k now).getD ByteArray.empty))) ∧ Hid (SR w3 w.heap.size (.slice a K.length cap) K) ∧ Hid (Below w.heap.size w w3)) (fun _ i _ => K.length - (intOf i).toNat)
      case atStart => exact ⟨0, by omega, rfl, Lib.hid (PS.nil _ _), HS1, HK1⟩
      case round =>
        obtain ⟨j, hj, rfl, HP3, HS3, HB3⟩ := hrel
        by_cases hlt : j < K.length
        · obtain ⟨k, hk⟩ : ∃ k, K[j]? = some k := ⟨_, List.getElem?_eq_getElem hlt⟩
          obtain ⟨g, cap', ha, hcell⟩ := HS3.out.at_ hk
          injection ha with ha _ hcap
          subst ha; subst hcap
          obtain ⟨pr, hpr, hpk⟩ := HKEY.out k (List.mem_of_getElem? hk)
          have hks : k.size ≤ 256 := by rw [← hpk]; exact (HS.out.2 pr hpr).1
          have hg := (get_some HN.out).2 (show (k, pr.2) ∈ now by rw [← hpk]; exact hpr)
          have hvs : pr.2.size ≤ 1024 := (HS.out.2 pr hpr).2
          have hM3 := HM.out.below HB3.out
          have hc3 : wr.cell? ⟨p, 1, none⟩ = some (.map (some b1)) := by rw [blk_cell hM3.blk]; rfl
          have kc := Lib.run_convert_string_bytes (P := Tryz.prog) wr 9 76 5 k uStr uBytes uByte
          have HB4 := Lib.hid (bytes_below wr 5 k)
          have hc4 : (Lib.bytesWorld wr 5 k).cell? ⟨p, 1, none⟩ = some (.map (some b1)) := (Keep.ofBelow HB4.out (fun _ => False)).cell hc3 (fun h => h)
          have look := MapAt.lookup (P := Tryz.prog) (t := 39) (hM3.below HB4.out).now uMap uStr zStr k
          rw [hg, Option.getD_some] at look
          have kc2 := Lib.run_convert_string_bytes (P := Tryz.prog) (Lib.bytesWorld wr 5 k) 9 76 5 pr.2 uStr uBytes uByte
          have HB5 := Lib.hid (bytes_below (Lib.bytesWorld wr 5 k) 5 pr.2)
          have HL1 := Lib.hid (bl_bytes wr 5 k (by omega))
          have HL2 := Lib.hid (bl_bytes (Lib.bytesWorld wr 5 k) 5 pr.2 (by omega))
          have hts := Lib.hid (show ((K.take (j + 1)).map fun k => (k, (AL.get k now).getD ByteArray.empty)) = ((K.take j).map fun k => (k, (AL.get k now).getD ByteArray.empty)) ++ [(k, pr.2)] by
            rw [List.take_add_one, hk]; simp [hg])
          obtain ⟨wa, hwa⟩ : ∃ wa, wa = Lib.bytesWorld wr 5 k := ⟨_, rfl⟩
          rw [← hwa] at kc hc4 look kc2 HL1 HL2 HB4 HB5
          obtain ⟨wb, hwb⟩ : ∃ wb, wb = Lib.bytesWorld wa 5 pr.2 := ⟨_, rfl⟩
          rw [← hwb] at kc2 HL2 HB5
          obtain ⟨kv, hkv⟩ : ∃ kv, kv = grownCap wr k.size 0 5 := ⟨_, rfl⟩
          rw [← hkv] at kc HL1
          obtain ⟨vv, hvv⟩ : ∃ vv, vv = grownCap wa pr.2.size 0 5 := ⟨_, rfl⟩
          rw [← hvv] at kc2 HL2
          clear hwa hwb hkv hvv hc3 hM3 hg hpr hpk hks hvs
          have HB6 := Lib.hid (below_and HB4.out HB5.out)
          have HPb := Lib.hid (HP3.out.blk)
          obtain ⟨xs, hx1, hx2⟩ := HP3.out.below HB6.out
          have HX1 := Lib.hid hx1
          have HX2 := Lib.hid hx2
          have HL1' := Lib.hid (HL1.out.below HB5.out)
          have o1 := HL1.out.one
          have o2 := HL2.out.one
          have hb6 : w.heap.size ≤ wb.heap.size := Nat.le_trans HB3.out.size HB6.out.size
          have hll : (((K.take j).map fun k => (k, (AL.get k now).getD ByteArray.empty))).length = j := by simp; omega
          clear hx1 hx2 HL1 HP3 HKEY HQ
          go_wp2_with (at_builtin; go_must (refine wp_app_el w.heap.size rfl _ _ 113 117 rfl uPairs _ 2 48 iPair rfl (by decide) (by decide) u10 (((K.take j).map fun k => (k, (AL.get k now).getD ByteArray.empty))).length xs [.slice (some ⟨wr.heap.size, 0, none⟩) k.size kv, .slice (some ⟨wa.heap.size, 0, none⟩) pr.2.size vv] rfl rfl rfl HX1.out hb6 (by rw [hll]; omega) (by simp [o1, o2]) ?_); intro v1 w4 ho1 hg1; have HO := Lib.hid ho1; have HG := Lib.hid hg1; clear ho1 hg1)
          go_wp2
          go_roundw
          case rel =>
            refine ⟨j + 1, by omega, by go_num, Lib.hid ?_, Lib.hid ((HS3.out.keep (Keep.ofBelow HB6.out (fun _ => False)) (fun _ _ h => h)).keep HG.out.keep ?_), Lib.hid (HB3.out.trans ((HB6.out.mono HB3.out.size).trans (HG.out.keep.below hb6 fun i hi => (HX1.out.lt i hi).1)))⟩
            · rw [hts.out]
              refine PS.snoc HX2.out HO.out HX1.out.1 HG.out ?_ HL1'.out HL2.out
              intro i hi
              obtain ⟨_, h2, cur, z, h3⟩ := HPb.out i hi
              exact ⟨cur, z, (Keep.ofBelow HB6.out (fun _ => False)).blk h3 (fun h => h)⟩
            · intro i hi hi'
              obtain ⟨_, h2, cur, z, h3⟩ := HPb.out i hi'
              obtain ⟨_, _, cur', z', h3'⟩ := HS3.out.blk i hi
              rw [h3] at h3'
              cases h3'
          case measure => simp [intOf]; omega
        · have hje : j = K.length := by omega
          subst hje
          go_wp2
          go_ret2
          refine ⟨_, rfl, ?_, HB3.out⟩
          have := HP3.out
          rwa [List.take_length, HQ.out] at this
    · have hkm : ∃ q ∈ now, e.key = .string q.1 := by
        have : (e.key, e.val) ∈ es.toList.map (fun e => (e.key, e.val)) := List.mem_map.2 ⟨e, h1, rfl⟩
        rw [show es.toList.map (fun e => (e.key, e.val)) = _ from HK.out] at this
        obtain ⟨q, hq, he⟩ := List.mem_map.1 this
        exact ⟨q, hq, (Prod.mk.inj he).1.symm⟩
      obtain ⟨q, hq, hek⟩ := hkm
      have hko : keyOf' e = q.1 := by simp only [keyOf', hek]
      have hB2 : Below w.heap.size w w2 := HR.out.keep.trans (h6.below HR.out.keep.size fun i hi => by omega)
      have HB2 := Lib.hid hB2
      have H5 := Lib.hid h5
      have H6 := Lib.hid h6
      have HI := Lib.hid HR.out.iter
      have HE := Lib.hid h1
      have HV := Lib.hid h2
      have cf := ((HF.out.below hB2).string (P := Tryz.prog) 76 5 9 uBytes uByte uStr)
      have ct := ((HT.out.below hB2).string (P := Tryz.prog) 76 5 9 uBytes uByte uStr)
      have ln := HT.out.lenRun (P := Tryz.prog) (t := 76) (e := 5) uBytes 3 w2
      have hS2 : SR w2 w.heap.size u8 ((vis.map keyOf').filter (selB f t)) := HR.out.row.keep h6 (fun i hi h => by
        obtain ⟨_, _, cur, z, h'⟩ := HR.out.row.blk i hi
        rw [h, HR.out.iter] at h'; cases h')
      have HS2 := Lib.hid hS2
      rw [hek] at h3 h4
      have hnd' : ((vis ++ [e]).map (·.born)).Nodup := by
        rw [List.map_append, List.nodup_append]
        refine ⟨HR.out.nd, by simp, fun a ha b hb => ?_⟩
        simp only [List.map_cons, List.map_nil, List.mem_singleton] at hb
        subst hb
        intro he; subst he
        exact h2 (by simpa using ha)
      have hrel' : ∀ (ks' : Value) (w3 : World), w3.heap[w.heap.size]? = w2.heap[w.heap.size]? → SR w3 w.heap.size ks' (((vis ++ [e]).map keyOf').filter (selB f t)) → Below w.heap.size w w3 → RInv w c b1 w.heap.size es f t w3 ks' (vis ++ [e]) := by
        intro ks' w3 e1 e2 e3
        refine ⟨?_, fun x hx => ?_, hnd', e2, e3⟩
        · rw [e1, h5]; simp
        · rcases List.mem_append.1 hx with hx | hx
          · exact HR.out.sub x hx
          · rw [List.mem_singleton.1 hx]; exact h1
      have hvl : vis.length + 1 ≤ es.toList.length := by
        have := (hrel' u8 w2 rfl)
        have h1' : ((vis ++ [e]).map (·.born)).length ≤ (es.toList.map (·.born)).length := by
          refine List.Nodup.length_le_of_subset hnd' ?_
          intro x hx
          obtain ⟨y, hy, rfl⟩ := List.mem_map.1 hx
          refine List.mem_map.2 ⟨y, ?_, rfl⟩
          rcases List.mem_append.1 hy with hy | hy
          · exact HR.out.sub y hy
          · rw [List.mem_singleton.1 hy]; exact h1
        simpa using h1'
      have hfil : ((vis ++ [e]).map keyOf').filter (selB f t) = ((vis.map keyOf').filter (selB f t)) ++ (if selB f t q.1 then [q.1] else []) := by
        rw [List.map_append, List.filter_append]
        simp only [List.map_cons, List.map_nil, hko, List.filter_cons, List.filter_nil]
      have hit : iterLeft (es.toList.length + 1) w.heap.size wr = es.toList.length + 1 - vis.length := by
        unfold iterLeft; rw [HR.out.iter]; simp
      have hit2 : ∀ w3 : World, w3.heap[w.heap.size]? = w2.heap[w.heap.size]? → iterLeft (es.toList.length + 1) w.heap.size w3 = es.toList.length + 1 - (vis.length + 1) := by
        intro w3 e1
        unfold iterLeft; rw [e1, h5]; simp
      have HREL := Lib.hid hrel'
      have HFIL := Lib.hid hfil
      have HIT := Lib.hid hit
      have HIT2 := Lib.hid hit2
      have h2r : w.heap.size < w2.heap.size := blk_lt h5
      clear HR h1 h2 h5 h6 hB2 hS2 hrel' hfil hbw hnd' hit hit2
      cases g1 : slt q.1 f with
      | true =>
        have hs0 : selB f t q.1 = false := by unfold selB; rw [g1]; rfl
        have g1' : Op.bytesLess q.1.toList f.toList = true := g1
        clear g1
        go_wp2_with fail
        go_roundw
        case rel => exact ⟨_, Lib.hid (HREL.out _ _ rfl (by rw [HFIL.out, hs0]; simpa using HS2.out) HB2.out)⟩
        case measure => rw [HIT.out, HIT2.out _ rfl]; omega
      | false =>
        have g1' : Op.bytesLess q.1.toList f.toList = false := g1
        have hb2 : w.heap.size ≤ w2.heap.size := HB2.out.size
        have hln : (((vis.map keyOf').filter (selB f t)).length + 1) * 16 ≤ 140737488355328 := by
          have h2 := List.length_filter_le (selB f t) (vis.map keyOf')
          have h3 := HL.out
          have h4 := HS.out.1
          simp only [List.length_map] at h2
          omega
        have hne : ∀ {v v' : Value} {w4 : World}, v = u8 → Grows w2 w4 v v' → w4.heap[w.heap.size]? = w2.heap[w.heap.size]? := by
          intro v v' w4 hv hg
          subst hv
          refine hg.keep.block _ h2r fun h => ?_
          obtain ⟨_, _, cur, z, h'⟩ := HS2.out.blk _ h
          rw [H5.out] at h'; cases h'
        replace hne := fun {v' : Value} {w4 : World} => hne (v := u8) (v' := v') (w4 := w4) rfl
        by_cases g2 : t.size = 0
        · have hs0 : selB f t q.1 = true := by unfold selB; rw [g1]; simp [g2]
          have g2' : ((t.size : Int) == 0) = true := beq_iff_eq.2 (by omega)
          clear g1 g2
          go_wp2_with (at_builtin; go_must (refine wp_app_el w.heap.size rfl _ _ 164 9 rfl uStrs _ 1 16 iStr rfl (by decide) (by decide) u8 ((vis.map keyOf').filter (selB f t)).length (((vis.map keyOf').filter (selB f t)).map Value.string) [.string q.1] rfl rfl rfl HS2.out hb2 hln (by simp [Value.oneCell']) ?_); intro v1 w4 ho1 hg1; have HO := Lib.hid ho1; have HG := Lib.hid hg1; clear ho1 hg1)
          go_wp2
          go_roundw
          case rel =>
            refine ⟨_, Lib.hid (HREL.out _ _ (hne HG.out) ?_ (HB2.out.trans (HG.out.keep.below hb2 fun i hi => (HS2.out.blk i hi).1)))⟩
            rw [HFIL.out, hs0]
            have := HO.out
            unfold SR
            rw [if_pos rfl, List.length_append, List.map_append]
            exact this
          case measure => rw [HIT.out, HIT2.out _ (hne HG.out)]; omega
        · have g2' : ((t.size : Int) == 0) = false := beq_eq_false_iff_ne.2 (by omega)
          cases g3 : slt q.1 t with
          | true =>
            have hs0 : selB f t q.1 = true := by unfold selB; rw [g1, g3]; simp
            have g3' : Op.bytesLess q.1.toList t.toList = true := g3
            clear g1 g2 g3
            go_wp2_with (at_builtin; go_must (refine wp_app_el w.heap.size rfl _ _ 164 9 rfl uStrs _ 1 16 iStr rfl (by decide) (by decide) u8 ((vis.map keyOf').filter (selB f t)).length (((vis.map keyOf').filter (selB f t)).map Value.string) [.string q.1] rfl rfl rfl HS2.out hb2 hln (by simp [Value.oneCell']) ?_); intro v1 w4 ho1 hg1; have HO := Lib.hid ho1; have HG := Lib.hid hg1; clear ho1 hg1)
            go_wp2
            go_roundw
            case rel =>
              refine ⟨_, Lib.hid (HREL.out _ _ (hne HG.out) ?_ (HB2.out.trans (HG.out.keep.below hb2 fun i hi => (HS2.out.blk i hi).1)))⟩
              rw [HFIL.out, hs0]
              have := HO.out
              unfold SR
              rw [if_pos rfl, List.length_append, List.map_append]
              exact this
            case measure => rw [HIT.out, HIT2.out _ (hne HG.out)]; omega
          | false =>
            have hs0 : selB f t q.1 = false := by unfold selB; rw [g1, g3]; simp [g2]
            have g3' : Op.bytesLess q.1.toList t.toList = false := g3
            clear g1 g2 g3
            go_wp2_with fail
            go_roundw
            case rel => exact ⟨_, Lib.hid (HREL.out _ _ rfl (by rw [HFIL.out, hs0]; simpa using HS2.out) HB2.out)⟩
            case measure => rw [HIT.out, HIT2.out _ rfl]; omega
end Go.Proofs.YtidppalhjknlfaaGreatDoor
