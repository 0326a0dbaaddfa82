/-
  DERIVED: THE SHELF's CONTRACTS AT THIS DUMP, IN PLAIN WORDS (tools/lay-plain.mjs out of 'TryzShelf.lean', which tools/lay-shelf.mjs wrote): THE SAME DECLARATIONS UNDER THE SAME NAMES: 'import', 'namespace', 'open', 'def', 'theorem' AND NOTHING ELSE: no command of the shelf's: FOR A HAND-IN. Each laying: the table of numbers ('.._ren') and one theorem, a field a fact of the dump's own or the kernel's comparison; each contract: ONE APPLICATION.
-/
import Derived.Test.YtiopahkigbdmcaaGreatProg
import Derived.Test.YtiopahkigbdmcaaGreatMb
import Derived.Test.YtiopahkigbdmcaaGreatMc
import Derived.Shelf.Small.Bits
import Derived.Shelf.Small.Strs
import Derived.Shelf.Small.Wraps
import Derived.Shelf.Strconv.Itoa0
import Derived.Shelf.Strings.Search1
import Derived.Shelf.Strings.Search2
import Derived.Shelf.Strings.Cut
import Derived.Shelf.LaysM
import Derived.Shelf.Strings.Shaped
import Derived.Shelf.Strings.LastIndex
import Derived.Shelf.Strings.Prefix
namespace Go.Proofs
open Go.Shelf
def Tryz.lays128_ren : Go.Shelf.Ren := ⟨fun | 128 => 119 | n => n, fun | 51 => 161 | 3 => 3 | 4 => 4 | 46 => 132 | 5 => 5 | 9 => 9 | n => n, fun | n => n⟩
theorem Tryz.lays128 : Go.Proofs.Lays.n128 Tryz.prog Tryz.lays128_ren := {
  mixed := by kernel_rfl
  f128 := Tryz.func119.trans (congrArg some (by kernel_rfl))
  t3 := Tryz.underlying3
  a3 := Tryz.isAgg3
  z3 := Tryz.sizeOf3
  v3 := Tryz.zeroValue3
  t4 := Tryz.underlying4
  a4 := Tryz.isAgg4
  z4 := Tryz.sizeOf4
  v4 := Tryz.zeroValue4
  t5 := Tryz.underlying5
  a5 := Tryz.isAgg5
  z5 := Tryz.sizeOf5
  v5 := Tryz.zeroValue5
  t9 := Tryz.underlying9
  a9 := Tryz.isAgg9
  z9 := Tryz.sizeOf9
  v9 := Tryz.zeroValue9
  t46 := Tryz.underlying132
  a46 := Tryz.isAgg132
  z46 := Tryz.sizeOf132
  v46 := Tryz.zeroValue132
  t51 := Tryz.underlying161
  a51 := Tryz.isAgg161
  z51 := Tryz.sizeOf161
  v51 := Tryz.zeroValue161 }
/-- bits.Len32: "Len32 returns the minimum number of bits required to represent x; the result is 0 for x == 0.": IT RETURNS 'Lib.bitLen x'; the world is as it was. ('h0', 'h1': x is a uint32.) (LAID: no walk: one application.) -/
theorem Tryz.bits_Len32 (x : Int) (w : World) (h0 : 0 ≤ x) (h1 : x ≤ 4294967295) :
    Calls Tryz.prog 119 #[.int .u32 x] w fun e w' => e = .returned (.int .i64 (Lib.bitLen x.toNat)) ∧ w' = w := Any.bits_Len32 Tryz.lays128 x w h0 h1
def Tryz.lays125_ren : Go.Shelf.Ren := ⟨fun | 125 => 94 | 128 => 119 | 129 => 120 | n => n, fun | 46 => 132 | 3 => 3 | 51 => 161 | 53 => 56 | 4 => 4 | 5 => 5 | 9 => 9 | n => n, fun | n => n⟩
theorem Tryz.lays125 : Go.Proofs.Lays.n125 Tryz.prog Tryz.lays125_ren := {
  mixed := by kernel_rfl
  f125 := Tryz.func94.trans (congrArg some (by kernel_rfl))
  f128 := Tryz.func119.trans (congrArg some (by kernel_rfl))
  f129 := Tryz.func120.trans (congrArg some (by kernel_rfl))
  t3 := Tryz.underlying3
  a3 := Tryz.isAgg3
  z3 := Tryz.sizeOf3
  v3 := Tryz.zeroValue3
  t4 := Tryz.underlying4
  a4 := Tryz.isAgg4
  z4 := Tryz.sizeOf4
  v4 := Tryz.zeroValue4
  t5 := Tryz.underlying5
  a5 := Tryz.isAgg5
  z5 := Tryz.sizeOf5
  v5 := Tryz.zeroValue5
  t9 := Tryz.underlying9
  a9 := Tryz.isAgg9
  z9 := Tryz.sizeOf9
  v9 := Tryz.zeroValue9
  t46 := Tryz.underlying132
  a46 := Tryz.isAgg132
  z46 := Tryz.sizeOf132
  v46 := Tryz.zeroValue132
  t51 := Tryz.underlying161
  a51 := Tryz.isAgg161
  z51 := Tryz.sizeOf161
  v51 := Tryz.zeroValue161
  t53 := Tryz.underlying56
  a53 := Tryz.isAgg56
  z53 := Tryz.sizeOf56
  v53 := Tryz.zeroValue56 }
/-- bits.Len: "Len returns the minimum number of bits required to represent x; the result is 0 for x == 0.": IT RETURNS 'Lib.bitLen x'; the world is as it was. (A uint has 64 bits in the model.) ITS CALLEE bits.Len64 IS MET BY ITS OWN CONTRACT OFF THE SHELF (lay that first). (LAID: no walk: one application.) -/
theorem Tryz.bits_Len (x : Int) (w : World) (h0 : 0 ≤ x) (h1 : x ≤ 18446744073709551615) :
    Calls Tryz.prog 94 #[.int .u64 x] w fun e w' => e = .returned (.int .i64 (Lib.bitLen x.toNat)) ∧ w' = w := Any.bits_Len Tryz.lays125 x w h0 h1
def Tryz.lays137_ren : Go.Shelf.Ren := ⟨fun | 137 => 130 | 217 => 146 | 266 => 154 | n => n, fun | 9 => 9 | 5 => 5 | 3 => 3 | n => n, fun | n => n⟩
theorem Tryz.lays137 : Go.Proofs.Lays.n137 Tryz.prog Tryz.lays137_ren := {
  mixed := by kernel_rfl
  f137 := Tryz.func130.trans (congrArg some (by kernel_rfl))
  f217 := Tryz.func146.trans (congrArg some (by kernel_rfl))
  f266 := Tryz.func154.trans (congrArg some (by kernel_rfl))
  t3 := Tryz.underlying3
  a3 := Tryz.isAgg3
  z3 := Tryz.sizeOf3
  v3 := Tryz.zeroValue3
  t5 := Tryz.underlying5
  a5 := Tryz.isAgg5
  z5 := Tryz.sizeOf5
  v5 := Tryz.zeroValue5
  t9 := Tryz.underlying9
  a9 := Tryz.isAgg9
  z9 := Tryz.sizeOf9
  v9 := Tryz.zeroValue9 }
open Go.RowKit in
/-- strings.IndexByte: "IndexByte returns the index of the first instance of c in s, or -1 if c is not present in s.": IT RETURNS 'Lib.indexByte s c'; the world is as it was. (LAID: no walk: one application.) -/
theorem Tryz.strings_IndexByte (s : ByteArray) (c : Int) (w : World) :
    Calls Tryz.prog 130 #[.string s, .int .u8 c] w fun e w' => e = .returned (.int .i64 (Lib.indexByte s.data.toList c.toNat.toUInt8)) ∧ w' = w := Any.strings_IndexByte Tryz.lays137 s c w
def Tryz.lays210_ren : Go.Shelf.Ren := ⟨fun | 210 => 148 | 206 => 138 | n => n, fun | 9 => 9 | 4 => 4 | 3 => 3 | n => n, fun | n => n⟩
theorem Tryz.lays210 : Go.Proofs.Lays.n210 Tryz.prog Tryz.lays210_ren := {
  mixed := by kernel_rfl
  f206 := Tryz.func138.trans (congrArg some (by kernel_rfl))
  f210 := Tryz.func148.trans (congrArg some (by kernel_rfl))
  t3 := Tryz.underlying3
  a3 := Tryz.isAgg3
  z3 := Tryz.sizeOf3
  v3 := Tryz.zeroValue3
  t4 := Tryz.underlying4
  a4 := Tryz.isAgg4
  z4 := Tryz.sizeOf4
  v4 := Tryz.zeroValue4
  t9 := Tryz.underlying9
  a9 := Tryz.isAgg9
  z9 := Tryz.sizeOf9
  v9 := Tryz.zeroValue9 }
open Go.RowKit in
/-- internal/stringslite.CutPrefix (what strings.CutPrefix calls). (LAID: no walk: one application.) -/
theorem Tryz.stringslite_CutPrefix (s p : ByteArray) (w : World) :
    Calls Tryz.prog 148 #[.string s, .string p] w fun e w' => e = .returned (.tuple #[.string ⟨(Lib.trimPrefix s.data.toList p.data.toList).toArray⟩, .bool (Lib.hasPrefix s.data.toList p.data.toList)]) ∧ w' = w := Any.stringslite_CutPrefix Tryz.lays210 s p w
def Tryz.lays103_ren : Go.Shelf.Ren := ⟨fun | 103 => 141 | 210 => 148 | 206 => 138 | n => n, fun | 9 => 9 | 4 => 4 | 24 => 76 | 3 => 3 | n => n, fun | n => n⟩
theorem Tryz.lays103 : Go.Proofs.Lays.n103 Tryz.prog Tryz.lays103_ren := {
  mixed := by kernel_rfl
  f103 := Tryz.func141.trans (congrArg some (by kernel_rfl))
  f206 := Tryz.func138.trans (congrArg some (by kernel_rfl))
  f210 := Tryz.func148.trans (congrArg some (by kernel_rfl))
  t3 := Tryz.underlying3
  a3 := Tryz.isAgg3
  z3 := Tryz.sizeOf3
  v3 := Tryz.zeroValue3
  t4 := Tryz.underlying4
  a4 := Tryz.isAgg4
  z4 := Tryz.sizeOf4
  v4 := Tryz.zeroValue4
  t9 := Tryz.underlying9
  a9 := Tryz.isAgg9
  z9 := Tryz.sizeOf9
  v9 := Tryz.zeroValue9
  t24 := Tryz.underlying76
  a24 := Tryz.isAgg76
  z24 := Tryz.sizeOf76
  v24 := Tryz.zeroValue76 }
open Go.RowKit in
/-- strings.CutPrefix: "CutPrefix returns s without the provided leading prefix string and reports whether it found the prefix. If s doesn't start with prefix, CutPrefix returns s, false. If prefix is the empty string, CutPrefix returns s, true.": IT RETURNS '(Lib.trimPrefix s p, Lib.hasPrefix s p)'; the world is as it was. (LAID: no walk: one application.) -/
theorem Tryz.strings_CutPrefix (s p : ByteArray) (w : World) :
    Calls Tryz.prog 141 #[.string s, .string p] w fun e w' => e = .returned (.tuple #[.string ⟨(Lib.trimPrefix s.data.toList p.data.toList).toArray⟩, .bool (Lib.hasPrefix s.data.toList p.data.toList)]) ∧ w' = w := Any.strings_CutPrefix Tryz.lays103 s p w
def Tryz.lays211_ren : Go.Shelf.Ren := ⟨fun | 211 => 149 | 207 => 155 | n => n, fun | 9 => 9 | 4 => 4 | 3 => 3 | n => n, fun | n => n⟩
theorem Tryz.lays211 : Go.Proofs.Lays.n211 Tryz.prog Tryz.lays211_ren := {
  mixed := by kernel_rfl
  f207 := Tryz.func155.trans (congrArg some (by kernel_rfl))
  f211 := Tryz.func149.trans (congrArg some (by kernel_rfl))
  t3 := Tryz.underlying3
  a3 := Tryz.isAgg3
  z3 := Tryz.sizeOf3
  v3 := Tryz.zeroValue3
  t4 := Tryz.underlying4
  a4 := Tryz.isAgg4
  z4 := Tryz.sizeOf4
  v4 := Tryz.zeroValue4
  t9 := Tryz.underlying9
  a9 := Tryz.isAgg9
  z9 := Tryz.sizeOf9
  v9 := Tryz.zeroValue9 }
open Go.RowKit in
/-- internal/stringslite.CutSuffix (what strings.CutSuffix calls). (LAID: no walk: one application.) -/
theorem Tryz.stringslite_CutSuffix (s p : ByteArray) (w : World) (hs : s.size ≤ 9223372036854775807) :
    Calls Tryz.prog 149 #[.string s, .string p] w fun e w' => e = .returned (.tuple #[.string ⟨(Lib.trimSuffix s.data.toList p.data.toList).toArray⟩, .bool (Lib.hasSuffix s.data.toList p.data.toList)]) ∧ w' = w := Any.stringslite_CutSuffix Tryz.lays211 s p w hs
def Tryz.lays104_ren : Go.Shelf.Ren := ⟨fun | 104 => 142 | 211 => 149 | 207 => 155 | n => n, fun | 9 => 9 | 4 => 4 | 24 => 76 | 3 => 3 | n => n, fun | n => n⟩
theorem Tryz.lays104 : Go.Proofs.Lays.n104 Tryz.prog Tryz.lays104_ren := {
  mixed := by kernel_rfl
  f104 := Tryz.func142.trans (congrArg some (by kernel_rfl))
  f207 := Tryz.func155.trans (congrArg some (by kernel_rfl))
  f211 := Tryz.func149.trans (congrArg some (by kernel_rfl))
  t3 := Tryz.underlying3
  a3 := Tryz.isAgg3
  z3 := Tryz.sizeOf3
  v3 := Tryz.zeroValue3
  t4 := Tryz.underlying4
  a4 := Tryz.isAgg4
  z4 := Tryz.sizeOf4
  v4 := Tryz.zeroValue4
  t9 := Tryz.underlying9
  a9 := Tryz.isAgg9
  z9 := Tryz.sizeOf9
  v9 := Tryz.zeroValue9
  t24 := Tryz.underlying76
  a24 := Tryz.isAgg76
  z24 := Tryz.sizeOf76
  v24 := Tryz.zeroValue76 }
open Go.RowKit in
/-- strings.CutSuffix: "CutSuffix returns s without the provided ending suffix string and reports whether it found the suffix. If s doesn't end with suffix, CutSuffix returns s, false. If suffix is the empty string, CutSuffix returns s, true.": IT RETURNS '(Lib.trimSuffix s p, Lib.hasSuffix s p)'; the world is as it was. (LAID: no walk: one application.) -/
theorem Tryz.strings_CutSuffix (s p : ByteArray) (w : World) (hs : s.size ≤ 9223372036854775807) :
    Calls Tryz.prog 142 #[.string s, .string p] w fun e w' => e = .returned (.tuple #[.string ⟨(Lib.trimSuffix s.data.toList p.data.toList).toArray⟩, .bool (Lib.hasSuffix s.data.toList p.data.toList)]) ∧ w' = w := Any.strings_CutSuffix Tryz.lays104 s p w hs
def Tryz.lays129_ren : Go.Shelf.Ren := ⟨fun | 129 => 120 | n => n, fun | 53 => 56 | 3 => 3 | 4 => 4 | 46 => 132 | 5 => 5 | 9 => 9 | n => n, fun | n => n⟩
theorem Tryz.lays129 : Go.Proofs.Lays.n129 Tryz.prog Tryz.lays129_ren := {
  mixed := by kernel_rfl
  f129 := Tryz.func120.trans (congrArg some (by kernel_rfl))
  t3 := Tryz.underlying3
  a3 := Tryz.isAgg3
  z3 := Tryz.sizeOf3
  v3 := Tryz.zeroValue3
  t4 := Tryz.underlying4
  a4 := Tryz.isAgg4
  z4 := Tryz.sizeOf4
  v4 := Tryz.zeroValue4
  t5 := Tryz.underlying5
  a5 := Tryz.isAgg5
  z5 := Tryz.sizeOf5
  v5 := Tryz.zeroValue5
  t9 := Tryz.underlying9
  a9 := Tryz.isAgg9
  z9 := Tryz.sizeOf9
  v9 := Tryz.zeroValue9
  t46 := Tryz.underlying132
  a46 := Tryz.isAgg132
  z46 := Tryz.sizeOf132
  v46 := Tryz.zeroValue132
  t53 := Tryz.underlying56
  a53 := Tryz.isAgg56
  z53 := Tryz.sizeOf56
  v53 := Tryz.zeroValue56 }
/-- bits.Len64: "Len64 returns the minimum number of bits required to represent x; the result is 0 for x == 0.": IT RETURNS 'Lib.bitLen x'; the world is as it was. ('h0', 'h1': x is a uint64.) (LAID: no walk: one application.) -/
theorem Tryz.bits_Len64 (x : Int) (w : World) (h0 : 0 ≤ x) (h1 : x ≤ 18446744073709551615) :
    Calls Tryz.prog 120 #[.int .u64 x] w fun e w' => e = .returned (.int .i64 (Lib.bitLen x.toNat)) ∧ w' = w := Any.bits_Len64 Tryz.lays129 x w h0 h1
def Tryz.lays217_ren : Go.Shelf.Ren := ⟨fun | 217 => 146 | 266 => 154 | n => n, fun | 9 => 9 | 5 => 5 | 3 => 3 | n => n, fun | n => n⟩
theorem Tryz.lays217 : Go.Proofs.Lays.n217 Tryz.prog Tryz.lays217_ren := {
  mixed := by kernel_rfl
  f217 := Tryz.func146.trans (congrArg some (by kernel_rfl))
  f266 := Tryz.func154.trans (congrArg some (by kernel_rfl))
  t3 := Tryz.underlying3
  a3 := Tryz.isAgg3
  z3 := Tryz.sizeOf3
  v3 := Tryz.zeroValue3
  t5 := Tryz.underlying5
  a5 := Tryz.isAgg5
  z5 := Tryz.sizeOf5
  v5 := Tryz.zeroValue5
  t9 := Tryz.underlying9
  a9 := Tryz.isAgg9
  z9 := Tryz.sizeOf9
  v9 := Tryz.zeroValue9 }
open Go.RowKit Go.Lib in
/-- internal/stringslite.IndexByte (what strings.IndexByte calls): IT RETURNS 'Lib.indexByte s c'; the world is as it was. (LAID: no walk: one application.) -/
theorem Tryz.stringslite_IndexByte (s : ByteArray) (c : Int) (w : World) :
    Calls Tryz.prog 146 #[.string s, .int .u8 c] w fun e w' => e = .returned (.int .i64 (Lib.indexByte s.data.toList c.toNat.toUInt8)) ∧ w' = w := Any.stringslite_IndexByte Tryz.lays217 s c w
def Tryz.lays224_ren : Go.Shelf.Ren := ⟨fun | 224 => 163 | n => n, fun | 3 => 3 | n => n, fun | n => n⟩
theorem Tryz.lays224 : Go.Proofs.Lays.n224 Tryz.prog Tryz.lays224_ren := {
  mixed := by kernel_rfl
  f224 := Tryz.func163.trans (congrArg some (by kernel_rfl))
  t3 := Tryz.underlying3
  a3 := Tryz.isAgg3
  z3 := Tryz.sizeOf3
  v3 := Tryz.zeroValue3 }
open Go.RowKit Go.Lib in
/-- internal/bytealg.Cutover: "Cutover reports the number of failures of IndexByte we should tolerate before switching over to Index. n is the number of bytes processed so far.": on amd64: (n + 16) / 8. (LAID: no walk: one application.) -/
theorem Tryz.bytealg_Cutover (n : Int) (h0 : 0 ≤ n) (h1 : n < 4611686018427387904) (w : World) :
    Calls Tryz.prog 163 #[.int .i64 n] w fun e w' => e = .returned (.int .i64 ((n + 16) / 8)) ∧ w' = w := Any.bytealg_Cutover Tryz.lays224 n h0 h1 w
def Tryz.lays314_ren : Go.Shelf.Ren := ⟨fun | 314 => 165 | n => n, fun | 9 => 9 | 51 => 161 | 3 => 3 | 4 => 4 | 5 => 5 | 46 => 132 | n => n, fun | n => n⟩
theorem Tryz.lays314 : Go.Proofs.Lays.n314 Tryz.prog Tryz.lays314_ren := {
  mixed := by kernel_rfl
  f314 := Tryz.func165.trans (congrArg some (by kernel_rfl))
  t3 := Tryz.underlying3
  a3 := Tryz.isAgg3
  z3 := Tryz.sizeOf3
  v3 := Tryz.zeroValue3
  t4 := Tryz.underlying4
  a4 := Tryz.isAgg4
  z4 := Tryz.sizeOf4
  v4 := Tryz.zeroValue4
  t5 := Tryz.underlying5
  a5 := Tryz.isAgg5
  z5 := Tryz.sizeOf5
  v5 := Tryz.zeroValue5
  t9 := Tryz.underlying9
  a9 := Tryz.isAgg9
  z9 := Tryz.sizeOf9
  v9 := Tryz.zeroValue9
  t46 := Tryz.underlying132
  a46 := Tryz.isAgg132
  z46 := Tryz.sizeOf132
  v46 := Tryz.zeroValue132
  t51 := Tryz.underlying161
  a51 := Tryz.isAgg161
  z51 := Tryz.sizeOf161
  v51 := Tryz.zeroValue161 }
open Go.RowKit Go.Lib in
/-- hashStr: "returns the hash and the appropriate multiplicative factor for use in Rabin-Karp algorithm": THE HASH OF ALL OF sep, AND 16777619 ^ len(sep), both in uint32. (LAID: no walk: one application.) -/
theorem Tryz.bytealg_hashStr (sep : ByteArray) (hs : sep.size < 4294967281) (w : World) :
    Calls Tryz.prog 165 #[.string sep] w fun e w' => e = .returned (.tuple #[.int .u32 (RK.H sep.data.toList % 4294967296), .int .u32 (16777619 ^ sep.size % 4294967296)]) ∧ w' = w := Any.bytealg_hashStr Tryz.lays314 sep hs w
def Tryz.lays267_ren : Go.Shelf.Ren := ⟨fun | 267 => 164 | 314 => 165 | n => n, fun | 9 => 9 | 3 => 3 | 146 => 205 | 51 => 161 | 4 => 4 | 5 => 5 | 46 => 132 | n => n, fun | n => n⟩
theorem Tryz.lays267 : Go.Proofs.Lays.n267 Tryz.prog Tryz.lays267_ren := {
  mixed := by kernel_rfl
  f267 := Tryz.func164.trans (congrArg some (by kernel_rfl))
  f314 := Tryz.func165.trans (congrArg some (by kernel_rfl))
  t3 := Tryz.underlying3
  a3 := Tryz.isAgg3
  z3 := Tryz.sizeOf3
  v3 := Tryz.zeroValue3
  t4 := Tryz.underlying4
  a4 := Tryz.isAgg4
  z4 := Tryz.sizeOf4
  v4 := Tryz.zeroValue4
  t5 := Tryz.underlying5
  a5 := Tryz.isAgg5
  z5 := Tryz.sizeOf5
  v5 := Tryz.zeroValue5
  t9 := Tryz.underlying9
  a9 := Tryz.isAgg9
  z9 := Tryz.sizeOf9
  v9 := Tryz.zeroValue9
  t46 := Tryz.underlying132
  a46 := Tryz.isAgg132
  z46 := Tryz.sizeOf132
  v46 := Tryz.zeroValue132
  t51 := Tryz.underlying161
  a51 := Tryz.isAgg161
  z51 := Tryz.sizeOf161
  v51 := Tryz.zeroValue161
  t146 := Tryz.underlying205
  a146 := Tryz.isAgg205
  z146 := Tryz.sizeOf205
  v146 := Tryz.zeroValue205 }
open Go.RowKit Go.Lib in
theorem Tryz.bytealg_IndexRabinKarp (s sep : ByteArray) (h1 : 1 ≤ sep.size) (h2 : sep.size ≤ s.size) (hs : s.size < 4294967281) (w : World) :
    Calls Tryz.prog 164 #[.string s, .string sep] w fun e w' => e = .returned (.int .i64 (Lib.index s.data.toList sep.data.toList)) ∧ w' = w := Any.bytealg_IndexRabinKarp Tryz.lays267 s sep h1 h2 hs w
def Tryz.lays219_ren : Go.Shelf.Ren := ⟨fun | 219 => 161 | 217 => 146 | 225 => 162 | 224 => 163 | 267 => 164 | 266 => 154 | 314 => 165 | n => n, fun | 9 => 9 | 3 => 3 | 4 => 4 | 5 => 5 | 46 => 132 | 146 => 205 | 51 => 161 | n => n, fun | 1 => 0 | n => n⟩
theorem Tryz.lays219 : Go.Proofs.Lays.n219 Tryz.prog Tryz.lays219_ren := {
  mixed := by kernel_rfl
  f217 := Tryz.func146.trans (congrArg some (by kernel_rfl))
  f219 := Tryz.func161.trans (congrArg some (by kernel_rfl))
  f224 := Tryz.func163.trans (congrArg some (by kernel_rfl))
  f225 := Tryz.func162.trans (congrArg some (by kernel_rfl))
  f266 := Tryz.func154.trans (congrArg some (by kernel_rfl))
  f267 := Tryz.func164.trans (congrArg some (by kernel_rfl))
  f314 := Tryz.func165.trans (congrArg some (by kernel_rfl))
  t3 := Tryz.underlying3
  a3 := Tryz.isAgg3
  z3 := Tryz.sizeOf3
  v3 := Tryz.zeroValue3
  t4 := Tryz.underlying4
  a4 := Tryz.isAgg4
  z4 := Tryz.sizeOf4
  v4 := Tryz.zeroValue4
  t5 := Tryz.underlying5
  a5 := Tryz.isAgg5
  z5 := Tryz.sizeOf5
  v5 := Tryz.zeroValue5
  t9 := Tryz.underlying9
  a9 := Tryz.isAgg9
  z9 := Tryz.sizeOf9
  v9 := Tryz.zeroValue9
  t46 := Tryz.underlying132
  a46 := Tryz.isAgg132
  z46 := Tryz.sizeOf132
  v46 := Tryz.zeroValue132
  t51 := Tryz.underlying161
  a51 := Tryz.isAgg161
  z51 := Tryz.sizeOf161
  v51 := Tryz.zeroValue161
  t146 := Tryz.underlying205
  a146 := Tryz.isAgg205
  z146 := Tryz.sizeOf205
  v146 := Tryz.zeroValue205
  g1 := by kernel_rfl }
open Go.RowKit Go.Lib in
/-- internal/stringslite.Index (what strings.Index calls) AT A substr OF ONE BYTE c: IT RETURNS 'Lib.indexByte s c'; the world is as it was. (LAID: no walk: one application.) -/
theorem Tryz.stringslite_Index_one (s : ByteArray) (c : UInt8) (w : World) :
    Calls Tryz.prog 161 #[.string s, .string ⟨#[c]⟩] w fun e w' => e = .returned (.int .i64 (Lib.indexByte s.data.toList c)) ∧ w' = w := Any.stringslite_Index_one Tryz.lays219 s c w
open Go.RowKit Go.Lib in
/-- internal/stringslite.Index (what strings.Index calls) AT A substr OF WHATEVER LENGTH: IT RETURNS 'Lib.index s substr'; the world is as it was. 'm': what internal/bytealg.MaxLen holds: whatever. (LAID: no walk: one application.) -/
theorem Tryz.stringslite_Index (s sub : ByteArray) (m : Int) (w : World) (hs : s.size < 4294967281) (hm : w.cell? ⟨0, 0, none⟩ = some (.int .i64 m)) :
    Calls Tryz.prog 161 #[.string s, .string sub] w fun e w' => e = .returned (.int .i64 (Lib.index s.data.toList sub.data.toList)) ∧ w' = w := Any.stringslite_Index Tryz.lays219 s sub m w hs hm
def Tryz.lays220_ren : Go.Shelf.Ren := ⟨fun | 220 => 159 | 219 => 161 | 217 => 146 | 225 => 162 | 224 => 163 | 267 => 164 | 266 => 154 | 314 => 165 | n => n, fun | 9 => 9 | 4 => 4 | 3 => 3 | 5 => 5 | 46 => 132 | 146 => 205 | 51 => 161 | n => n, fun | 1 => 0 | n => n⟩
theorem Tryz.lays220 : Go.Proofs.Lays.n220 Tryz.prog Tryz.lays220_ren := {
  mixed := by kernel_rfl
  f217 := Tryz.func146.trans (congrArg some (by kernel_rfl))
  f219 := Tryz.func161.trans (congrArg some (by kernel_rfl))
  f220 := Tryz.func159.trans (congrArg some (by kernel_rfl))
  f224 := Tryz.func163.trans (congrArg some (by kernel_rfl))
  f225 := Tryz.func162.trans (congrArg some (by kernel_rfl))
  f266 := Tryz.func154.trans (congrArg some (by kernel_rfl))
  f267 := Tryz.func164.trans (congrArg some (by kernel_rfl))
  f314 := Tryz.func165.trans (congrArg some (by kernel_rfl))
  t3 := Tryz.underlying3
  a3 := Tryz.isAgg3
  z3 := Tryz.sizeOf3
  v3 := Tryz.zeroValue3
  t4 := Tryz.underlying4
  a4 := Tryz.isAgg4
  z4 := Tryz.sizeOf4
  v4 := Tryz.zeroValue4
  t5 := Tryz.underlying5
  a5 := Tryz.isAgg5
  z5 := Tryz.sizeOf5
  v5 := Tryz.zeroValue5
  t9 := Tryz.underlying9
  a9 := Tryz.isAgg9
  z9 := Tryz.sizeOf9
  v9 := Tryz.zeroValue9
  t46 := Tryz.underlying132
  a46 := Tryz.isAgg132
  z46 := Tryz.sizeOf132
  v46 := Tryz.zeroValue132
  t51 := Tryz.underlying161
  a51 := Tryz.isAgg161
  z51 := Tryz.sizeOf161
  v51 := Tryz.zeroValue161
  t146 := Tryz.underlying205
  a146 := Tryz.isAgg205
  z146 := Tryz.sizeOf205
  v146 := Tryz.zeroValue205
  g1 := by kernel_rfl }
open Go.RowKit Go.Lib in
/-- internal/stringslite.Cut (what strings.Cut calls): IT RETURNS 'Lib.cut s sep'; the world is as it was but for the count of draws. (LAID: no walk: one application.) -/
theorem Tryz.stringslite_Cut (s sep : ByteArray) (m : Int) (w : World) (hs : s.size < 4294967281) (hm : w.cell? ⟨0, 0, none⟩ = some (.int .i64 m)) :
    Calls Tryz.prog 159 #[.string s, .string sep] w fun e w' => e = .returned (.tuple #[.string ⟨(Lib.cut s.data.toList sep.data.toList).1.toArray⟩, .string ⟨(Lib.cut s.data.toList sep.data.toList).2.1.toArray⟩, .bool (Lib.cut s.data.toList sep.data.toList).2.2]) ∧ ∃ n, w' = w.drewN n := Any.stringslite_Cut Tryz.lays220 s sep m w hs hm
def Tryz.lays145_ren : Go.Shelf.Ren := ⟨fun | 145 => 153 | 220 => 159 | 219 => 161 | 217 => 146 | 225 => 162 | 224 => 163 | 267 => 164 | 266 => 154 | 314 => 165 | n => n, fun | 9 => 9 | 4 => 4 | 59 => 200 | 3 => 3 | 5 => 5 | 46 => 132 | 146 => 205 | 51 => 161 | n => n, fun | 1 => 0 | n => n⟩
theorem Tryz.lays145 : Go.Proofs.Lays.n145 Tryz.prog Tryz.lays145_ren := {
  mixed := by kernel_rfl
  f145 := Tryz.func153.trans (congrArg some (by kernel_rfl))
  f217 := Tryz.func146.trans (congrArg some (by kernel_rfl))
  f219 := Tryz.func161.trans (congrArg some (by kernel_rfl))
  f220 := Tryz.func159.trans (congrArg some (by kernel_rfl))
  f224 := Tryz.func163.trans (congrArg some (by kernel_rfl))
  f225 := Tryz.func162.trans (congrArg some (by kernel_rfl))
  f266 := Tryz.func154.trans (congrArg some (by kernel_rfl))
  f267 := Tryz.func164.trans (congrArg some (by kernel_rfl))
  f314 := Tryz.func165.trans (congrArg some (by kernel_rfl))
  t3 := Tryz.underlying3
  a3 := Tryz.isAgg3
  z3 := Tryz.sizeOf3
  v3 := Tryz.zeroValue3
  t4 := Tryz.underlying4
  a4 := Tryz.isAgg4
  z4 := Tryz.sizeOf4
  v4 := Tryz.zeroValue4
  t5 := Tryz.underlying5
  a5 := Tryz.isAgg5
  z5 := Tryz.sizeOf5
  v5 := Tryz.zeroValue5
  t9 := Tryz.underlying9
  a9 := Tryz.isAgg9
  z9 := Tryz.sizeOf9
  v9 := Tryz.zeroValue9
  t46 := Tryz.underlying132
  a46 := Tryz.isAgg132
  z46 := Tryz.sizeOf132
  v46 := Tryz.zeroValue132
  t51 := Tryz.underlying161
  a51 := Tryz.isAgg161
  z51 := Tryz.sizeOf161
  v51 := Tryz.zeroValue161
  t59 := Tryz.underlying200
  a59 := Tryz.isAgg200
  z59 := Tryz.sizeOf200
  v59 := Tryz.zeroValue200
  t146 := Tryz.underlying205
  a146 := Tryz.isAgg205
  z146 := Tryz.sizeOf205
  v146 := Tryz.zeroValue205
  g1 := by kernel_rfl }
open Go.RowKit Go.Lib in
/-- strings.Cut: "Cut slices s around the first instance of sep, returning the text before and after sep. The found result reports whether sep appears in s. If sep does not appear in s, cut returns s, "", false.": IT RETURNS 'Lib.cut s sep'; the world is as it was but for the count of draws. (LAID: no walk: one application.) -/
theorem Tryz.strings_Cut (s sep : ByteArray) (m : Int) (w : World) (hs : s.size < 4294967281) (hm : w.cell? ⟨0, 0, none⟩ = some (.int .i64 m)) :
    Calls Tryz.prog 153 #[.string s, .string sep] w fun e w' => e = .returned (.tuple #[.string ⟨(Lib.cut s.data.toList sep.data.toList).1.toArray⟩, .string ⟨(Lib.cut s.data.toList sep.data.toList).2.1.toArray⟩, .bool (Lib.cut s.data.toList sep.data.toList).2.2]) ∧ ∃ n, w' = w.drewN n := Any.strings_Cut Tryz.lays145 s sep m w hs hm
def Tryz.laysM219_ren : Go.Shelf.Ren := ⟨fun | 219 => 161 | 217 => 146 | 225 => 162 | 224 => 163 | 267 => 164 | 266 => 154 | 314 => 165 | n => n, fun | 9 => 9 | 3 => 3 | 4 => 4 | 5 => 5 | 46 => 132 | 146 => 205 | 51 => 161 | n => n, fun | 1 => 0 | n => n⟩
theorem Tryz.laysM219 : Go.Proofs.LaysM.n219 Tryz.prog Tryz.laysM219_ren := {
  mixed := by kernel_rfl
  f217 := Tryz.func146.trans (congrArg some (by kernel_rfl))
  f219 := Tryz.func161.trans (congrArg some (by kernel_rfl))
  f224 := Tryz.func163.trans (congrArg some (by kernel_rfl))
  f225 := Tryz.func162.trans (congrArg some (by kernel_rfl))
  f266 := Tryz.func154.trans (congrArg some (by kernel_rfl))
  f267 := Tryz.func164.trans (congrArg some (by kernel_rfl))
  f314 := Tryz.func165.trans (congrArg some (by kernel_rfl))
  t3 := Tryz.underlying3
  a3 := Tryz.isAgg3
  z3 := Tryz.sizeOf3
  v3 := Tryz.zeroValue3
  t4 := Tryz.underlying4
  a4 := Tryz.isAgg4
  z4 := Tryz.sizeOf4
  v4 := Tryz.zeroValue4
  t5 := Tryz.underlying5
  a5 := Tryz.isAgg5
  z5 := Tryz.sizeOf5
  v5 := Tryz.zeroValue5
  t9 := Tryz.underlying9
  a9 := Tryz.isAgg9
  z9 := Tryz.sizeOf9
  v9 := Tryz.zeroValue9
  t46 := Tryz.underlying132
  a46 := Tryz.isAgg132
  z46 := Tryz.sizeOf132
  v46 := Tryz.zeroValue132
  t51 := Tryz.underlying161
  a51 := Tryz.isAgg161
  z51 := Tryz.sizeOf161
  v51 := Tryz.zeroValue161
  t146 := Tryz.underlying205
  a146 := Tryz.isAgg205
  z146 := Tryz.sizeOf205
  v146 := Tryz.zeroValue205
  g1 := by kernel_rfl
  i3 := by kernel_rfl
  i4 := by kernel_rfl
  i5 := by kernel_rfl
  i9 := by kernel_rfl
  i46 := by kernel_rfl
  i51 := by kernel_rfl
  i146 := by kernel_rfl
  m1 := by kernel_rfl
  s1_3 := fun w h => Go.Proofs.cell_of_shapedOpen_int (zero := #[.int .i64 0]) (t := 3) h (of_decide_eq_true (by kernel_rfl)) (by kernel_rfl) rfl (by kernel_rfl) (by kernel_rfl) Tryz.underlying3 }
open Go.RowKit Go.Lib in
theorem Tryz.stringslite_Index_shaped (s sub : ByteArray) (w : World) (h : w.ShapedOpen Tryz.prog) (hs : s.size < 4294967281) :
    Calls Tryz.prog 161 #[.string s, .string sub] w fun e w' => e = .returned (.int .i64 (Lib.index s.data.toList sub.data.toList)) ∧ w' = w := Any.stringslite_Index_shaped Tryz.laysM219 s sub w h hs
def Tryz.laysM220_ren : Go.Shelf.Ren := ⟨fun | 220 => 159 | 219 => 161 | 217 => 146 | 225 => 162 | 224 => 163 | 267 => 164 | 266 => 154 | 314 => 165 | n => n, fun | 9 => 9 | 4 => 4 | 3 => 3 | 5 => 5 | 46 => 132 | 146 => 205 | 51 => 161 | n => n, fun | 1 => 0 | n => n⟩
theorem Tryz.laysM220 : Go.Proofs.LaysM.n220 Tryz.prog Tryz.laysM220_ren := {
  mixed := by kernel_rfl
  f217 := Tryz.func146.trans (congrArg some (by kernel_rfl))
  f219 := Tryz.func161.trans (congrArg some (by kernel_rfl))
  f220 := Tryz.func159.trans (congrArg some (by kernel_rfl))
  f224 := Tryz.func163.trans (congrArg some (by kernel_rfl))
  f225 := Tryz.func162.trans (congrArg some (by kernel_rfl))
  f266 := Tryz.func154.trans (congrArg some (by kernel_rfl))
  f267 := Tryz.func164.trans (congrArg some (by kernel_rfl))
  f314 := Tryz.func165.trans (congrArg some (by kernel_rfl))
  t3 := Tryz.underlying3
  a3 := Tryz.isAgg3
  z3 := Tryz.sizeOf3
  v3 := Tryz.zeroValue3
  t4 := Tryz.underlying4
  a4 := Tryz.isAgg4
  z4 := Tryz.sizeOf4
  v4 := Tryz.zeroValue4
  t5 := Tryz.underlying5
  a5 := Tryz.isAgg5
  z5 := Tryz.sizeOf5
  v5 := Tryz.zeroValue5
  t9 := Tryz.underlying9
  a9 := Tryz.isAgg9
  z9 := Tryz.sizeOf9
  v9 := Tryz.zeroValue9
  t46 := Tryz.underlying132
  a46 := Tryz.isAgg132
  z46 := Tryz.sizeOf132
  v46 := Tryz.zeroValue132
  t51 := Tryz.underlying161
  a51 := Tryz.isAgg161
  z51 := Tryz.sizeOf161
  v51 := Tryz.zeroValue161
  t146 := Tryz.underlying205
  a146 := Tryz.isAgg205
  z146 := Tryz.sizeOf205
  v146 := Tryz.zeroValue205
  g1 := by kernel_rfl
  i3 := by kernel_rfl
  i4 := by kernel_rfl
  i5 := by kernel_rfl
  i9 := by kernel_rfl
  i46 := by kernel_rfl
  i51 := by kernel_rfl
  i146 := by kernel_rfl
  m1 := by kernel_rfl
  s1_3 := fun w h => Go.Proofs.cell_of_shapedOpen_int (zero := #[.int .i64 0]) (t := 3) h (of_decide_eq_true (by kernel_rfl)) (by kernel_rfl) rfl (by kernel_rfl) (by kernel_rfl) Tryz.underlying3 }
open Go.RowKit Go.Lib in
theorem Tryz.stringslite_Cut_shaped (s sep : ByteArray) (w : World) (h : w.ShapedOpen Tryz.prog) (hs : s.size < 4294967281) :
    Calls Tryz.prog 159 #[.string s, .string sep] w fun e w' => e = .returned (.tuple #[.string ⟨(Lib.cut s.data.toList sep.data.toList).1.toArray⟩, .string ⟨(Lib.cut s.data.toList sep.data.toList).2.1.toArray⟩, .bool (Lib.cut s.data.toList sep.data.toList).2.2]) ∧ ∃ n, w' = w.drewN n := Any.stringslite_Cut_shaped Tryz.laysM220 s sep w h hs
def Tryz.laysM145_ren : Go.Shelf.Ren := ⟨fun | 145 => 153 | 220 => 159 | 219 => 161 | 217 => 146 | 225 => 162 | 224 => 163 | 267 => 164 | 266 => 154 | 314 => 165 | n => n, fun | 9 => 9 | 4 => 4 | 59 => 200 | 3 => 3 | 5 => 5 | 46 => 132 | 146 => 205 | 51 => 161 | n => n, fun | 1 => 0 | n => n⟩
theorem Tryz.laysM145 : Go.Proofs.LaysM.n145 Tryz.prog Tryz.laysM145_ren := {
  mixed := by kernel_rfl
  f145 := Tryz.func153.trans (congrArg some (by kernel_rfl))
  f217 := Tryz.func146.trans (congrArg some (by kernel_rfl))
  f219 := Tryz.func161.trans (congrArg some (by kernel_rfl))
  f220 := Tryz.func159.trans (congrArg some (by kernel_rfl))
  f224 := Tryz.func163.trans (congrArg some (by kernel_rfl))
  f225 := Tryz.func162.trans (congrArg some (by kernel_rfl))
  f266 := Tryz.func154.trans (congrArg some (by kernel_rfl))
  f267 := Tryz.func164.trans (congrArg some (by kernel_rfl))
  f314 := Tryz.func165.trans (congrArg some (by kernel_rfl))
  t3 := Tryz.underlying3
  a3 := Tryz.isAgg3
  z3 := Tryz.sizeOf3
  v3 := Tryz.zeroValue3
  t4 := Tryz.underlying4
  a4 := Tryz.isAgg4
  z4 := Tryz.sizeOf4
  v4 := Tryz.zeroValue4
  t5 := Tryz.underlying5
  a5 := Tryz.isAgg5
  z5 := Tryz.sizeOf5
  v5 := Tryz.zeroValue5
  t9 := Tryz.underlying9
  a9 := Tryz.isAgg9
  z9 := Tryz.sizeOf9
  v9 := Tryz.zeroValue9
  t46 := Tryz.underlying132
  a46 := Tryz.isAgg132
  z46 := Tryz.sizeOf132
  v46 := Tryz.zeroValue132
  t51 := Tryz.underlying161
  a51 := Tryz.isAgg161
  z51 := Tryz.sizeOf161
  v51 := Tryz.zeroValue161
  t59 := Tryz.underlying200
  a59 := Tryz.isAgg200
  z59 := Tryz.sizeOf200
  v59 := Tryz.zeroValue200
  t146 := Tryz.underlying205
  a146 := Tryz.isAgg205
  z146 := Tryz.sizeOf205
  v146 := Tryz.zeroValue205
  g1 := by kernel_rfl
  i3 := by kernel_rfl
  i4 := by kernel_rfl
  i5 := by kernel_rfl
  i9 := by kernel_rfl
  i46 := by kernel_rfl
  i51 := by kernel_rfl
  i59 := by kernel_rfl
  i146 := by kernel_rfl
  m1 := by kernel_rfl
  s1_3 := fun w h => Go.Proofs.cell_of_shapedOpen_int (zero := #[.int .i64 0]) (t := 3) h (of_decide_eq_true (by kernel_rfl)) (by kernel_rfl) rfl (by kernel_rfl) (by kernel_rfl) Tryz.underlying3 }
open Go.RowKit Go.Lib in
theorem Tryz.strings_Cut_shaped (s sep : ByteArray) (w : World) (h : w.ShapedOpen Tryz.prog) (hs : s.size < 4294967281) :
    Calls Tryz.prog 153 #[.string s, .string sep] w fun e w' => e = .returned (.tuple #[.string ⟨(Lib.cut s.data.toList sep.data.toList).1.toArray⟩, .string ⟨(Lib.cut s.data.toList sep.data.toList).2.1.toArray⟩, .bool (Lib.cut s.data.toList sep.data.toList).2.2]) ∧ ∃ n, w' = w.drewN n := Any.strings_Cut_shaped Tryz.laysM145 s sep w h hs
def Tryz.lays222_ren : Go.Shelf.Ren := ⟨fun | 222 => 110 | n => n, fun | 9 => 9 | 5 => 5 | 3 => 3 | 4 => 4 | n => n, fun | n => n⟩
theorem Tryz.lays222 : Go.Proofs.Lays.n222 Tryz.prog Tryz.lays222_ren := {
  mixed := by kernel_rfl
  f222 := Tryz.func110.trans (congrArg some (by kernel_rfl))
  t3 := Tryz.underlying3
  a3 := Tryz.isAgg3
  z3 := Tryz.sizeOf3
  v3 := Tryz.zeroValue3
  t4 := Tryz.underlying4
  a4 := Tryz.isAgg4
  z4 := Tryz.sizeOf4
  v4 := Tryz.zeroValue4
  t5 := Tryz.underlying5
  a5 := Tryz.isAgg5
  z5 := Tryz.sizeOf5
  v5 := Tryz.zeroValue5
  t9 := Tryz.underlying9
  a9 := Tryz.isAgg9
  z9 := Tryz.sizeOf9
  v9 := Tryz.zeroValue9 }
open Go.RowKit Go.Lib in
/-- internal/bytealg.LastIndexByteString: 'for i := len(s) - 1; i >= 0; i-- { if s[i] == c { return i } }; return -1'. (LAID: no walk: one application.) -/
theorem Tryz.bytealg_LastIndexByteString_nm (s : ByteArray) (c : Int) (hs : s.size < 4611686018427387904) (w : World) :
    Calls Tryz.prog 110 #[.string s, .int .u8 c] w fun e w' => e = .returned (.int .i64 (Lib.lastIndexByte s c)) ∧ w' = w := Any.bytealg_LastIndexByteString_nm Tryz.lays222 s c hs w
def Tryz.lays149_ren : Go.Shelf.Ren := ⟨fun | 149 => 92 | 222 => 110 | n => n, fun | 9 => 9 | 5 => 5 | 3 => 3 | 4 => 4 | n => n, fun | n => n⟩
theorem Tryz.lays149 : Go.Proofs.Lays.n149 Tryz.prog Tryz.lays149_ren := {
  mixed := by kernel_rfl
  f149 := Tryz.func92.trans (congrArg some (by kernel_rfl))
  f222 := Tryz.func110.trans (congrArg some (by kernel_rfl))
  t3 := Tryz.underlying3
  a3 := Tryz.isAgg3
  z3 := Tryz.sizeOf3
  v3 := Tryz.zeroValue3
  t4 := Tryz.underlying4
  a4 := Tryz.isAgg4
  z4 := Tryz.sizeOf4
  v4 := Tryz.zeroValue4
  t5 := Tryz.underlying5
  a5 := Tryz.isAgg5
  z5 := Tryz.sizeOf5
  v5 := Tryz.zeroValue5
  t9 := Tryz.underlying9
  a9 := Tryz.isAgg9
  z9 := Tryz.sizeOf9
  v9 := Tryz.zeroValue9 }
open Go.RowKit Go.Lib in
/-- strings.LastIndexByte: "LastIndexByte returns the index of the last instance of c in s, or -1 if c is not present in s." (LAID: no walk: one application.) -/
theorem Tryz.strings_LastIndexByte (s : ByteArray) (c : Int) (hs : s.size < 4611686018427387904) (w : World) :
    Calls Tryz.prog 92 #[.string s, .int .u8 c] w fun e w' => e = .returned (.int .i64 (Lib.lastIndexByte s c)) ∧ w' = w := Any.strings_LastIndexByte Tryz.lays149 s c hs w
def Tryz.lays206_ren : Go.Shelf.Ren := ⟨fun | 206 => 138 | n => n, fun | 9 => 9 | 4 => 4 | 3 => 3 | n => n, fun | n => n⟩
theorem Tryz.lays206 : Go.Proofs.Lays.n206 Tryz.prog Tryz.lays206_ren := {
  mixed := by kernel_rfl
  f206 := Tryz.func138.trans (congrArg some (by kernel_rfl))
  t3 := Tryz.underlying3
  a3 := Tryz.isAgg3
  z3 := Tryz.sizeOf3
  v3 := Tryz.zeroValue3
  t4 := Tryz.underlying4
  a4 := Tryz.isAgg4
  z4 := Tryz.sizeOf4
  v4 := Tryz.zeroValue4
  t9 := Tryz.underlying9
  a9 := Tryz.isAgg9
  z9 := Tryz.sizeOf9
  v9 := Tryz.zeroValue9 }
open Go.RowKit Go.Lib in
/-- internal/stringslite.HasPrefix (what strings.HasPrefix calls). (LAID: no walk: one application.) -/
theorem Tryz.stringslite_HasPrefix (s p : ByteArray) (w : World) :
    Calls Tryz.prog 138 #[.string s, .string p] w fun e w' => e = .returned (.bool (Lib.hasPrefix s.data.toList p.data.toList)) ∧ w' = w := Any.stringslite_HasPrefix Tryz.lays206 s p w
def Tryz.lays99_ren : Go.Shelf.Ren := ⟨fun | 99 => 122 | 206 => 138 | n => n, fun | 9 => 9 | 4 => 4 | 3 => 3 | n => n, fun | n => n⟩
theorem Tryz.lays99 : Go.Proofs.Lays.n99 Tryz.prog Tryz.lays99_ren := {
  mixed := by kernel_rfl
  f99 := Tryz.func122.trans (congrArg some (by kernel_rfl))
  f206 := Tryz.func138.trans (congrArg some (by kernel_rfl))
  t3 := Tryz.underlying3
  a3 := Tryz.isAgg3
  z3 := Tryz.sizeOf3
  v3 := Tryz.zeroValue3
  t4 := Tryz.underlying4
  a4 := Tryz.isAgg4
  z4 := Tryz.sizeOf4
  v4 := Tryz.zeroValue4
  t9 := Tryz.underlying9
  a9 := Tryz.isAgg9
  z9 := Tryz.sizeOf9
  v9 := Tryz.zeroValue9 }
open Go.RowKit Go.Lib in
/-- strings.HasPrefix: "HasPrefix reports whether the string s begins with prefix.": IT RETURNS 'Lib.hasPrefix s prefix'; the world is as it was. (LAID: no walk: one application.) -/
theorem Tryz.strings_HasPrefix (s p : ByteArray) (w : World) :
    Calls Tryz.prog 122 #[.string s, .string p] w fun e w' => e = .returned (.bool (Lib.hasPrefix s.data.toList p.data.toList)) ∧ w' = w := Any.strings_HasPrefix Tryz.lays99 s p w
def Tryz.lays207_ren : Go.Shelf.Ren := ⟨fun | 207 => 155 | n => n, fun | 9 => 9 | 4 => 4 | 3 => 3 | n => n, fun | n => n⟩
theorem Tryz.lays207 : Go.Proofs.Lays.n207 Tryz.prog Tryz.lays207_ren := {
  mixed := by kernel_rfl
  f207 := Tryz.func155.trans (congrArg some (by kernel_rfl))
  t3 := Tryz.underlying3
  a3 := Tryz.isAgg3
  z3 := Tryz.sizeOf3
  v3 := Tryz.zeroValue3
  t4 := Tryz.underlying4
  a4 := Tryz.isAgg4
  z4 := Tryz.sizeOf4
  v4 := Tryz.zeroValue4
  t9 := Tryz.underlying9
  a9 := Tryz.isAgg9
  z9 := Tryz.sizeOf9
  v9 := Tryz.zeroValue9 }
open Go.RowKit Go.Lib in
/-- internal/stringslite.HasSuffix (what strings.HasSuffix calls). (LAID: no walk: one application.) -/
theorem Tryz.stringslite_HasSuffix (s p : ByteArray) (w : World) (hs : s.size ≤ 9223372036854775807) :
    Calls Tryz.prog 155 #[.string s, .string p] w fun e w' => e = .returned (.bool (Lib.hasSuffix s.data.toList p.data.toList)) ∧ w' = w := Any.stringslite_HasSuffix Tryz.lays207 s p w hs
end Go.Proofs
/- What stands between slashes, handed out one by one (layer 1): the walk. -/
namespace Go.Proofs.YtiopahkigbdmcaaGreat
open Go Go.Proofs Go.RowKit
attribute [local go_sem] Oper.semAt_some

/-- The pieces of a text, as values. -/
def pieces (p : ByteArray) : List Value := (cutF (txt p)).map fun l => .string (strOf l)
theorem split_head (q : ByteArray) (i : Nat) (_hi : i < q.size) (h1 : 47 ∉ (txt q).take i) (h2 : txt q = (txt q).take i ++ 47 :: (txt q).drop (i + 1)) :
    splitF (txt q) = (txt (q.extract 0 i)) :: splitF (txt (q.extract (i + 1) q.size)) := by
  rw [txt_extract, txt_extract, List.drop_zero]
  rw [List.take_of_length_le (l := txt q) (i := q.size) (by rw [txt_len]; exact Nat.le_refl _)]
  conv => lhs; rw [h2]
  rw [splitF_at _ _ h1]
theorem cell_blk {w : World} {b : Nat} {v : Value} {T : TypeId} (h : w.heap[b]? = some (.cells #[v] T (0, 0))) : w.cell? ⟨b, 0, none⟩ = some v ∧ w.frozen? ⟨b, 0, none⟩ = false := ⟨blk_cell h rfl, blk_free h⟩
/-- How many bytes the text has that stands in a cell. -/
def strSz (w : World) (b : Nat) : Nat := match w.cell? ⟨b, 0, none⟩ with | some (.string q) => q.size | _ => 0
theorem strSz_eq {w : World} {b : Nat} {q : ByteArray} (h : w.cell? ⟨b, 0, none⟩ = some (.string q)) : strSz w b = q.size := by simp [strSz, h]

set_option maxRecDepth 100000 in
set_option maxHeartbeats 4000000 in
theorem cut_hands (n bc : Nat) (p : ByteArray) (w : World) (hp : p.size ≤ 100000) (hb : w.heap[bc]? = some (.cells #[.string p] 9 (0, 0))) :
    Hands n Tryz.prog 129 #[.pointer (some ⟨bc, 0, none⟩)] bc (pieces p) w := by
  intro l J Jx W hW hJ hJx hS hY h0
  have hbl := blk_lt hb
  have hbW : W.heap[bc]? = some (.cells #[.string p] 9 (0, 0)) := (Below.block hW bc hbl).trans hb
  obtain ⟨hc0, hf0⟩ := cell_blk hbW
  refine callsIn_of_wp Tryz.func129 rfl trivial ?_
  simp only [Tryz.ntmps129, List.size_toArray, List.length_cons, List.length_nil, Nat.reduceAdd, Nat.reduceSub, Array.replicate_succ, Array.replicate_zero, List.push_toArray, List.append_toArray, List.nil_append, List.cons_append]
  by_cases hpe : txt p = []
  · have he : p.toList = [] := by rw [toList_txt]; exact hpe
    have he' : p.toList.isEmpty = true := by rw [he]; rfl
    have HL : Hid ((pieces p).length = 0) := Lib.hid (by simp [pieces, cutF, hpe])
    clear hY
    gi_wp2
    refine bodyPost_ret (results_none rfl _ _ _) rfl ?_
    exact ⟨⟨_, rfl⟩, Or.inl (by rw [HL.out]; exact h0)⟩
  · have he : ¬ p.toList = [] := by rw [toList_txt]; exact hpe
    have he' : p.toList.isEmpty = false := by simpa using he
    have hpc : pieces p = (splitF (txt p)).map fun l => .string (strOf l) := by simp [pieces, cutF, hpe]
    have HPC := Lib.hid hpc; clear hpc
    have HY := Lib.hid hY; clear hY
    have HS := Lib.hid hS; clear hS
    gi_wp2
    gi_loopw [] (fun wr => ∃ (k : Nat) (q : ByteArray), wr.heap[bc]? = some (.cells #[.string q] 9 (0, 0)) ∧ (splitF (txt p)).drop k = splitF (txt q) ∧ q.size ≤ p.size ∧ J k wr) (fun wr => strSz wr bc)
    case atStart => exact ⟨0, p, hbW, rfl, Nat.le_refl _, h0⟩
    case round =>
      obtain ⟨k, q, hbq, hdr, hqs, hj⟩ := hrel
      obtain ⟨hc, hf⟩ := cell_blk hbq
      have HJ := Lib.hid hj; clear hj
      have HDR := Lib.hid hdr; clear hdr
      have hkl : k < (pieces p).length := by
        rw [HPC.out, List.length_map]
        have h := congrArg List.length HDR.out
        rw [List.length_drop] at h
        have := List.length_pos_iff.2 (splitF_ne (txt q))
        omega
      have hpk : ∀ x, (splitF (txt q)).head? = some x → (pieces p)[k] = .string (strOf x) := by
        intro x hx
        rw [← HDR.out, List.head?_drop] at hx
        have : (pieces p)[k]? = some (.string (strOf x)) := by rw [HPC.out, List.getElem?_map, hx]; rfl
        rw [List.getElem?_eq_getElem hkl] at this
        exact Option.some.inj this
      have HPK := Lib.hid hpk; clear hpk
      rcases index_slash q with ⟨hi, hns⟩ | ⟨i, hi, hii, hn1, hn2⟩
      · have hIB : ∀ w, Calls Tryz.prog 130 #[.string q, .int .u8 47] w fun e w' => e = .returned (.int .i64 (-1)) ∧ w = w' := fun w => by
          have h := Tryz.strings_IndexByte q 47 w
          rw [show (47 : Int).toNat.toUInt8 = 47 from rfl, hi] at h
          exact h.mono fun _ _ ⟨a, b⟩ => ⟨a, b.symm⟩
        have HIB := Lib.hid hIB; clear hIB
        have hsp := splitF_none (txt q) hns
        have hlen : Hid (k + 1 = (pieces p).length) := Lib.hid (by
          rw [HPC.out, List.length_map]
          have h := congrArg List.length HDR.out
          rw [List.length_drop, hsp] at h
          simp at h; omega)
        have hy := HY.out k hkl wr HJ.out
        rw [HPK.out (txt q) (by rw [hsp]; rfl), strOf_txt] at hy
        obtain ⟨fn, tmps, assign, body, hy, hR⟩ := hy
        have HR := Lib.hid hR; clear hR
        clear hsp hi hns
        gi_wp2_with (first | (refine ⟨trivial, (fun h => by cases h), ?_⟩; gi_at_call 130; refine (callsIn_wide.2 (HIB.out _)).mono ?_; rintro e w' ⟨rfl, rfl⟩) | (refine ⟨(fun h => by cases h), HR.out.mono ?_⟩; rintro e W' (⟨rfl, hJ2, hk2⟩ | ⟨rfl, hJ2⟩)))
        · refine bodyPost_ret (results_none rfl _ _ _) rfl ?_
          exact ⟨⟨_, rfl⟩, Or.inl (by rw [← hlen.out]; exact hJ2)⟩
        · refine bodyPost_ret (results_none rfl _ _ _) rfl ?_
          exact ⟨⟨_, rfl⟩, Or.inr ⟨k, hkl, hJ2⟩⟩
      · have hIB : ∀ w, Calls Tryz.prog 130 #[.string q, .int .u8 47] w fun e w' => e = .returned (.int .i64 (i : Int)) ∧ w = w' := fun w => by
          have h := Tryz.strings_IndexByte q 47 w
          rw [show (47 : Int).toNat.toUInt8 = 47 from rfl, hii] at h
          exact h.mono fun _ _ ⟨a, b⟩ => ⟨a, b.symm⟩
        have HIB := Lib.hid hIB; clear hIB
        have HSP := Lib.hid (split_head q i hi hn1 hn2)
        have hy := HY.out k hkl wr HJ.out
        rw [HPK.out _ (by rw [HSP.out]; rfl), strOf_txt] at hy
        obtain ⟨fn, tmps, assign, body, hy, hR⟩ := hy
        have HR := Lib.hid hR; clear hR
        have hq1 : (i : Int) ≤ (q.size : Int) := by omega
        have hq2 : (i : Int) + 1 ≤ (q.size : Int) := by omega
        have wi : IntKind.i64.wrap ((i : Int) + 1) = (i : Int) + 1 := IntWalk.i64_in _ (by omega)
        clear hii hn1 hn2
        gi_wp2_with (first | (refine ⟨trivial, (fun h => by cases h), ?_⟩; gi_at_call 130; refine (callsIn_wide.2 (HIB.out _)).mono ?_; rintro e w' ⟨rfl, rfl⟩) | (refine ⟨(fun h => by cases h), HR.out.mono ?_⟩; rintro e W' (⟨rfl, hJ2, hk2⟩ | ⟨rfl, hJ2⟩); have hb2 := hk2.1.trans hbq; obtain ⟨hc2, hf2⟩ := cell_blk hb2; have HJ2 := Lib.hid hJ2; clear hJ2; have HB2 := Lib.hid hb2; clear hb2 hk2))
        · have hbl2 := blk_set (i := 0) (.string (q.extract (i + 1) q.size)) HB2.out
          have hz : (q.extract (i + 1) q.size).size = q.size - (i + 1) := by rw [ByteArray.size_extract]; omega
          refine ⟨⟨k + 1, q.extract (i + 1) q.size, hbl2, ?_, by rw [hz]; omega, HS.out _ _ _ HJ2.out⟩, ?_⟩
          · rw [← List.drop_drop, HDR.out, HSP.out]; rfl
          · rw [strSz_eq hc, strSz_eq (cell_blk hbl2).1, hz]; omega
        · refine bodyPost_ret (results_none rfl _ _ _) rfl ?_
          exact ⟨⟨_, rfl⟩, Or.inr ⟨k, hkl, hJ2⟩⟩
end Go.Proofs.YtiopahkigbdmcaaGreat
/- The program's right paths (layer 1): the walk. -/
namespace Go.Proofs.YtiopahkigbdmcaaGreat
open Go Go.Proofs Go.RowKit
attribute [local go_sem] Oper.semAt_some

theorem own_blk {B b : Nat} {f : Nat → Array Value} {T : TypeId} {fz : Nat × Nat} : OwnFrom B (fun k W => W.heap[b]? = some (.cells (f k) T fz)) := fun _ _ _ _ hs hg hr =>
  (grownBy_keeps_cells hg (fun r e => (hr r e).2) hs rfl).trans hs
theorem own_pure {B : Nat} {φ : Nat → Prop} : OwnFrom B (fun k _ => φ k) := fun _ _ _ _ hs _ _ => hs
theorem own_below {B n₀ : Nat} {w : World} (hn : n₀ ≤ w.heap.size) (hB : n₀ ≤ B) : OwnFrom B (fun (_ : Nat) W => Below n₀ w W) := ownFrom_below hn hB
theorem stays_blk {bc b : Nat} {f : Nat → Array Value} {T : TypeId} {fz : Nat × Nat} (h : b ≠ bc) : Stays bc (fun k W => W.heap[b]? = some (.cells (f k) T fz)) := fun _ _ v hs => (blk_set_other v h).trans hs
theorem stays_pure {bc : Nat} {φ : Nat → Prop} : Stays bc (fun k _ => φ k) := fun _ _ _ hs => hs
theorem stays_below {bc n₀ : Nat} {w : World} (h : n₀ ≤ bc) : Stays bc (fun _ W => Below n₀ w W) := fun _ _ v hs => hs.setCell (p := ⟨bc, 0, none⟩) h v
theorem Stays.and {bc : Nat} {I J : Nat → World → Prop} (h : Stays bc I) (k : Stays bc J) : Stays bc (fun n W => I n W ∧ J n W) := fun n W v hs => ⟨h n W v hs.1, k n W v hs.2⟩
theorem keeps_ext {W W' : World} (h : Ext W W') : KeepsOthers W W' := ⟨h.size, fun b _ hb _ => (Below.block h b (blk_lt hb)).trans hb⟩
theorem keepB_set {bc b : Nat} {W : World} (v : Value) (h : bc ≠ b) (i : Nat) : KeepB bc W (W.setCell ⟨b, i, none⟩ v) := ⟨blk_set_other v h, by simp [World.setCell]⟩
theorem own_alloc1 {w : World} {b : Nat} {o : Obj} {o' : Option Obj} (h : w.heap[b]? = o') (hb : b < w.heap.size) : (w.alloc o).heap[b]? = o' := (Below.heap_alloc w o b hb).trans h

theorem take_succ_all {α : Type} (l : List α) (p : α → Bool) (k : Nat) (h : k < l.length) : (l.take (k + 1)).all p = ((l.take k).all p && p l[k]) := by
  rw [← List.take_append_getElem h, List.all_append]; simp
set_option maxRecDepth 100000 in
theorem cutP_any (p : ByteArray) (w : World) : Calls Tryz.prog 108 #[.string p] w (fun e w' => e = .returned (.func (.func 129) #[] #[.pointer (some ⟨w.heap.size, 0, none⟩)]) ∧ w' = w.alloc (.cells #[.string p] 9)) := by
  go_enter Tryz.func108, Tryz.ntmps108
  go_wp2
  go_ret
  exact ⟨rfl, rfl⟩

set_option maxRecDepth 100000 in
set_option maxHeartbeats 400000 in
theorem rightP_any (p : ByteArray) (w : World) (hp : p.size ≤ 100000) : Calls Tryz.prog 91 #[.string p] w (RetV w (.bool (rightF (txt p)))) := by
  refine (callsIn_wide (n := 3)).1 ?_
  refine callsIn_of_wp_marks Tryz.func91 rfl trivial ?_ rfl
  simp only [Tryz.ntmps91, List.size_toArray, List.length_cons, List.length_nil, Nat.reduceAdd, Nat.reduceSub, Array.replicate_succ, Array.replicate_zero, List.push_toArray, List.append_toArray, List.nil_append, List.cons_append]
  by_cases hpe : txt p = []
  · have he : p.toList = [] := by rw [toList_txt]; exact hpe
    have he' : p.toList.isEmpty = true := by rw [he]; rfl
    have HR : Hid (rightF (txt p) = true) := Lib.hid (by rw [hpe]; rfl)
    gi_wp2
    refine ⟨.bool true, ?_, by rw [HR.out], (Ext.refl w).alloc _⟩
    simp [results, Tryz.f91, go_sem]
  · have he : ¬ p.toList = [] := by rw [toList_txt]; exact hpe
    have he' : p.toList.isEmpty = false := by simpa using he
    obtain ⟨S, hS⟩ : ∃ S, splitF (txt p) = S := ⟨_, rfl⟩
    have hcut : cutF (txt p) = S := by rw [← hS]; simp [cutF, hpe]
    have hlen : S.length ≤ p.size + 1 := by
      have := split_len (txt p)
      rw [txt_len, hS] at this
      exact this
    have hpl : (pieces p).length = S.length := by rw [pieces, hcut, List.length_map]
    have hpk : ∀ k (hk : k < (pieces p).length), (pieces p)[k] = .string (strOf (S.getD k [])) := by
      intro k hk
      have hk' : k < S.length := by omega
      have : (pieces p)[k]? = some (.string (strOf (S.getD k []))) := by rw [pieces, hcut, List.getElem?_map, List.getElem?_eq_getElem hk', List.getD_eq_getElem?_getD, List.getElem?_eq_getElem hk']; rfl
      rw [List.getElem?_eq_getElem hk] at this
      exact Option.some.inj this
    have hnm : ∀ k, txt (strOf (S.getD k [])) = S.getD k [] := by
      intro k
      refine txt_strOf _ (fun x hx => ?_)
      rw [List.getD_eq_getElem?_getD] at hx
      cases hk : S[k]? with
      | none => rw [hk] at hx; simp at hx
      | some y =>
        rw [hk] at hx
        exact split_byte (txt p) (txt_byte p) y (by rw [hS]; exact List.mem_of_getElem? hk) x hx
    have HPK := Lib.hid hpk; clear hpk
    have HNM := Lib.hid hnm; clear hnm
    have HPL := Lib.hid hpl; clear hpl
    have HCUT := Lib.hid hcut; clear hcut
    clear hS
    gi_wp2_with (refine ⟨trivial, ?_⟩; gi_at_call 108; refine (callsIn_wide.2 (cutP_any _ _)).mono ?_; rintro e w' ⟨rfl, rfl⟩)
    obtain ⟨wo, hwo⟩ : ∃ wo, (((w.alloc (.cells #[.bool false] 4)).alloc (.cells #[.int .i64 0] 3)).alloc (.cells #[.string p] 9)) = wo := ⟨_, rfl⟩
    have hzo : wo.heap.size = w.heap.size + 3 := by rw [← hwo]; simp
    have hb0 : wo.heap[w.heap.size]? = some (.cells #[.bool false] 4 (0, 0)) := by rw [← hwo]; exact heap_before _ _ (heap_before _ _ (heap_at _ _ rfl))
    have hb1 : wo.heap[w.heap.size + 1]? = some (.cells #[.int .i64 0] 3 (0, 0)) := by rw [← hwo]; exact heap_before _ _ (heap_at _ _ (by simp))
    have hb2 : wo.heap[w.heap.size + 2]? = some (.cells #[.string p] 9 (0, 0)) := by rw [← hwo]; exact heap_at _ _ (by simp)
    have hE0 : Below w.heap.size w wo := by rw [← hwo]; exact ((((Ext.refl w).alloc _).alloc _).alloc _)
    rw [hwo]
    have hh := cut_hands 2 (w.heap.size + 2) p wo hp hb2
    refine range_list (by omega) (gf := 129) (lb := #[.pointer (some ⟨w.heap.size + 2, 0, none⟩)]) (by simp [go_sem]) (enters_of Tryz.func129 (by kernel_rfl) rfl) hh rfl (by omega)
      (fun k W => W.heap[w.heap.size]? = some (.cells #[.bool false] 4 (0, 0)) ∧ W.heap[w.heap.size + 1]? = some (.cells #[.int .i64 (k : Int)] 3 (0, 0)) ∧ (k ≤ 16 ∧ (S.take k).all nameF = true) ∧ Below w.heap.size w W)
      (fun _ W => W.heap[w.heap.size]? = some (.cells #[.bool false] 4 (0, 0)) ∧ rightF (txt p) = false ∧ Below w.heap.size w W)
      (OwnFrom.and own_blk (OwnFrom.and own_blk (OwnFrom.and own_pure (own_below (Nat.le_refl _) (by omega)))))
      (OwnFrom.and own_blk (OwnFrom.and own_pure (own_below (Nat.le_refl _) (by omega))))
      ((stays_blk (by omega)).and ((stays_blk (by omega)).and (stays_pure.and (stays_below (by omega)))))
      ⟨hb0, hb1, ⟨by omega, rfl⟩, hE0⟩
      (fun k => { tmps := #[.string p, undef, .pointer (some ⟨w.heap.size, 0, none⟩), .pointer (some ⟨w.heap.size + 1, 0, none⟩), .string (strOf (S.getD k [])), .string p, .bool false, .string p, .func (.func 129) #[] #[.pointer (some ⟨w.heap.size + 2, 0, none⟩)], .string (strOf (S.getD k [])), undef, undef, undef, undef, undef, undef, undef, undef, undef], defers := [] })
      ?assign ?body ?done ?stop
    case assign =>
      intro l k hk W K hK
      rw [HPK.out k hk]
      gi_wp2
      exact hK
    case body =>
      rintro l k W hk ⟨h0, h1, ⟨hk16, hall⟩, hB⟩
      obtain ⟨c0, f0⟩ := cell_blk h0
      obtain ⟨c1, f1⟩ := cell_blk h1
      have hkS : k < S.length := by have := HPL.out; omega
      have hgd : S.getD k [] = S[k] := by rw [List.getD_eq_getElem?_getD, List.getElem?_eq_getElem hkS]; rfl
      have hcell0 : ∀ v, ((W.setCell ⟨w.heap.size + 1, 0, none⟩ v).heap[w.heap.size]?) = some (.cells #[.bool false] 4 (0, 0)) := fun v => (blk_set_other v (by omega)).trans h0
      have hw1 := blk_lt h1
      have hBt : ∀ v u, Below w.heap.size w ((W.setCell ⟨w.heap.size + 1, 0, none⟩ v).setCell ⟨w.heap.size, 0, none⟩ u) := fun v u => (hB.setCell (p := ⟨w.heap.size + 1, 0, none⟩) (by simp) v).setCell (p := ⟨w.heap.size, 0, none⟩) (Nat.le_refl _) u
      have HBT := Lib.hid hBt; clear hBt
      have HB := Lib.hid hB; clear hB
      have H1 := Lib.hid h1; clear h1
      have HC0 := Lib.hid hcell0; clear hcell0
      have H0 := Lib.hid h0; clear h0
      have HALL := Lib.hid hall; clear hall
      have hw0 : (W.setCell ⟨w.heap.size + 1, 0, none⟩ (.int .i64 ((k : Int) + 1))).cell? ⟨w.heap.size, 0, none⟩ = some (.bool false) := (cell_blk (HC0.out _)).1
      have hw0f : (W.setCell ⟨w.heap.size + 1, 0, none⟩ (.int .i64 ((k : Int) + 1))).frozen? ⟨w.heap.size, 0, none⟩ = false := (cell_blk (HC0.out _)).2
      obtain ⟨b, hb⟩ : ∃ b, nameF (S.getD k []) = b := ⟨_, rfl⟩
      have hnm := nameP_any (strOf (S.getD k []))
      rw [HNM.out, hb] at hnm
      obtain ⟨x, hx⟩ : ∃ x, strOf (S.getD k []) = x := ⟨_, rfl⟩
      rw [hx] at hnm ⊢
      clear hx
      have HN := Lib.hid hnm; clear hnm
      have HTA := Lib.hid (take_succ_all S nameF k hkS)
      rw [← hgd, hb] at HTA
      have HBB := Lib.hid hb; clear hb
      have HGD := Lib.hid hgd; clear hgd
      by_cases hk15 : k = 16
      · have hbad : Hid (rightF (txt p) = false) := Lib.hid (by
          unfold rightF
          rw [HCUT.out, show decide (S.length ≤ 16) = false from by simp; omega, Bool.and_false])
        have hk17 : (16 : Int) < (k : Int) + 1 := by omega
        clear hk15
        gi_wp2
        refine ⟨trivial, ?_⟩
        gi_wp2
        exact ⟨(KeepsOthers.setCell _ _ _).trans (KeepsOthers.setCell _ _ _), blk_set _ (HC0.out _), hbad.out, HBT.out _ _⟩
      · have hk16' : (k : Int) + 1 ≤ 16 := by omega
        cases b
        · have hbad : Hid (rightF (txt p) = false) := Lib.hid (by
            unfold rightF
            rw [HCUT.out]
            have h := HTA.out
            rw [Bool.and_false] at h
            rw [← Bool.not_eq_true] at h ⊢
            intro hr
            apply h
            rw [Bool.and_eq_true, List.all_eq_true] at hr
            rw [List.all_eq_true]
            exact fun x hx => hr.1 x (List.mem_of_mem_take hx))
          gi_wp2_with (refine ⟨trivial, ?_⟩; gi_at_call 109; refine (CallsIn.inRound l (callsIn_wide.2 (HN.out _))).mono ?_; rintro e w' ⟨rfl, rfl⟩)
          exact ⟨(KeepsOthers.setCell _ _ _).trans (KeepsOthers.setCell _ _ _), blk_set _ (HC0.out _), hbad.out, HBT.out _ _⟩
        · gi_wp2_with (refine ⟨trivial, ?_⟩; gi_at_call 109; refine (CallsIn.inRound l (callsIn_wide.2 (HN.out _))).mono ?_; rintro e w' ⟨rfl, rfl⟩)
          exact ⟨KeepsOthers.setCell _ _ _, keepB_set _ (by omega) _, HC0.out _, by rw [blk_set _ H1.out]; rfl, ⟨by omega, by rw [HTA.out, HALL.out]; rfl⟩, HB.out.setCell (p := ⟨w.heap.size + 1, 0, none⟩) (by simp) _⟩
    case done =>
      rintro D W hD ⟨h0, h1, ⟨hk16, hall⟩, hB⟩ hK
      obtain ⟨c0, f0⟩ := cell_blk h0
      have hgood : Hid (rightF (txt p) = true) := Lib.hid (by
        unfold rightF
        rw [HCUT.out]
        rw [HPL.out, List.take_of_length_le (Nat.le_refl _)] at hall
        rw [HPL.out] at hk16
        rw [hall, decide_eq_true hk16]; rfl)
      have H0 := Lib.hid h0
      have HB := Lib.hid hB; clear hB
      have HK := Lib.hid hK; clear hK
      clear h0 h1 hall
      gi_wp2
      have hK' := (KeepsOthers.setCell W ⟨w.heap.size, 0, none⟩ (.bool true)).same D _ HK.out rfl
      refine ⟨by simp, .inl ⟨_, _, rfl, run_takeDeferred hK', ?_⟩⟩
      have hc5 := cell_kept ((cell_blk (blk_set (i := 0) (.bool true) H0.out)).1) (grownBy_putObj' _ D (.deferred none)) (fun r e => by cases e; exact ⟨_, hK', rfl⟩)
      refine ⟨.bool true, ?_, by rw [hgood.out], (HB.out.setCell (p := ⟨w.heap.size, 0, none⟩) (Nat.le_refl _) _).trans (belowK_b (w := w) (Nat.le_refl _) _ D _ _ (by omega) hK' rfl rfl)⟩
      simp [results, Tryz.f91, go_sem, hc5]
    case stop =>
      rintro D k W hD hk ⟨h0, h1, hB⟩ hK
      have HB := Lib.hid hB; clear hB
      have HK := Lib.hid hK; clear hK
      have H1 := Lib.hid h1; clear h1
      obtain ⟨c0, f0⟩ := cell_blk h0
      clear h0
      gi_wp2
      refine ⟨by simp, .inl ⟨_, _, rfl, run_takeDeferred HK.out, ?_⟩⟩
      have hc5 := cell_kept c0 (grownBy_putObj' _ D (.deferred none)) (fun r e => by cases e; exact ⟨_, HK.out, rfl⟩)
      refine ⟨.bool false, ?_, by rw [H1.out], HB.out.trans (belowK_b (w := w) (Nat.le_refl _) W D _ _ (by omega) HK.out rfl rfl)⟩
      simp [results, Tryz.f91, go_sem, hc5]
end Go.Proofs.YtiopahkigbdmcaaGreat
/- The document's right paths and their names (layer 1): the walks. -/
namespace Go.Proofs.YtiopahkigbdmcaaGreat
open Go Go.Proofs Go.RowKit

set_option maxHeartbeats 1000000 in
set_option maxRecDepth 100000 in
theorem rightD_any (p : ByteArray) (w : World) (hs : p.size ≤ 1000) :
    Calls Tryz.prog 44 #[.string p] w (RetV w (.bool (rightF (txt p)))) := by
  go_enter Tryz.func44, Tryz.ntmps44
  go_wp2_with (go_at_call 56; refine (cutD_any p _ hs).mono ?_; rintro e w1 ⟨a, c, L, rfl, hE, hL, hLt, _⟩)
  obtain ⟨n, hn⟩ : ∃ n, L.length = n := ⟨_, rfl⟩
  rw [hn]
  have hn1 : n ≤ 2000 := by
    have h1 := congrArg List.length hLt
    rw [List.length_map, hn] at h1
    have h2 := split_len (txt p)
    rw [txt_len] at h2
    have h3 : (cutF (txt p)).length ≤ (splitF (txt p)).length := by unfold cutF; split <;> simp
    omega
  have HN := Lib.hid hn; clear hn
  have HL := Lib.hid hL; clear hL
  have HLT := Lib.hid hLt; clear hLt
  have HE := Lib.hid hE; clear hE
  go_loop [4] (fun i => ∃ k : Nat, k ≤ n ∧ i = .int .i64 k ∧ ((cutF (txt p)).take k).all nameF = true) (fun i => n - (intOf i).toNat)
  case atStart => exact ⟨0, Nat.zero_le _, rfl, rfl⟩
  case round =>
    obtain ⟨k, hk, rfl, hall⟩ := hrel
    have HA := Lib.hid hall; clear hall
    by_cases hlt : k < n
    · have hkL : k < L.length := by rw [HN.out]; exact hlt
      have hkc : k < (cutF (txt p)).length := by rw [← HLT.out, List.length_map]; exact hkL
      obtain ⟨b, off, rfl, hb, hcell⟩ := HL.out.cell hkL
      have HT := Lib.hid (take_succ_all (cutF (txt p)) nameF k hkc)
      obtain ⟨x, hx⟩ : ∃ x, L[k] = x := ⟨_, rfl⟩
      rw [hx] at hcell
      have hxe : (cutF (txt p))[k] = txt x := by
        have h1 : (cutF (txt p))[k]? = some (txt x) := by rw [← HLT.out, List.getElem?_map, List.getElem?_eq_getElem hkL, hx]; rfl
        rw [List.getElem?_eq_getElem hkc] at h1
        exact Option.some.inj h1
      rw [hxe] at HT
      obtain ⟨nm, hnm⟩ : ∃ nm, nameF (txt x) = nm := ⟨_, rfl⟩
      have hxs : x.size ≤ 100000 := by
        have h1 : txt x ∈ cutF (txt p) := by rw [← hxe]; exact List.getElem_mem _
        rw [cutF] at h1
        split at h1
        · simp at h1
        · have := split_mem_len _ _ h1
          rw [txt_len, txt_len] at this
          omega
      have hm := fun w => nameD_any x w hxs
      rw [hnm] at hm HT
      have HM := Lib.hid hm; clear hm hnm
      have hmem : Hid (txt x ∈ cutF (txt p)) := Lib.hid (by rw [← hxe]; exact List.getElem_mem _)
      clear hx hxe
      cases nm
      · go_wp2_with (go_at_call 61; refine (HM.out _).mono ?_; rintro e w2 ⟨rfl, rfl⟩)
        go_ret
        refine ⟨ret_bool ?_, HE.out⟩
        have h := HT.out
        rw [Bool.and_false, ← Bool.not_eq_true] at h
        unfold rightF
        rw [eq_comm, ← Bool.not_eq_true]
        intro hr
        apply h
        rw [Bool.and_eq_true, List.all_eq_true] at hr
        rw [List.all_eq_true]
        exact fun y hy => hr.1 y (List.mem_of_mem_take hy)
      · go_wp2_with (go_at_call 61; refine (HM.out _).mono ?_; rintro e w2 ⟨rfl, rfl⟩)
        go_round
        case rel => exact ⟨k + 1, by omega, by go_num, by rw [HT.out, HA.out]; rfl⟩
        case measure => simp [intOf]; omega
    · obtain rfl : k = n := by omega
      go_wp2
      go_ret
      refine ⟨ret_bool ?_, HE.out⟩
      have hl : (cutF (txt p)).length = k := by rw [← HLT.out, List.length_map, HN.out]
      have h := HA.out
      rw [List.take_of_length_le (by omega)] at h
      unfold rightF
      rw [h, hl, Bool.true_and]
      simp
      omega
/-- A path's names. -/
def NamesTold (p : ByteArray) (w : World) (e : Ending) (w' : World) : Prop := ∃ a c, ∃ L : List ByteArray, e = .returned (.slice a L.length c) ∧ Ext w w' ∧ StrsAt w' a L ∧ L.map txt = namesF (txt p) ∧ L.length ≤ c
set_option maxHeartbeats 1000000 in
set_option maxRecDepth 100000 in
theorem namesD_any (p : ByteArray) (w : World) (hs : p.size ≤ 1000) :
    Calls Tryz.prog 60 #[.string p] w (NamesTold p w) := by
  obtain ⟨r, hr⟩ : ∃ r, rightF (txt p) = r := ⟨_, rfl⟩
  have hR := rightD_any p w hs
  rw [hr] at hR
  have HN : Hid (namesF (txt p) = if r then cutF (txt p) else []) := Lib.hid (by unfold namesF; rw [hr])
  have HR := Lib.hid hR; clear hR hr
  cases r
  · go_enter Tryz.func60, Tryz.ntmps60
    go_wp2_with (go_at_call 44; refine (HR.out).mono ?_; rintro e w2 ⟨rfl, hE⟩)
    go_ret
    exact ⟨none, 0, [], rfl, hE, Or.inl rfl, by rw [HN.out]; rfl, Nat.le_refl _⟩
  · go_enter Tryz.func60, Tryz.ntmps60
    go_wp2_with (first | (go_at_call 44; refine (HR.out).mono ?_; rintro e w2 ⟨rfl, hE⟩) | (go_at_call 56; refine (cutD_any p _ hs).mono ?_; rintro e w3 ⟨a, c, L, rfl, hE3, hL, hLt, hLc⟩; have HL := Lib.hid hL; clear hL; have HLT := Lib.hid hLt; clear hLt))
    go_ret
    exact ⟨a, c, L, rfl, Ext.trans hE hE3, HL.out, by rw [HLT.out, HN.out]; rfl, hLc⟩
end Go.Proofs.YtiopahkigbdmcaaGreat
/- The document's glue (layer 1): the walk. -/
namespace Go.Proofs.YtiopahkigbdmcaaGreat
open Go Go.Proofs Go.RowKit

theorem glue_snoc (A : List (List Int)) (x : List Int) : glueF (A ++ [x]) = if A = [] then x else glueF A ++ 47 :: x := by
  induction A with
  | nil => rfl
  | cons a r ih =>
    rw [if_neg (by simp), List.cons_append, glueF_cons a _ (by simp), ih]
    by_cases hr : r = []
    · subst hr; rw [if_pos rfl]; rfl
    · rw [if_neg hr, glueF_cons a r hr]; simp
set_option maxHeartbeats 1000000 in
set_option maxRecDepth 100000 in
theorem glueD_any (a : Option Addr) (L : List ByteArray) (c : Nat) (w : World) (hn : L.length ≤ 2000) (hs : ∀ x ∈ L, x.size ≤ 2000) (hL : StrsAt w a L) :
    Calls Tryz.prog 63 #[.slice a L.length c] w (fun e w' => ∃ s, e = .returned (.string s) ∧ txt s = glueF (L.map txt) ∧ w = w') := by
  have HL := Lib.hid hL; clear hL
  have HS := Lib.hid hs; clear hs
  obtain ⟨n, hnn⟩ : ∃ n, L.length = n := ⟨_, rfl⟩
  rw [hnn] at hn ⊢
  have HN := Lib.hid hnn; clear hnn
  go_enter Tryz.func63, Tryz.ntmps63
  go_wp2
  go_loop [3, 4] (fun v i => ∃ (k : Nat) (t : ByteArray), k ≤ n ∧ i = .int .i64 k ∧ v = .string t ∧ txt t = glueF ((L.map txt).take k) ∧ t.size ≤ k * 2001) (fun _ i => n - (intOf i).toNat)
  case atStart => exact ⟨0, ByteArray.empty, Nat.zero_le _, rfl, rfl, rfl, Nat.zero_le _⟩
  case round =>
    obtain ⟨k, t, hk, rfl, rfl, ht, hz⟩ := hrel
    have HT := Lib.hid ht; clear ht
    by_cases hlt : k < n
    · have hkL : k < L.length := by rw [HN.out]; exact hlt
      obtain ⟨b, off, rfl, hb, hcell⟩ := HL.out.cell hkL
      obtain ⟨x, hx⟩ : ∃ x, L[k] = x := ⟨_, rfl⟩
      rw [hx] at hcell
      have hxs : x.size ≤ 2000 := HS.out x (by rw [← hx]; exact List.getElem_mem _)
      have htk : Hid ((L.map txt).take (k + 1) = (L.map txt).take k ++ [txt x]) := Lib.hid (by
        rw [List.take_succ_eq_append_getElem (by simpa using hkL), List.getElem_map, hx])
      clear hx
      by_cases hk0 : k = 0
      · have hk00 : ((k : Nat) : Int) = 0 := by omega
        have hk01 : ¬ (0 : Int) < (k : Int) := by omega
        have HK0 := Lib.hid hk0; clear hk0 hk00
        go_wp2
        refine ⟨⟨k + 1, t ++ x, by omega, by go_num, rfl, ?_, by simp only [ByteArray.size_append]; omega⟩, by simp [intOf]; omega⟩
        have ht0 : txt t = [] := by rw [HT.out, HK0.out]; rfl
        rw [htk.out, glue_snoc, if_pos (by rw [HK0.out]; rfl), txt_append, ht0]; rfl
      · have hk1 : (0 : Int) < (k : Int) := by omega
        go_wp2
        refine ⟨⟨k + 1, _, by omega, by go_num, rfl, ?_, by simp only [ByteArray.size_append]; show _ + 1 + _ ≤ _; omega⟩, by simp [intOf]; omega⟩
        have hne : (L.map txt).take k ≠ [] := by
          intro h
          have := congrArg List.length h
          rw [List.length_take, List.length_map] at this
          have h0 : min k L.length = 0 := this
          omega
        rw [htk.out, glue_snoc, if_neg hne, txt_append, txt_append, HT.out]
        show _ ++ [47] ++ _ = _
        simp
    · obtain rfl : k = n := by omega
      go_wp2
      go_ret
      exact ⟨t, rfl, by rw [HT.out, List.take_of_length_le (by rw [List.length_map, HN.out]; exact Nat.le_refl _)], rfl⟩
end Go.Proofs.YtiopahkigbdmcaaGreat
