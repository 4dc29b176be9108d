/-
  Texts joined, part 3: Shelf, LgRow, LgByte, JsonPlain, JsonNum, JsonRef, JsonRefB, JsonRefC, JsonRefD, JsonRefE.
-/
import Derived.Shelf.Small.Strs
import Derived.Shelf.Strings.Search1
import Derived.Shelf.Strings.Fields
import Derived.Shelf.LaysM
import Derived.Shelf.Strings.SplitShaped
import Derived.Shelf.Unicode.Latin
import Derived.Shelf.Unicode.Is16White
import Derived.Shelf.Unicode.IsSpaceAny
import Derived.Shelf.Unicode.Is16WhiteD
import Derived.Shelf.Unicode.IsSpaceAnyD
import Derived.Shelf.Strings.FieldsAny
import Derived.Shelf.Strings.FieldsFuncAny
import Derived.Shelf.Unicode.Is16Any
import Derived.Shelf.Unicode.Is32Any
import Derived.Shelf.Unicode.ExclAny
import Derived.Shelf.Slices.Turned
import Derived.Test.YtgnefbngkhjfcaaGreatDoorProg
import Derived.Test.YtgnefbngkhjfcaaGreatDoorM2
import Derived.Test.YtgnefbngkhjfcaaGreatDoorM1
import Derived.Deep.DeepCutAuto
/-
  DERIVED: THE SHELF's CONTRACTS AT THIS DUMP, IN PLAIN WORDS (tools/lay-plain.mjs out of 'TryzShelf.lean', which tools/lay-shelf.mjs wrote): THE SAME DECLARATIONS UNDER THE SAME NAMES: 'import', 'namespace', 'open', 'def', 'theorem' AND NOTHING ELSE: no command of the shelf's: FOR A HAND-IN. Each laying: the table of numbers ('.._ren') and one theorem, a field a fact of the dump's own or the kernel's comparison; each contract: ONE APPLICATION.
-/
namespace Go.Proofs
open Go.Shelf
def Tryz.lays137_ren : Go.Shelf.Ren := ⟨fun | 137 => 98 | 217 => 112 | 266 => 117 | n => n, fun | 9 => 9 | 5 => 5 | 3 => 3 | n => n, fun | n => n⟩
theorem Tryz.lays137 : Go.Proofs.Lays.n137 Tryz.prog Tryz.lays137_ren := {
  mixed := by kernel_rfl
  f137 := Tryz.func98.trans (congrArg some (by kernel_rfl))
  f217 := Tryz.func112.trans (congrArg some (by kernel_rfl))
  f266 := Tryz.func117.trans (congrArg some (by kernel_rfl))
  t3 := Tryz.underlying3
  a3 := Tryz.isAgg3
  z3 := Tryz.sizeOf3
  v3 := Tryz.zeroValue3
  t5 := Tryz.underlying5
  a5 := Tryz.isAgg5
  z5 := Tryz.sizeOf5
  v5 := Tryz.zeroValue5
  t9 := Tryz.underlying9
  a9 := Tryz.isAgg9
  z9 := Tryz.sizeOf9
  v9 := Tryz.zeroValue9 }
open Go.RowKit in
/-- strings.IndexByte: "IndexByte returns the index of the first instance of c in s, or -1 if c is not present in s.": IT RETURNS 'Lib.indexByte s c'; the world is as it was. (LAID: no walk: one application.) -/
theorem Tryz.strings_IndexByte (s : ByteArray) (c : Int) (w : World) :
    Calls Tryz.prog 98 #[.string s, .int .u8 c] w fun e w' => e = .returned (.int .i64 (Lib.indexByte s.data.toList c.toNat.toUInt8)) ∧ w' = w := Any.strings_IndexByte Tryz.lays137 s c w
def Tryz.lays217_ren : Go.Shelf.Ren := ⟨fun | 217 => 112 | 266 => 117 | n => n, fun | 9 => 9 | 5 => 5 | 3 => 3 | n => n, fun | n => n⟩
theorem Tryz.lays217 : Go.Proofs.Lays.n217 Tryz.prog Tryz.lays217_ren := {
  mixed := by kernel_rfl
  f217 := Tryz.func112.trans (congrArg some (by kernel_rfl))
  f266 := Tryz.func117.trans (congrArg some (by kernel_rfl))
  t3 := Tryz.underlying3
  a3 := Tryz.isAgg3
  z3 := Tryz.sizeOf3
  v3 := Tryz.zeroValue3
  t5 := Tryz.underlying5
  a5 := Tryz.isAgg5
  z5 := Tryz.sizeOf5
  v5 := Tryz.zeroValue5
  t9 := Tryz.underlying9
  a9 := Tryz.isAgg9
  z9 := Tryz.sizeOf9
  v9 := Tryz.zeroValue9 }
open Go.RowKit Go.Lib in
/-- internal/stringslite.IndexByte (what strings.IndexByte calls): IT RETURNS 'Lib.indexByte s c'; the world is as it was. (LAID: no walk: one application.) -/
theorem Tryz.stringslite_IndexByte (s : ByteArray) (c : Int) (w : World) :
    Calls Tryz.prog 112 #[.string s, .int .u8 c] w fun e w' => e = .returned (.int .i64 (Lib.indexByte s.data.toList c.toNat.toUInt8)) ∧ w' = w := Any.stringslite_IndexByte Tryz.lays217 s c w
def Tryz.lays157_ren : Go.Shelf.Ren := ⟨fun | 157 => 121 | 229 => 124 | 199 => 125 | 261 => 126 | 311 => 127 | 312 => 128 | n => n, fun | 9 => 9 | 31 => 33 | 3 => 3 | 5 => 5 | 4 => 4 | 119 => 91 | 0 => 0 | 40 => 93 | 152 => 94 | 21 => 21 | 154 => 96 | 51 => 97 | 141 => 99 | 196 => 103 | 193 => 100 | 198 => 106 | 49 => 104 | 194 => 101 | 201 => 109 | 226 => 111 | 46 => 112 | 227 => 113 | n => n, fun | 0 => 1 | 6 => 2 | n => n⟩
theorem Tryz.lays157 : Go.Proofs.Lays.n157 Tryz.prog Tryz.lays157_ren := {
  mixed := by kernel_rfl
  f157 := Tryz.func121.trans (congrArg some (by kernel_rfl))
  f199 := Tryz.func125.trans (congrArg some (by kernel_rfl))
  f229 := Tryz.func124.trans (congrArg some (by kernel_rfl))
  f261 := Tryz.func126.trans (congrArg some (by kernel_rfl))
  f311 := Tryz.func127.trans (congrArg some (by kernel_rfl))
  f312 := Tryz.func128.trans (congrArg some (by kernel_rfl))
  t0 := Tryz.underlying0
  a0 := Tryz.isAgg0
  z0 := Tryz.sizeOf0
  v0 := Tryz.zeroValue0
  t3 := Tryz.underlying3
  a3 := Tryz.isAgg3
  z3 := Tryz.sizeOf3
  v3 := Tryz.zeroValue3
  t4 := Tryz.underlying4
  a4 := Tryz.isAgg4
  z4 := Tryz.sizeOf4
  v4 := Tryz.zeroValue4
  t5 := Tryz.underlying5
  a5 := Tryz.isAgg5
  z5 := Tryz.sizeOf5
  v5 := Tryz.zeroValue5
  t9 := Tryz.underlying9
  a9 := Tryz.isAgg9
  z9 := Tryz.sizeOf9
  v9 := Tryz.zeroValue9
  t21 := Tryz.underlying21
  a21 := Tryz.isAgg21
  z21 := Tryz.sizeOf21
  v21 := Tryz.zeroValue21
  t31 := Tryz.underlying33
  a31 := Tryz.isAgg33
  z31 := Tryz.sizeOf33
  v31 := Tryz.zeroValue33
  t40 := Tryz.underlying93
  a40 := Tryz.isAgg93
  z40 := Tryz.sizeOf93
  v40 := Tryz.zeroValue93
  t46 := Tryz.underlying112
  a46 := Tryz.isAgg112
  z46 := Tryz.sizeOf112
  v46 := Tryz.zeroValue112
  t49 := Tryz.underlying104
  a49 := Tryz.isAgg104
  z49 := Tryz.sizeOf104
  v49 := Tryz.zeroValue104
  t51 := Tryz.underlying97
  a51 := Tryz.isAgg97
  z51 := Tryz.sizeOf97
  v51 := Tryz.zeroValue97
  t119 := Tryz.underlying91
  a119 := Tryz.isAgg91
  z119 := Tryz.sizeOf91
  t141 := Tryz.underlying99
  a141 := Tryz.isAgg99
  z141 := Tryz.sizeOf99
  v141 := Tryz.zeroValue99
  t152 := Tryz.underlying94
  a152 := Tryz.isAgg94
  z152 := Tryz.sizeOf94
  v152 := Tryz.zeroValue94
  t154 := Tryz.underlying96
  a154 := Tryz.isAgg96
  z154 := Tryz.sizeOf96
  v154 := Tryz.zeroValue96
  t193 := Tryz.underlying100
  a193 := Tryz.isAgg100
  z193 := Tryz.sizeOf100
  v193 := Tryz.zeroValue100
  t194 := Tryz.underlying101
  a194 := Tryz.isAgg101
  z194 := Tryz.sizeOf101
  v194 := Tryz.zeroValue101
  t196 := Tryz.underlying103
  a196 := Tryz.isAgg103
  z196 := Tryz.sizeOf103
  v196 := Tryz.zeroValue103
  t198 := Tryz.underlying106
  a198 := Tryz.isAgg106
  z198 := Tryz.sizeOf106
  v198 := Tryz.zeroValue106
  t201 := Tryz.underlying109
  a201 := Tryz.isAgg109
  z201 := Tryz.sizeOf109
  v201 := Tryz.zeroValue109
  t226 := Tryz.underlying111
  a226 := Tryz.isAgg111
  z226 := Tryz.sizeOf111
  v226 := Tryz.zeroValue111
  t227 := Tryz.underlying113
  a227 := Tryz.isAgg113
  z227 := Tryz.sizeOf113
  v227 := Tryz.zeroValue113
  g0 := by kernel_rfl
  g6 := by kernel_rfl }
open Go.RowKit Go.Lib in
/-- strings.Fields, the table by 'Lib.TabIs' (as strings.TrimSpace's contract). 'hg': the table's number, by its name: at a dump 'by kernel_rfl'. (LAID: no walk: one application.) -/
theorem Tryz.strings_Fields (s : ByteArray) (w : World) (hs : s.size < 4294967281) (hascii : ∀ (j : Nat) b, s.data.toList[j]? = some b → b.toNat < 128) (htab : Lib.TabIs Tryz.prog w "strings.asciiSpace" .u8 Lib.asciiSpaceTab) :
    Calls Tryz.prog 121 #[.string s] w fun e w' =>
      e = .returned (.slice (some ⟨w.heap.size, 0, none⟩) (Lib.fields s.data.toList).length (Lib.fields s.data.toList).length) ∧ w' = w.alloc (.cells ((Lib.fields s.data.toList).map fun l => Value.string ⟨l.toArray⟩).toArray 9) := Any.strings_Fields Tryz.lays157 (by kernel_rfl) (by kernel_rfl) s w hs hascii htab
def Tryz.laysM157_ren : Go.Shelf.Ren := ⟨fun | 157 => 121 | 229 => 124 | 199 => 125 | 261 => 126 | 311 => 127 | 312 => 128 | n => n, fun | 9 => 9 | 31 => 33 | 3 => 3 | 5 => 5 | 4 => 4 | 119 => 91 | 0 => 0 | 40 => 93 | 152 => 94 | 21 => 21 | 154 => 96 | 51 => 97 | 141 => 99 | 196 => 103 | 193 => 100 | 198 => 106 | 49 => 104 | 194 => 101 | 201 => 109 | 226 => 111 | 46 => 112 | 227 => 113 | n => n, fun | 0 => 1 | 6 => 2 | n => n⟩
theorem Tryz.laysM157 : Go.Proofs.LaysM.n157 Tryz.prog Tryz.laysM157_ren := {
  mixed := by kernel_rfl
  f157 := Tryz.func121.trans (congrArg some (by kernel_rfl))
  f199 := Tryz.func125.trans (congrArg some (by kernel_rfl))
  f229 := Tryz.func124.trans (congrArg some (by kernel_rfl))
  f261 := Tryz.func126.trans (congrArg some (by kernel_rfl))
  f311 := Tryz.func127.trans (congrArg some (by kernel_rfl))
  f312 := Tryz.func128.trans (congrArg some (by kernel_rfl))
  t0 := Tryz.underlying0
  a0 := Tryz.isAgg0
  z0 := Tryz.sizeOf0
  v0 := Tryz.zeroValue0
  t3 := Tryz.underlying3
  a3 := Tryz.isAgg3
  z3 := Tryz.sizeOf3
  v3 := Tryz.zeroValue3
  t4 := Tryz.underlying4
  a4 := Tryz.isAgg4
  z4 := Tryz.sizeOf4
  v4 := Tryz.zeroValue4
  t5 := Tryz.underlying5
  a5 := Tryz.isAgg5
  z5 := Tryz.sizeOf5
  v5 := Tryz.zeroValue5
  t9 := Tryz.underlying9
  a9 := Tryz.isAgg9
  z9 := Tryz.sizeOf9
  v9 := Tryz.zeroValue9
  t21 := Tryz.underlying21
  a21 := Tryz.isAgg21
  z21 := Tryz.sizeOf21
  v21 := Tryz.zeroValue21
  t31 := Tryz.underlying33
  a31 := Tryz.isAgg33
  z31 := Tryz.sizeOf33
  v31 := Tryz.zeroValue33
  t40 := Tryz.underlying93
  a40 := Tryz.isAgg93
  z40 := Tryz.sizeOf93
  v40 := Tryz.zeroValue93
  t46 := Tryz.underlying112
  a46 := Tryz.isAgg112
  z46 := Tryz.sizeOf112
  v46 := Tryz.zeroValue112
  t49 := Tryz.underlying104
  a49 := Tryz.isAgg104
  z49 := Tryz.sizeOf104
  v49 := Tryz.zeroValue104
  t51 := Tryz.underlying97
  a51 := Tryz.isAgg97
  z51 := Tryz.sizeOf97
  v51 := Tryz.zeroValue97
  t119 := Tryz.underlying91
  a119 := Tryz.isAgg91
  z119 := Tryz.sizeOf91
  t141 := Tryz.underlying99
  a141 := Tryz.isAgg99
  z141 := Tryz.sizeOf99
  v141 := Tryz.zeroValue99
  t152 := Tryz.underlying94
  a152 := Tryz.isAgg94
  z152 := Tryz.sizeOf94
  v152 := Tryz.zeroValue94
  t154 := Tryz.underlying96
  a154 := Tryz.isAgg96
  z154 := Tryz.sizeOf96
  v154 := Tryz.zeroValue96
  t193 := Tryz.underlying100
  a193 := Tryz.isAgg100
  z193 := Tryz.sizeOf100
  v193 := Tryz.zeroValue100
  t194 := Tryz.underlying101
  a194 := Tryz.isAgg101
  z194 := Tryz.sizeOf101
  v194 := Tryz.zeroValue101
  t196 := Tryz.underlying103
  a196 := Tryz.isAgg103
  z196 := Tryz.sizeOf103
  v196 := Tryz.zeroValue103
  t198 := Tryz.underlying106
  a198 := Tryz.isAgg106
  z198 := Tryz.sizeOf106
  v198 := Tryz.zeroValue106
  t201 := Tryz.underlying109
  a201 := Tryz.isAgg109
  z201 := Tryz.sizeOf109
  v201 := Tryz.zeroValue109
  t226 := Tryz.underlying111
  a226 := Tryz.isAgg111
  z226 := Tryz.sizeOf111
  v226 := Tryz.zeroValue111
  t227 := Tryz.underlying113
  a227 := Tryz.isAgg113
  z227 := Tryz.sizeOf113
  v227 := Tryz.zeroValue113
  g0 := by kernel_rfl
  g6 := by kernel_rfl
  i0 := by kernel_rfl
  i3 := by kernel_rfl
  i4 := by kernel_rfl
  i5 := by kernel_rfl
  i9 := by kernel_rfl
  i21 := by kernel_rfl
  i31 := by kernel_rfl
  i40 := by kernel_rfl
  i46 := by kernel_rfl
  i49 := by kernel_rfl
  i51 := by kernel_rfl
  i141 := by kernel_rfl
  i152 := by kernel_rfl
  i154 := by kernel_rfl
  i193 := by kernel_rfl
  i194 := by kernel_rfl
  i196 := by kernel_rfl
  i198 := by kernel_rfl
  i201 := by kernel_rfl
  i226 := by kernel_rfl
  i227 := by kernel_rfl
  m0 := by kernel_rfl
  m6 := by kernel_rfl }
open Go.RowKit Go.Lib in
/-- strings.Fields on ASCII bytes. (The table: 'Lib.TabIs', as strings.TrimSpace's contract asks it.) (LAID: no walk: one application.) -/
theorem Tryz.strings_Fields_laid (s : ByteArray) (w : World) (hs : s.size < 4294967281) (hascii : ∀ (j : Nat) b, s.data.toList[j]? = some b → b.toNat < 128) (htab : Lib.TabIs Tryz.prog w "strings.asciiSpace" .u8 Lib.asciiSpaceTab) :
    Calls Tryz.prog 121 #[.string s] w fun e w' =>
      e = .returned (.slice (some ⟨w.heap.size, 0, none⟩) (Lib.fields s.data.toList).length (Lib.fields s.data.toList).length) ∧ w' = w.alloc (.cells ((Lib.fields s.data.toList).map fun l => Value.string ⟨l.toArray⟩).toArray 9) := Any.strings_Fields_laid Tryz.laysM157 s w hs hascii htab
def Tryz.lays199_ren : Go.Shelf.Ren := ⟨fun | 199 => 125 | 261 => 126 | 311 => 127 | 312 => 128 | n => n, fun | 21 => 21 | 4 => 4 | 51 => 97 | 141 => 99 | 0 => 0 | 196 => 103 | 193 => 100 | 3 => 3 | 198 => 106 | 49 => 104 | 194 => 101 | 201 => 109 | 226 => 111 | 46 => 112 | 227 => 113 | n => n, fun | 6 => 2 | n => n⟩
theorem Tryz.lays199 : Go.Proofs.Lays.n199 Tryz.prog Tryz.lays199_ren := {
  mixed := by kernel_rfl
  f199 := Tryz.func125.trans (congrArg some (by kernel_rfl))
  f261 := Tryz.func126.trans (congrArg some (by kernel_rfl))
  f311 := Tryz.func127.trans (congrArg some (by kernel_rfl))
  f312 := Tryz.func128.trans (congrArg some (by kernel_rfl))
  t0 := Tryz.underlying0
  a0 := Tryz.isAgg0
  z0 := Tryz.sizeOf0
  v0 := Tryz.zeroValue0
  t3 := Tryz.underlying3
  a3 := Tryz.isAgg3
  z3 := Tryz.sizeOf3
  v3 := Tryz.zeroValue3
  t4 := Tryz.underlying4
  a4 := Tryz.isAgg4
  z4 := Tryz.sizeOf4
  v4 := Tryz.zeroValue4
  t21 := Tryz.underlying21
  a21 := Tryz.isAgg21
  z21 := Tryz.sizeOf21
  v21 := Tryz.zeroValue21
  t46 := Tryz.underlying112
  a46 := Tryz.isAgg112
  z46 := Tryz.sizeOf112
  v46 := Tryz.zeroValue112
  t49 := Tryz.underlying104
  a49 := Tryz.isAgg104
  z49 := Tryz.sizeOf104
  v49 := Tryz.zeroValue104
  t51 := Tryz.underlying97
  a51 := Tryz.isAgg97
  z51 := Tryz.sizeOf97
  v51 := Tryz.zeroValue97
  t141 := Tryz.underlying99
  a141 := Tryz.isAgg99
  z141 := Tryz.sizeOf99
  v141 := Tryz.zeroValue99
  t193 := Tryz.underlying100
  a193 := Tryz.isAgg100
  z193 := Tryz.sizeOf100
  v193 := Tryz.zeroValue100
  t194 := Tryz.underlying101
  a194 := Tryz.isAgg101
  z194 := Tryz.sizeOf101
  v194 := Tryz.zeroValue101
  t196 := Tryz.underlying103
  a196 := Tryz.isAgg103
  z196 := Tryz.sizeOf103
  v196 := Tryz.zeroValue103
  t198 := Tryz.underlying106
  a198 := Tryz.isAgg106
  z198 := Tryz.sizeOf106
  v198 := Tryz.zeroValue106
  t201 := Tryz.underlying109
  a201 := Tryz.isAgg109
  z201 := Tryz.sizeOf109
  v201 := Tryz.zeroValue109
  t226 := Tryz.underlying111
  a226 := Tryz.isAgg111
  z226 := Tryz.sizeOf111
  v226 := Tryz.zeroValue111
  t227 := Tryz.underlying113
  a227 := Tryz.isAgg113
  z227 := Tryz.sizeOf113
  v227 := Tryz.zeroValue113
  g6 := by kernel_rfl }
open Go.RowKit Go.Lib in
theorem Tryz.unicode_IsSpace (r : Int) (w : World) (h0 : 0 ≤ r) (h : r ≤ 255) :
    Calls Tryz.prog 125 #[.int .i32 r] w fun e w' => e = .returned (.bool (Lib.isSpaceL r)) ∧ w' = w := Any.unicode_IsSpace Tryz.lays199 r w h0 h
def Tryz.lays311_ren : Go.Shelf.Ren := ⟨fun | 311 => 127 | n => n, fun | 193 => 100 | 49 => 104 | 4 => 4 | 3 => 3 | 0 => 0 | 226 => 111 | 198 => 106 | 46 => 112 | n => n, fun | n => n⟩
theorem Tryz.lays311 : Go.Proofs.Lays.n311 Tryz.prog Tryz.lays311_ren := {
  mixed := by kernel_rfl
  f311 := Tryz.func127.trans (congrArg some (by kernel_rfl))
  t0 := Tryz.underlying0
  a0 := Tryz.isAgg0
  z0 := Tryz.sizeOf0
  v0 := Tryz.zeroValue0
  t3 := Tryz.underlying3
  a3 := Tryz.isAgg3
  z3 := Tryz.sizeOf3
  v3 := Tryz.zeroValue3
  t4 := Tryz.underlying4
  a4 := Tryz.isAgg4
  z4 := Tryz.sizeOf4
  v4 := Tryz.zeroValue4
  t46 := Tryz.underlying112
  a46 := Tryz.isAgg112
  z46 := Tryz.sizeOf112
  v46 := Tryz.zeroValue112
  t49 := Tryz.underlying104
  a49 := Tryz.isAgg104
  z49 := Tryz.sizeOf104
  v49 := Tryz.zeroValue104
  t193 := Tryz.underlying100
  a193 := Tryz.isAgg100
  z193 := Tryz.sizeOf100
  v193 := Tryz.zeroValue100
  t198 := Tryz.underlying106
  a198 := Tryz.isAgg106
  z198 := Tryz.sizeOf106
  v198 := Tryz.zeroValue106
  t226 := Tryz.underlying111
  a226 := Tryz.isAgg111
  z226 := Tryz.sizeOf111
  v226 := Tryz.zeroValue111 }
open Go.RowKit Go.Lib in
theorem Tryz.unicode_is16_white (R oR : Nat) (z : Nat) (w : World) (hz : z < 65536) (hz0 : 255 < z) (c6 : w.cell? ⟨R, oR + 6, none⟩ = some (.int .u16 160)) (c7 : w.cell? ⟨R, oR + 7, none⟩ = some (.int .u16 5760)) (c8 : w.cell? ⟨R, oR + 8, none⟩ = some (.int .u16 5600)) (c9 : w.cell? ⟨R, oR + 9, none⟩ = some (.int .u16 8192)) (c10 : w.cell? ⟨R, oR + 10, none⟩ = some (.int .u16 8202)) (c11 : w.cell? ⟨R, oR + 11, none⟩ = some (.int .u16 1)) (c12 : w.cell? ⟨R, oR + 12, none⟩ = some (.int .u16 8232)) (c13 : w.cell? ⟨R, oR + 13, none⟩ = some (.int .u16 8233)) (c14 : w.cell? ⟨R, oR + 14, none⟩ = some (.int .u16 1)) (c15 : w.cell? ⟨R, oR + 15, none⟩ = some (.int .u16 8239)) (c16 : w.cell? ⟨R, oR + 16, none⟩ = some (.int .u16 8287)) (c17 : w.cell? ⟨R, oR + 17, none⟩ = some (.int .u16 48)) (c18 : w.cell? ⟨R, oR + 18, none⟩ = some (.int .u16 12288)) (c19 : w.cell? ⟨R, oR + 19, none⟩ = some (.int .u16 12288)) (c20 : w.cell? ⟨R, oR + 20, none⟩ = some (.int .u16 1)) :
    Calls Tryz.prog 127 #[.slice (some ⟨R, oR + 6, none⟩) 5 5, .int .u16 z] w fun e w' => e = .returned (.bool (Lib.isSpaceR z)) ∧ Below w.heap.size w w' := Any.unicode_is16_white Tryz.lays311 R oR z w hz hz0 c6 c7 c8 c9 c10 c11 c12 c13 c14 c15 c16 c17 c18 c19 c20
def Tryz.lays261_ren : Go.Shelf.Ren := ⟨fun | 261 => 126 | 311 => 127 | 312 => 128 | n => n, fun | 141 => 99 | 21 => 21 | 4 => 4 | 0 => 0 | 196 => 103 | 193 => 100 | 3 => 3 | 51 => 97 | 198 => 106 | 49 => 104 | 194 => 101 | 201 => 109 | 226 => 111 | 46 => 112 | 227 => 113 | n => n, fun | n => n⟩
theorem Tryz.lays261 : Go.Proofs.Lays.n261 Tryz.prog Tryz.lays261_ren := {
  mixed := by kernel_rfl
  f261 := Tryz.func126.trans (congrArg some (by kernel_rfl))
  f311 := Tryz.func127.trans (congrArg some (by kernel_rfl))
  f312 := Tryz.func128.trans (congrArg some (by kernel_rfl))
  t0 := Tryz.underlying0
  a0 := Tryz.isAgg0
  z0 := Tryz.sizeOf0
  v0 := Tryz.zeroValue0
  t3 := Tryz.underlying3
  a3 := Tryz.isAgg3
  z3 := Tryz.sizeOf3
  v3 := Tryz.zeroValue3
  t4 := Tryz.underlying4
  a4 := Tryz.isAgg4
  z4 := Tryz.sizeOf4
  v4 := Tryz.zeroValue4
  t21 := Tryz.underlying21
  a21 := Tryz.isAgg21
  z21 := Tryz.sizeOf21
  v21 := Tryz.zeroValue21
  t46 := Tryz.underlying112
  a46 := Tryz.isAgg112
  z46 := Tryz.sizeOf112
  v46 := Tryz.zeroValue112
  t49 := Tryz.underlying104
  a49 := Tryz.isAgg104
  z49 := Tryz.sizeOf104
  v49 := Tryz.zeroValue104
  t51 := Tryz.underlying97
  a51 := Tryz.isAgg97
  z51 := Tryz.sizeOf97
  v51 := Tryz.zeroValue97
  t141 := Tryz.underlying99
  a141 := Tryz.isAgg99
  z141 := Tryz.sizeOf99
  v141 := Tryz.zeroValue99
  t193 := Tryz.underlying100
  a193 := Tryz.isAgg100
  z193 := Tryz.sizeOf100
  v193 := Tryz.zeroValue100
  t194 := Tryz.underlying101
  a194 := Tryz.isAgg101
  z194 := Tryz.sizeOf101
  v194 := Tryz.zeroValue101
  t196 := Tryz.underlying103
  a196 := Tryz.isAgg103
  z196 := Tryz.sizeOf103
  v196 := Tryz.zeroValue103
  t198 := Tryz.underlying106
  a198 := Tryz.isAgg106
  z198 := Tryz.sizeOf106
  v198 := Tryz.zeroValue106
  t201 := Tryz.underlying109
  a201 := Tryz.isAgg109
  z201 := Tryz.sizeOf109
  v201 := Tryz.zeroValue109
  t226 := Tryz.underlying111
  a226 := Tryz.isAgg111
  z226 := Tryz.sizeOf111
  v226 := Tryz.zeroValue111
  t227 := Tryz.underlying113
  a227 := Tryz.isAgg113
  z227 := Tryz.sizeOf113
  v227 := Tryz.zeroValue113 }
open Go.RowKit Go.Lib in
/-- unicode.isExcludingLatin(White_Space, r), r beyond U+00FF or negative. (LAID: no walk: one application.) -/
theorem Tryz.unicode_isExcludingLatin_white (T oT R oR : Nat) (r : Int) (w : World) (hlo : -2147483648 ≤ r) (hhi : r ≤ 2147483647) (hr : r < 0 ∨ 255 < r) (h2 : w.cell? ⟨T, oT, none⟩ = some (.slice (some ⟨R, oR, none⟩) 7 7)) (h3 : w.cell? ⟨T, oT + 1, none⟩ = some (.slice none 0 0)) (h4 : w.cell? ⟨T, oT + 2, none⟩ = some (.int .i64 2)) (h5 : ∀ i, i < 21 → w.cell? ⟨R, oR + i, none⟩ = some (.int .u16 (whiteT.getD i 0))) :
    Calls Tryz.prog 126 #[.pointer (some ⟨T, oT, none⟩), .int .i32 r] w fun e w' => e = .returned (.bool (Lib.isSpaceZ r)) ∧ Below w.heap.size w w' := Any.unicode_isExcludingLatin_white Tryz.lays261 T oT R oR r w hlo hhi hr h2 h3 h4 h5
open Go.RowKit Go.Lib in
/-- **unicode.IsSpace AT EVERY int32.** (LAID: no walk: one application.) -/
theorem Tryz.unicode_IsSpace_any (r : Int) (w : World) (hlo : -2147483648 ≤ r) (hhi : r ≤ 2147483647) (hW : Lib.WhiteTab 2 w) :
    Calls Tryz.prog 125 #[.int .i32 r] w fun e w' => e = .returned (.bool (Lib.isSpaceZ r)) ∧ Below w.heap.size w w' := Any.unicode_IsSpace_any Tryz.lays199 r w hlo hhi hW
open Go.RowKit Go.Lib in
theorem Tryz.unicode_is16_white_d (R oR : Nat) (z : Nat) (w : World) (hz : z < 65536) (hz0 : 255 < z) (c6 : w.cell? ⟨R, oR + 6, none⟩ = some (.int .u16 160)) (c7 : w.cell? ⟨R, oR + 7, none⟩ = some (.int .u16 5760)) (c8 : w.cell? ⟨R, oR + 8, none⟩ = some (.int .u16 5600)) (c9 : w.cell? ⟨R, oR + 9, none⟩ = some (.int .u16 8192)) (c10 : w.cell? ⟨R, oR + 10, none⟩ = some (.int .u16 8202)) (c11 : w.cell? ⟨R, oR + 11, none⟩ = some (.int .u16 1)) (c12 : w.cell? ⟨R, oR + 12, none⟩ = some (.int .u16 8232)) (c13 : w.cell? ⟨R, oR + 13, none⟩ = some (.int .u16 8233)) (c14 : w.cell? ⟨R, oR + 14, none⟩ = some (.int .u16 1)) (c15 : w.cell? ⟨R, oR + 15, none⟩ = some (.int .u16 8239)) (c16 : w.cell? ⟨R, oR + 16, none⟩ = some (.int .u16 8287)) (c17 : w.cell? ⟨R, oR + 17, none⟩ = some (.int .u16 48)) (c18 : w.cell? ⟨R, oR + 18, none⟩ = some (.int .u16 12288)) (c19 : w.cell? ⟨R, oR + 19, none⟩ = some (.int .u16 12288)) (c20 : w.cell? ⟨R, oR + 20, none⟩ = some (.int .u16 1)) :
    Calls Tryz.prog 127 #[.slice (some ⟨R, oR + 6, none⟩) 5 5, .int .u16 z] w fun e w' => e = .returned (.bool (Lib.isSpaceR z)) ∧ ∃ q, w' = w.drewN q := Any.unicode_is16_white_d Tryz.lays311 R oR z w hz hz0 c6 c7 c8 c9 c10 c11 c12 c13 c14 c15 c16 c17 c18 c19 c20
open Go.RowKit Go.Lib in
/-- unicode.isExcludingLatin(White_Space, r), r beyond U+00FF or negative. (LAID: no walk: one application.) -/
theorem Tryz.unicode_isExcludingLatin_white_d (T oT R oR : Nat) (r : Int) (w : World) (hlo : -2147483648 ≤ r) (hhi : r ≤ 2147483647) (hr : r < 0 ∨ 255 < r) (h2 : w.cell? ⟨T, oT, none⟩ = some (.slice (some ⟨R, oR, none⟩) 7 7)) (h3 : w.cell? ⟨T, oT + 1, none⟩ = some (.slice none 0 0)) (h4 : w.cell? ⟨T, oT + 2, none⟩ = some (.int .i64 2)) (h5 : ∀ i, i < 21 → w.cell? ⟨R, oR + i, none⟩ = some (.int .u16 (whiteT.getD i 0))) :
    Calls Tryz.prog 126 #[.pointer (some ⟨T, oT, none⟩), .int .i32 r] w fun e w' => e = .returned (.bool (Lib.isSpaceZ r)) ∧ ∃ q, w' = w.drewN q := Any.unicode_isExcludingLatin_white_d Tryz.lays261 T oT R oR r w hlo hhi hr h2 h3 h4 h5
open Go.RowKit Go.Lib in
/-- **unicode.IsSpace AT EVERY int32.** (LAID: no walk: one application.) -/
theorem Tryz.unicode_IsSpace_any_d (r : Int) (w : World) (hlo : -2147483648 ≤ r) (hhi : r ≤ 2147483647) (hW : Lib.WhiteTab 2 w) :
    Calls Tryz.prog 125 #[.int .i32 r] w fun e w' => e = .returned (.bool (Lib.isSpaceZ r)) ∧ ∃ q, w' = w.drewN q := Any.unicode_IsSpace_any_d Tryz.lays199 r w hlo hhi hW
open Go.RowKit Go.Lib in
theorem Tryz.strings_Fields_beyond (s : ByteArray) (w : World) (hs : s.size < 4294967281) (hhigh : ∃ (j : Nat) (b : UInt8), s.data.toList[j]? = some b ∧ 128 ≤ b.toNat) (hT : ∀ c : Nat, c < 256 → w.cell? ⟨1, c, none⟩ = some (.int .u8 (if Lib.isSp (UInt8.ofNat c) then 1 else 0))) (hW : Lib.WhiteTab 2 w) :
    Calls Tryz.prog 121 #[.string s] w fun e w' => ∃ A, e = .returned (.slice (some ⟨A, 0, none⟩) (Lib.goFieldsP Lib.isSpaceR s).length (Lib.goFieldsP Lib.isSpaceR s).length) ∧ w.heap.size ≤ A ∧
      w'.ownsRow w.heap.size 9 1 (.slice (some ⟨A, 0, none⟩) (Lib.goFieldsP Lib.isSpaceR s).length (Lib.goFieldsP Lib.isSpaceR s).length) (Lib.goFieldsP Lib.isSpaceR s).length ((Lib.goFieldsP Lib.isSpaceR s).map Value.string) ∧ Below w.heap.size w w' := Any.strings_Fields_beyond Tryz.lays157 (by kernel_rfl) (by kernel_rfl) s w hs hhigh hT hW
open Go.RowKit Go.Lib in
/-- **strings.Fields AT EVERY STRING, VALID UTF-8 OR NOT.** (LAID: no walk: one application.) -/
theorem Tryz.strings_Fields_any (s : ByteArray) (w : World) (hs : s.size < 4294967281) (htab : Lib.TabIs Tryz.prog w "strings.asciiSpace" .u8 Lib.asciiSpaceTab) (hW : Lib.WhiteTab 2 w) :
    Calls Tryz.prog 121 #[.string s] w fun e w' => ∃ A, e = .returned (.slice (some ⟨A, 0, none⟩) (Lib.fieldsD s.data.toList).length (Lib.fieldsD s.data.toList).length) ∧ w.heap.size ≤ A ∧
      w'.ownsRow w.heap.size 9 1 (.slice (some ⟨A, 0, none⟩) (Lib.fieldsD s.data.toList).length (Lib.fieldsD s.data.toList).length) (Lib.fieldsD s.data.toList).length ((Lib.fieldsD s.data.toList).map fun x => Value.string ⟨x.toArray⟩) ∧ Below w.heap.size w w' := Any.strings_Fields_any Tryz.lays157 (by kernel_rfl) (by kernel_rfl) (by kernel_rfl) s w hs htab hW
def Tryz.lays229_ren : Go.Shelf.Ren := ⟨fun | 229 => 124 | n => n, fun | 9 => 9 | 40 => 93 | 31 => 33 | 152 => 94 | 3 => 3 | 0 => 0 | 4 => 4 | 21 => 21 | 154 => 96 | n => n, fun | n => n⟩
theorem Tryz.lays229 : Go.Proofs.Lays.n229 Tryz.prog Tryz.lays229_ren := {
  mixed := by kernel_rfl
  f229 := Tryz.func124.trans (congrArg some (by kernel_rfl))
  t0 := Tryz.underlying0
  a0 := Tryz.isAgg0
  z0 := Tryz.sizeOf0
  v0 := Tryz.zeroValue0
  t3 := Tryz.underlying3
  a3 := Tryz.isAgg3
  z3 := Tryz.sizeOf3
  v3 := Tryz.zeroValue3
  t4 := Tryz.underlying4
  a4 := Tryz.isAgg4
  z4 := Tryz.sizeOf4
  v4 := Tryz.zeroValue4
  t9 := Tryz.underlying9
  a9 := Tryz.isAgg9
  z9 := Tryz.sizeOf9
  v9 := Tryz.zeroValue9
  t21 := Tryz.underlying21
  a21 := Tryz.isAgg21
  z21 := Tryz.sizeOf21
  v21 := Tryz.zeroValue21
  t31 := Tryz.underlying33
  a31 := Tryz.isAgg33
  z31 := Tryz.sizeOf33
  v31 := Tryz.zeroValue33
  t40 := Tryz.underlying93
  a40 := Tryz.isAgg93
  z40 := Tryz.sizeOf93
  v40 := Tryz.zeroValue93
  t152 := Tryz.underlying94
  a152 := Tryz.isAgg94
  z152 := Tryz.sizeOf94
  v152 := Tryz.zeroValue94
  t154 := Tryz.underlying96
  a154 := Tryz.isAgg96
  z154 := Tryz.sizeOf96
  v154 := Tryz.zeroValue96 }
open Go.RowKit Go.Lib in
theorem Tryz.strings_FieldsFunc_runes (g : Nat) (lb : Array Value) (eg : ∀ args w, (callFunc g args).run Tryz.prog w = .ok (.enter g args) w) (p : Nat → Bool) (s : ByteArray) (w : World) (hs : s.size ≤ 4294967296) (hp : PredAtRunes Tryz.prog g lb p w) :
    Calls Tryz.prog 124 #[.string s, .func (.func g) #[] lb] w fun e w' => ∃ A, e = .returned (.slice (some ⟨A, 0, none⟩) (Lib.goFieldsP p s).length (Lib.goFieldsP p s).length) ∧ w.heap.size ≤ A ∧
      w'.ownsRow w.heap.size 9 1 (.slice (some ⟨A, 0, none⟩) (Lib.goFieldsP p s).length (Lib.goFieldsP p s).length) (Lib.goFieldsP p s).length ((Lib.goFieldsP p s).map Value.string) ∧ Below w.heap.size w w' := Any.strings_FieldsFunc_runes Tryz.lays229 g lb eg p s w hs hp (by kernel_rfl) (by kernel_rfl)
open Go.RowKit Go.Lib in
/-- .. over a hand of the authors' house's premise as it stands. (LAID: no walk: one application.) -/
theorem Tryz.strings_FieldsFunc (g : Nat) (lb : Array Value) (eg : ∀ args w, (callFunc g args).run Tryz.prog w = .ok (.enter g args) w) (p : Nat → Bool) (s : ByteArray) (w : World) (hs : s.size ≤ 4294967296) (hp : PredAt Tryz.prog g lb encR p w) :
    Calls Tryz.prog 124 #[.string s, .func (.func g) #[] lb] w fun e w' => ∃ A, e = .returned (.slice (some ⟨A, 0, none⟩) (Lib.goFieldsP p s).length (Lib.goFieldsP p s).length) ∧ w.heap.size ≤ A ∧
      w'.ownsRow w.heap.size 9 1 (.slice (some ⟨A, 0, none⟩) (Lib.goFieldsP p s).length (Lib.goFieldsP p s).length) (Lib.goFieldsP p s).length ((Lib.goFieldsP p s).map Value.string) ∧ Below w.heap.size w w' := Any.strings_FieldsFunc Tryz.lays229 g lb eg p s w hs hp (by kernel_rfl) (by kernel_rfl)
open Go.RowKit Go.Lib in
theorem Tryz.unicode_is16_any (T : Array Rg) (R oR cap : Nat) (z : Nat) (w : World) (hz : z < 65536) (hT : RgTab .u16 R oR T w) (hok : RgOk 65536 T) (hn : T.size ≤ 1000000000) :
    Calls Tryz.prog 127 #[.slice (some ⟨R, oR, none⟩) T.size cap, .int .u16 z] w fun e w' => e = .returned (.bool (is16Go T z)) ∧ ∃ q, w' = w.drewN q := Any.unicode_is16_any Tryz.lays311 T R oR cap z w hz hT hok hn
def Tryz.lays312_ren : Go.Shelf.Ren := ⟨fun | 312 => 128 | n => n, fun | 194 => 101 | 51 => 97 | 4 => 4 | 3 => 3 | 0 => 0 | 227 => 113 | 201 => 109 | 46 => 112 | n => n, fun | n => n⟩
theorem Tryz.lays312 : Go.Proofs.Lays.n312 Tryz.prog Tryz.lays312_ren := {
  mixed := by kernel_rfl
  f312 := Tryz.func128.trans (congrArg some (by kernel_rfl))
  t0 := Tryz.underlying0
  a0 := Tryz.isAgg0
  z0 := Tryz.sizeOf0
  v0 := Tryz.zeroValue0
  t3 := Tryz.underlying3
  a3 := Tryz.isAgg3
  z3 := Tryz.sizeOf3
  v3 := Tryz.zeroValue3
  t4 := Tryz.underlying4
  a4 := Tryz.isAgg4
  z4 := Tryz.sizeOf4
  v4 := Tryz.zeroValue4
  t46 := Tryz.underlying112
  a46 := Tryz.isAgg112
  z46 := Tryz.sizeOf112
  v46 := Tryz.zeroValue112
  t51 := Tryz.underlying97
  a51 := Tryz.isAgg97
  z51 := Tryz.sizeOf97
  v51 := Tryz.zeroValue97
  t194 := Tryz.underlying101
  a194 := Tryz.isAgg101
  z194 := Tryz.sizeOf101
  v194 := Tryz.zeroValue101
  t201 := Tryz.underlying109
  a201 := Tryz.isAgg109
  z201 := Tryz.sizeOf109
  v201 := Tryz.zeroValue109
  t227 := Tryz.underlying113
  a227 := Tryz.isAgg113
  z227 := Tryz.sizeOf113
  v227 := Tryz.zeroValue113 }
open Go.RowKit Go.Lib in
theorem Tryz.unicode_is32_any (T : Array Rg) (R oR cap : Nat) (z : Nat) (w : World) (hz : z < 4294967296) (hT : RgTab .u32 R oR T w) (hok : RgOk 4294967296 T) (hn : T.size ≤ 1000000000) :
    Calls Tryz.prog 128 #[.slice (some ⟨R, oR, none⟩) T.size cap, .int .u32 z] w fun e w' => e = .returned (.bool (is32Go T z)) ∧ Below w.heap.size w w' := Any.unicode_is32_any Tryz.lays312 T R oR cap z w hz hT hok hn
open Go.RowKit Go.Lib in
theorem Tryz.unicode_isExcludingLatin_any (Tb oT : Nat) (T : RTab) (r : Int) (w : World) (hlo : -2147483648 ≤ r) (hhi : r ≤ 2147483647) (hA : RTabAt Tb oT T w) (hok : RTabOk T) :
    Calls Tryz.prog 126 #[.pointer (some ⟨Tb, oT, none⟩), .int .i32 r] w fun e w' => e = .returned (.bool (exclGo T r)) ∧ Below w.heap.size w w' := Any.unicode_isExcludingLatin_any Tryz.lays261 Tb oT T r w hlo hhi hA hok
def Tryz.lays108_ren : Go.Shelf.Ren := ⟨fun | 108 => 110 | n => n, fun | 28 => 78 | 3 => 3 | 0 => 0 | 4 => 4 | n => n, fun | n => n⟩
theorem Tryz.lays108 : Go.Proofs.Lays.n108 Tryz.prog Tryz.lays108_ren := {
  mixed := by kernel_rfl
  f108 := Tryz.func110.trans (congrArg some (by kernel_rfl))
  t0 := Tryz.underlying0
  a0 := Tryz.isAgg0
  z0 := Tryz.sizeOf0
  v0 := Tryz.zeroValue0
  t3 := Tryz.underlying3
  a3 := Tryz.isAgg3
  z3 := Tryz.sizeOf3
  v3 := Tryz.zeroValue3
  t4 := Tryz.underlying4
  a4 := Tryz.isAgg4
  z4 := Tryz.sizeOf4
  v4 := Tryz.zeroValue4
  t28 := Tryz.underlying78
  a28 := Tryz.isAgg78
  z28 := Tryz.sizeOf78
  v28 := Tryz.zeroValue78 }
open Go.Lib in
/-- slices.Index at []int: "Index returns the index of the first occurrence of v in s, or -1 if not present.": IT RETURNS 'Lib.idxOf (the elements) v'; the world is as it was. 'zs': what the cells behind the slice's address hold (its spare capacity too, if you have it); 'zs.take n': its elements. (LAID: no walk: one application.) -/
theorem Tryz.slices_Index_int (b off n c : Nat) (zs : List Int) (x : Int) (w : World) (hz : n ≤ zs.length) (hbig : n ≤ 9223372036854775807) (hc : ∀ j, j < zs.length → w.cell? ⟨b, off + j, none⟩ = some (.int .i64 (zs.getD j 0))) :
    Calls Tryz.prog 110 #[.slice (some ⟨b, off, none⟩) n c, .int .i64 x] w fun e w' => e = .returned (.int .i64 (Lib.idxOf (zs.take n) x)) ∧ w' = w := Any.slices_Index_int Tryz.lays108 b off n c zs x w hz hbig hc
open Go.Lib in
/-- The same at a slice of length 0, a nil one too: no cell is known, none is asked for. (LAID: no walk: one application.) -/
theorem Tryz.slices_Index_int_empty (a : Option Addr) (c : Nat) (x : Int) (w : World) :
    Calls Tryz.prog 110 #[.slice a 0 c, .int .i64 x] w fun e w' => e = .returned (.int .i64 (Lib.idxOf [] x)) ∧ w' = w := Any.slices_Index_int_empty Tryz.lays108 a c x w
def Tryz.lays107_ren : Go.Shelf.Ren := ⟨fun | 107 => 85 | 108 => 110 | n => n, fun | 28 => 78 | 3 => 3 | 4 => 4 | 0 => 0 | n => n, fun | n => n⟩
theorem Tryz.lays107 : Go.Proofs.Lays.n107 Tryz.prog Tryz.lays107_ren := {
  mixed := by kernel_rfl
  f107 := Tryz.func85.trans (congrArg some (by kernel_rfl))
  f108 := Tryz.func110.trans (congrArg some (by kernel_rfl))
  t0 := Tryz.underlying0
  a0 := Tryz.isAgg0
  z0 := Tryz.sizeOf0
  v0 := Tryz.zeroValue0
  t3 := Tryz.underlying3
  a3 := Tryz.isAgg3
  z3 := Tryz.sizeOf3
  v3 := Tryz.zeroValue3
  t4 := Tryz.underlying4
  a4 := Tryz.isAgg4
  z4 := Tryz.sizeOf4
  v4 := Tryz.zeroValue4
  t28 := Tryz.underlying78
  a28 := Tryz.isAgg78
  z28 := Tryz.sizeOf78
  v28 := Tryz.zeroValue78 }
open Go.Lib in
/-- slices.Contains at []int: "Contains reports whether v is present in s.": IT RETURNS 'elements.contains v'; the world is as it was. ITS CALLEE slices.Index IS MET BY ITS OWN CONTRACT OFF THE SHELF (lay that first): no loop is walked here. (LAID: no walk: one application.) -/
theorem Tryz.slices_Contains_int (b off n c : Nat) (zs : List Int) (x : Int) (w : World) (hz : n ≤ zs.length) (hbig : n ≤ 9223372036854775807) (hc : ∀ j, j < zs.length → w.cell? ⟨b, off + j, none⟩ = some (.int .i64 (zs.getD j 0))) :
    Calls Tryz.prog 85 #[.slice (some ⟨b, off, none⟩) n c, .int .i64 x] w fun e w' => e = .returned (.bool ((zs.take n).contains x)) ∧ w' = w := Any.slices_Contains_int Tryz.lays107 b off n c zs x w hz hbig hc
open Go.Lib in
/-- The same at a slice of length 0, a nil one too. (LAID: no walk: one application.) -/
theorem Tryz.slices_Contains_int_empty (a : Option Addr) (c : Nat) (x : Int) (w : World) :
    Calls Tryz.prog 85 #[.slice a 0 c, .int .i64 x] w fun e w' => e = .returned (.bool false) ∧ w' = w := Any.slices_Contains_int_empty Tryz.lays107 a c x w
def Tryz.lays109_ren : Go.Shelf.Ren := ⟨fun | 109 => 120 | n => n, fun | 31 => 33 | 9 => 9 | 3 => 3 | 0 => 0 | 4 => 4 | n => n, fun | n => n⟩
theorem Tryz.lays109 : Go.Proofs.Lays.n109 Tryz.prog Tryz.lays109_ren := {
  mixed := by kernel_rfl
  f109 := Tryz.func120.trans (congrArg some (by kernel_rfl))
  t0 := Tryz.underlying0
  a0 := Tryz.isAgg0
  z0 := Tryz.sizeOf0
  v0 := Tryz.zeroValue0
  t3 := Tryz.underlying3
  a3 := Tryz.isAgg3
  z3 := Tryz.sizeOf3
  v3 := Tryz.zeroValue3
  t4 := Tryz.underlying4
  a4 := Tryz.isAgg4
  z4 := Tryz.sizeOf4
  v4 := Tryz.zeroValue4
  t9 := Tryz.underlying9
  a9 := Tryz.isAgg9
  z9 := Tryz.sizeOf9
  v9 := Tryz.zeroValue9
  t31 := Tryz.underlying33
  a31 := Tryz.isAgg33
  z31 := Tryz.sizeOf33
  v31 := Tryz.zeroValue33 }
open Go.Lib in
/-- slices.Index at []string: "Index returns the index of the first occurrence of v in s, or -1 if not present.": IT RETURNS 'Lib.idxOfS (the elements) v'; the world is as it was. 'zs': what the cells behind the slice's address hold (its spare capacity too, if you have it); 'zs.take n': its elements. (LAID: no walk: one application.) -/
theorem Tryz.slices_Index_string (b off n c : Nat) (zs : List ByteArray) (x : ByteArray) (w : World) (hz : n ≤ zs.length) (hbig : n ≤ 9223372036854775807) (hc : ∀ j, j < zs.length → w.cell? ⟨b, off + j, none⟩ = some (.string (zs.getD j ByteArray.empty))) :
    Calls Tryz.prog 120 #[.slice (some ⟨b, off, none⟩) n c, .string x] w fun e w' => e = .returned (.int .i64 (Lib.idxOfS (zs.take n) x)) ∧ w' = w := Any.slices_Index_string Tryz.lays109 b off n c zs x w hz hbig hc
open Go.Lib in
/-- The same at a slice of length 0, a nil one too: no cell is known, none is asked for. (LAID: no walk: one application.) -/
theorem Tryz.slices_Index_string_empty (a : Option Addr) (c : Nat) (x : ByteArray) (w : World) :
    Calls Tryz.prog 120 #[.slice a 0 c, .string x] w fun e w' => e = .returned (.int .i64 (Lib.idxOfS [] x)) ∧ w' = w := Any.slices_Index_string_empty Tryz.lays109 a c x w
def Tryz.lays110_ren : Go.Shelf.Ren := ⟨fun | 110 => 115 | 109 => 120 | n => n, fun | 31 => 33 | 9 => 9 | 4 => 4 | 3 => 3 | 0 => 0 | n => n, fun | n => n⟩
theorem Tryz.lays110 : Go.Proofs.Lays.n110 Tryz.prog Tryz.lays110_ren := {
  mixed := by kernel_rfl
  f109 := Tryz.func120.trans (congrArg some (by kernel_rfl))
  f110 := Tryz.func115.trans (congrArg some (by kernel_rfl))
  t0 := Tryz.underlying0
  a0 := Tryz.isAgg0
  z0 := Tryz.sizeOf0
  v0 := Tryz.zeroValue0
  t3 := Tryz.underlying3
  a3 := Tryz.isAgg3
  z3 := Tryz.sizeOf3
  v3 := Tryz.zeroValue3
  t4 := Tryz.underlying4
  a4 := Tryz.isAgg4
  z4 := Tryz.sizeOf4
  v4 := Tryz.zeroValue4
  t9 := Tryz.underlying9
  a9 := Tryz.isAgg9
  z9 := Tryz.sizeOf9
  v9 := Tryz.zeroValue9
  t31 := Tryz.underlying33
  a31 := Tryz.isAgg33
  z31 := Tryz.sizeOf33
  v31 := Tryz.zeroValue33 }
open Go.Lib in
/-- slices.Contains at []string: "Contains reports whether v is present in s.": IT RETURNS 'Lib.containsS (the elements) v', which is true just where v is among them ('Lib.containsS_iff'); the world is as it was. ITS CALLEE slices.Index IS MET BY ITS OWN CONTRACT OFF THE SHELF (lay that first): no loop is walked here. (LAID: no walk: one application.) -/
theorem Tryz.slices_Contains_string (b off n c : Nat) (zs : List ByteArray) (x : ByteArray) (w : World) (hz : n ≤ zs.length) (hbig : n ≤ 9223372036854775807) (hc : ∀ j, j < zs.length → w.cell? ⟨b, off + j, none⟩ = some (.string (zs.getD j ByteArray.empty))) :
    Calls Tryz.prog 115 #[.slice (some ⟨b, off, none⟩) n c, .string x] w fun e w' => e = .returned (.bool (Lib.containsS (zs.take n) x)) ∧ w' = w := Any.slices_Contains_string Tryz.lays110 b off n c zs x w hz hbig hc
open Go.Lib in
/-- The same at a slice of length 0, a nil one too. (LAID: no walk: one application.) -/
theorem Tryz.slices_Contains_string_empty (a : Option Addr) (c : Nat) (x : ByteArray) (w : World) :
    Calls Tryz.prog 115 #[.slice a 0 c, .string x] w fun e w' => e = .returned (.bool false) ∧ w' = w := Any.slices_Contains_string_empty Tryz.lays110 a c x w
end Go.Proofs
/-
  A logical run of Go code: rows of cells that grow and shrink.
-/
set_option linter.unusedSimpArgs false
set_option linter.unusedVariables false
namespace Go.Lg
open Go.Tg Go.RowKit

section
variable {P : Program} {H H' : LH} {v x : Value} {xs : List Value} {e t : TypeId} {N : Nat} {b : LB}
/-- v is a row of the cells xs, in a block behind N -/
def Row (N : Nat) (H : LH) (e : TypeId) (v : Value) (xs : List Value) : Prop :=
  (v = .slice none 0 0 ∧ xs = []) ∨ ∃ k c rest, v = sl k xs.length c ∧ N ≤ k ∧ H.get k = some ⟨xs ++ rest, e, true⟩ ∧ c = xs.length + rest.length
/-- blocks that are no row's -/
def offRow (v : Value) (k : Nat) : Prop := ∀ n c, v ≠ sl k n c
theorem Row.nil : Row N H e (.slice none 0 0) [] := .inl ⟨rfl, rfl⟩
theorem Row.len (h : Row N H e v xs) (hu : P.underlying t = some (.slice e)) : lbuiltin P .len [t] [v] H' = some (.int .i64 xs.length, H') := by
  rcases h with ⟨rfl, rfl⟩ | ⟨k, c, rest, rfl, _⟩
  · exact lbuiltin_len_slice hu
  · exact lbuiltin_len_slice hu
theorem Row.cell (h : Row N H e v xs) : cellB v = true := by
  rcases h with ⟨rfl, rfl⟩ | ⟨k, c, rest, rfl, _⟩ <;> simp
theorem Row.keep (h : Row N H e v xs) (hk : ∀ k, N ≤ k → ¬ offRow v k → H'.get k = H.get k) : Row N H' e v xs := by
  rcases h with ⟨rfl, rfl⟩ | ⟨k, c, rest, rfl, h1, h2, h3⟩
  · exact .inl ⟨rfl, rfl⟩
  · exact .inr ⟨k, c, rest, rfl, h1, by rw [hk k h1 (fun h => h _ _ rfl)]; exact h2, h3⟩
theorem Row.off_of_elem (h : Row N H e v xs) {l : Nat} (hl : H.get l = some b) (hne : b.elem ≠ e) : offRow v l := by
  rcases h with ⟨rfl, rfl⟩ | ⟨k, c, rest, rfl, h1, h2, h3⟩
  · intro n c h; cases h
  · intro n c h
    injection h with h
    injection h with h
    injection h with h
    subst h
    rw [h2] at hl
    injection hl with hl
    subst hl
    exact hne rfl
theorem off_nil {k : Nat} : offRow (.slice none 0 0) k := fun n c h => by cases h
/-- one element more -/
theorem Row.push (h : Row N H e v xs) (hu : P.underlying t = some (.slice e)) (hs : lesz P e = some 1) (hx : cellB x = true) (hm : xs.length + 1 ≤ maxElems) (hN : N ≤ H.n) (hdom : ∀ l, H.n ≤ l → H.get l = none) :
    ∃ v' H', lapp P t v (some (1, [x])) H = some (v', H') ∧ Row N H' e v' (xs ++ [x]) ∧ H.n ≤ H'.n ∧ (∀ k, k < H.n → offRow v k → H'.get k = H.get k) ∧ (∀ k, k < H.n → offRow v k → offRow v' k) ∧ (∀ l, H'.n ≤ l → H'.get l = none) ∧ H'.base = H.base ∧ H'.ng = H.ng := by
  have hc : [x].all cellB = true := by simp [hx]
  rcases h with ⟨rfl, rfl⟩ | ⟨k, c, rest, rfl, h1, h2, h3⟩
  · refine ⟨_, _, lapp_nil hu hs hc (by omega) (by simp [maxElems]), .inr ⟨H.n, 1, [], rfl, hN, by simp, rfl⟩, by simp, fun k hk _ => get_new_ne (by omega), fun k hk _ n c h => ?_, fun l hl => ?_, rfl, rfl⟩
    · injection h with h
      injection h with h
      injection h with h
      omega
    · have : H.n + 1 ≤ l := hl
      rw [get_new_ne (by omega)]; exact hdom l (by omega)
  · have hklt : k < H.n := by
      rcases Nat.lt_or_ge k H.n with h | h
      · exact h
      · rw [hdom k h] at h2; cases h2
    cases rest with
    | nil =>
      simp only [List.length_nil, Nat.add_zero] at h3
      subst h3
      have ha := lapp_grow (P := P) (H := H) (t := t) (m := 1) (new := [x]) (n := xs.length) (s := 1) hu hs hc (by omega) hm h2 rfl rfl (by simp)
      simp only [List.append_nil] at ha h2
      refine ⟨_, _, ha, .inr ⟨H.n, xs.length + 1, [], by simp, hN, ?_, by simp⟩, by simp, fun j hj ho => ?_, fun j hj ho n c h => ?_, fun l hl => ?_, rfl, rfl⟩
      · rw [show H.n = (H.kill k).n from rfl, get_new]; simp
      · have hjk : j ≠ k := fun e => ho _ _ (by rw [e])
        rw [get_new_ne (by simp; omega), get_kill_ne hjk]
      · injection h with h
        injection h with h
        injection h with h
        omega
      · have : H.n + 1 ≤ l := hl
        rw [get_new_ne (by simp; omega), get_kill_ne (by omega)]; exact hdom l (by omega)
    | cons z rest =>
      have ha := lapp_in (P := P) (H := H) (t := t) (m := 1) (new := [x]) (n := xs.length) (cp := c) (s := 1) hu hs hc (by omega) h2 rfl rfl (by simp [h3]) (by simp [h3])
      refine ⟨_, _, ha, .inr ⟨k, c, rest, by simp, h1, ?_, by simp [h3]; omega⟩, by simp, fun j hj ho => ?_, fun j hj ho n c' h => ?_, fun l hl => ?_, rfl, rfl⟩
      · rw [get_set]
        congr 2
        simp [splice]
      · have hjk : j ≠ k := fun e => ho _ _ (by rw [e])
        rw [get_set_ne hjk]
      · injection h with h
        injection h with h
        injection h with h
        subst h
        exact ho _ _ rfl
      · have : H.n ≤ l := hl
        rw [get_set_ne (by omega)]; exact hdom l this
/-- fewer elements -/
theorem Row.take (h : Row N H e v xs) (hu : P.underlying t = some (.slice e)) (hs : sz P e = some 1) {j : Int} {kd : IntKind} (h0 : 0 ≤ j) (h1 : j < xs.length) : ∃ v', lpart P t v none (some (.int kd j)) = some v' ∧ Row N H e v' (xs.take j.toNat) ∧ ∀ k, offRow v k → offRow v' k := by
  rcases h with ⟨rfl, rfl⟩ | ⟨k, c, rest, rfl, g1, g2, g3⟩
  · simp at h1; omega
  · refine ⟨_, lpart_row_ns hu hs h0 (by omega), .inr ⟨k, c, xs.drop j.toNat ++ rest, ?_, g1, ?_, ?_⟩, fun i hi n c' h => ?_⟩
    · rw [List.length_take, Nat.min_eq_left (by omega)]
    · rw [← List.append_assoc, List.take_append_drop]; exact g2
    · simp; omega
    · injection h with h
      injection h with h
      injection h with h
      subst h
      exact hi _ _ rfl
/-- an element is read -/
theorem Row.at (h : Row N H e v xs) (hu : P.underlying t = some (.slice e)) (hs : sz P e = some 1) (ha : aggB P e = some false) {j : Int} {kd : IntKind} (h0 : 0 ≤ j) (h1 : j < xs.length) {d : Value} : ∃ p, lixa P t v (.int kd j) H' = some (p, H') ∧ lld P e p H = some (xs.getD j.toNat d) := by
  rcases h with ⟨rfl, rfl⟩ | ⟨k, c, rest, rfl, g1, g2, g3⟩
  · simp at h1; omega
  · refine ⟨_, lixa_row hu hs h0 (by omega), ?_⟩
    rw [lld_ptr g2, ha]
    simp only [lldb_cell, Nat.zero_add, Nat.mul_one]
    have hlt : j.toNat < xs.length := by omega
    rw [List.getElem?_append, if_pos hlt, List.getD_eq_getElem?_getD, List.getElem?_eq_getElem hlt]; rfl
end
end Go.Lg
/-
  Bytes as the numbers that they are.
-/
set_option linter.unusedSimpArgs false
set_option linter.unusedVariables false
namespace Go.Lg
theorem u8eq (b : UInt8) (n : Nat) (hn : n < 256) : ((b.toNat : Int) = n) = (b = UInt8.ofNat n) := by
  have := b.toNat_lt
  apply propext
  constructor
  · intro h
    apply UInt8.toNat_inj.1
    simp; omega
  · rintro rfl
    simp; omega
section
variable {b : UInt8}
@[simp] theorem u8q0 : ((b.toNat : Int) = 0) = (b = 0) := u8eq b 0 (by decide)
@[simp] theorem u8q1 : ((b.toNat : Int) = 1) = (b = 1) := u8eq b 1 (by decide)
@[simp] theorem u8q2 : ((b.toNat : Int) = 2) = (b = 2) := u8eq b 2 (by decide)
@[simp] theorem u8q3 : ((b.toNat : Int) = 3) = (b = 3) := u8eq b 3 (by decide)
@[simp] theorem u8q4 : ((b.toNat : Int) = 4) = (b = 4) := u8eq b 4 (by decide)
@[simp] theorem u8q5 : ((b.toNat : Int) = 5) = (b = 5) := u8eq b 5 (by decide)
@[simp] theorem u8q6 : ((b.toNat : Int) = 6) = (b = 6) := u8eq b 6 (by decide)
@[simp] theorem u8q7 : ((b.toNat : Int) = 7) = (b = 7) := u8eq b 7 (by decide)
@[simp] theorem u8q8 : ((b.toNat : Int) = 8) = (b = 8) := u8eq b 8 (by decide)
@[simp] theorem u8q9 : ((b.toNat : Int) = 9) = (b = 9) := u8eq b 9 (by decide)
@[simp] theorem u8q10 : ((b.toNat : Int) = 10) = (b = 10) := u8eq b 10 (by decide)
@[simp] theorem u8q11 : ((b.toNat : Int) = 11) = (b = 11) := u8eq b 11 (by decide)
@[simp] theorem u8q12 : ((b.toNat : Int) = 12) = (b = 12) := u8eq b 12 (by decide)
@[simp] theorem u8q13 : ((b.toNat : Int) = 13) = (b = 13) := u8eq b 13 (by decide)
@[simp] theorem u8q14 : ((b.toNat : Int) = 14) = (b = 14) := u8eq b 14 (by decide)
@[simp] theorem u8q15 : ((b.toNat : Int) = 15) = (b = 15) := u8eq b 15 (by decide)
@[simp] theorem u8q16 : ((b.toNat : Int) = 16) = (b = 16) := u8eq b 16 (by decide)
@[simp] theorem u8q17 : ((b.toNat : Int) = 17) = (b = 17) := u8eq b 17 (by decide)
@[simp] theorem u8q18 : ((b.toNat : Int) = 18) = (b = 18) := u8eq b 18 (by decide)
@[simp] theorem u8q19 : ((b.toNat : Int) = 19) = (b = 19) := u8eq b 19 (by decide)
@[simp] theorem u8q20 : ((b.toNat : Int) = 20) = (b = 20) := u8eq b 20 (by decide)
@[simp] theorem u8q21 : ((b.toNat : Int) = 21) = (b = 21) := u8eq b 21 (by decide)
@[simp] theorem u8q22 : ((b.toNat : Int) = 22) = (b = 22) := u8eq b 22 (by decide)
@[simp] theorem u8q23 : ((b.toNat : Int) = 23) = (b = 23) := u8eq b 23 (by decide)
@[simp] theorem u8q24 : ((b.toNat : Int) = 24) = (b = 24) := u8eq b 24 (by decide)
@[simp] theorem u8q25 : ((b.toNat : Int) = 25) = (b = 25) := u8eq b 25 (by decide)
@[simp] theorem u8q26 : ((b.toNat : Int) = 26) = (b = 26) := u8eq b 26 (by decide)
@[simp] theorem u8q27 : ((b.toNat : Int) = 27) = (b = 27) := u8eq b 27 (by decide)
@[simp] theorem u8q28 : ((b.toNat : Int) = 28) = (b = 28) := u8eq b 28 (by decide)
@[simp] theorem u8q29 : ((b.toNat : Int) = 29) = (b = 29) := u8eq b 29 (by decide)
@[simp] theorem u8q30 : ((b.toNat : Int) = 30) = (b = 30) := u8eq b 30 (by decide)
@[simp] theorem u8q31 : ((b.toNat : Int) = 31) = (b = 31) := u8eq b 31 (by decide)
@[simp] theorem u8q32 : ((b.toNat : Int) = 32) = (b = 32) := u8eq b 32 (by decide)
@[simp] theorem u8q33 : ((b.toNat : Int) = 33) = (b = 33) := u8eq b 33 (by decide)
@[simp] theorem u8q34 : ((b.toNat : Int) = 34) = (b = 34) := u8eq b 34 (by decide)
@[simp] theorem u8q35 : ((b.toNat : Int) = 35) = (b = 35) := u8eq b 35 (by decide)
@[simp] theorem u8q36 : ((b.toNat : Int) = 36) = (b = 36) := u8eq b 36 (by decide)
@[simp] theorem u8q37 : ((b.toNat : Int) = 37) = (b = 37) := u8eq b 37 (by decide)
@[simp] theorem u8q38 : ((b.toNat : Int) = 38) = (b = 38) := u8eq b 38 (by decide)
@[simp] theorem u8q39 : ((b.toNat : Int) = 39) = (b = 39) := u8eq b 39 (by decide)
@[simp] theorem u8q40 : ((b.toNat : Int) = 40) = (b = 40) := u8eq b 40 (by decide)
@[simp] theorem u8q41 : ((b.toNat : Int) = 41) = (b = 41) := u8eq b 41 (by decide)
@[simp] theorem u8q42 : ((b.toNat : Int) = 42) = (b = 42) := u8eq b 42 (by decide)
@[simp] theorem u8q43 : ((b.toNat : Int) = 43) = (b = 43) := u8eq b 43 (by decide)
@[simp] theorem u8q44 : ((b.toNat : Int) = 44) = (b = 44) := u8eq b 44 (by decide)
@[simp] theorem u8q45 : ((b.toNat : Int) = 45) = (b = 45) := u8eq b 45 (by decide)
@[simp] theorem u8q46 : ((b.toNat : Int) = 46) = (b = 46) := u8eq b 46 (by decide)
@[simp] theorem u8q47 : ((b.toNat : Int) = 47) = (b = 47) := u8eq b 47 (by decide)
@[simp] theorem u8q48 : ((b.toNat : Int) = 48) = (b = 48) := u8eq b 48 (by decide)
@[simp] theorem u8q49 : ((b.toNat : Int) = 49) = (b = 49) := u8eq b 49 (by decide)
@[simp] theorem u8q50 : ((b.toNat : Int) = 50) = (b = 50) := u8eq b 50 (by decide)
@[simp] theorem u8q51 : ((b.toNat : Int) = 51) = (b = 51) := u8eq b 51 (by decide)
@[simp] theorem u8q52 : ((b.toNat : Int) = 52) = (b = 52) := u8eq b 52 (by decide)
@[simp] theorem u8q53 : ((b.toNat : Int) = 53) = (b = 53) := u8eq b 53 (by decide)
@[simp] theorem u8q54 : ((b.toNat : Int) = 54) = (b = 54) := u8eq b 54 (by decide)
@[simp] theorem u8q55 : ((b.toNat : Int) = 55) = (b = 55) := u8eq b 55 (by decide)
@[simp] theorem u8q56 : ((b.toNat : Int) = 56) = (b = 56) := u8eq b 56 (by decide)
@[simp] theorem u8q57 : ((b.toNat : Int) = 57) = (b = 57) := u8eq b 57 (by decide)
@[simp] theorem u8q58 : ((b.toNat : Int) = 58) = (b = 58) := u8eq b 58 (by decide)
@[simp] theorem u8q59 : ((b.toNat : Int) = 59) = (b = 59) := u8eq b 59 (by decide)
@[simp] theorem u8q60 : ((b.toNat : Int) = 60) = (b = 60) := u8eq b 60 (by decide)
@[simp] theorem u8q61 : ((b.toNat : Int) = 61) = (b = 61) := u8eq b 61 (by decide)
@[simp] theorem u8q62 : ((b.toNat : Int) = 62) = (b = 62) := u8eq b 62 (by decide)
@[simp] theorem u8q63 : ((b.toNat : Int) = 63) = (b = 63) := u8eq b 63 (by decide)
@[simp] theorem u8q64 : ((b.toNat : Int) = 64) = (b = 64) := u8eq b 64 (by decide)
@[simp] theorem u8q65 : ((b.toNat : Int) = 65) = (b = 65) := u8eq b 65 (by decide)
@[simp] theorem u8q66 : ((b.toNat : Int) = 66) = (b = 66) := u8eq b 66 (by decide)
@[simp] theorem u8q67 : ((b.toNat : Int) = 67) = (b = 67) := u8eq b 67 (by decide)
@[simp] theorem u8q68 : ((b.toNat : Int) = 68) = (b = 68) := u8eq b 68 (by decide)
@[simp] theorem u8q69 : ((b.toNat : Int) = 69) = (b = 69) := u8eq b 69 (by decide)
@[simp] theorem u8q70 : ((b.toNat : Int) = 70) = (b = 70) := u8eq b 70 (by decide)
@[simp] theorem u8q71 : ((b.toNat : Int) = 71) = (b = 71) := u8eq b 71 (by decide)
@[simp] theorem u8q72 : ((b.toNat : Int) = 72) = (b = 72) := u8eq b 72 (by decide)
@[simp] theorem u8q73 : ((b.toNat : Int) = 73) = (b = 73) := u8eq b 73 (by decide)
@[simp] theorem u8q74 : ((b.toNat : Int) = 74) = (b = 74) := u8eq b 74 (by decide)
@[simp] theorem u8q75 : ((b.toNat : Int) = 75) = (b = 75) := u8eq b 75 (by decide)
@[simp] theorem u8q76 : ((b.toNat : Int) = 76) = (b = 76) := u8eq b 76 (by decide)
@[simp] theorem u8q77 : ((b.toNat : Int) = 77) = (b = 77) := u8eq b 77 (by decide)
@[simp] theorem u8q78 : ((b.toNat : Int) = 78) = (b = 78) := u8eq b 78 (by decide)
@[simp] theorem u8q79 : ((b.toNat : Int) = 79) = (b = 79) := u8eq b 79 (by decide)
@[simp] theorem u8q80 : ((b.toNat : Int) = 80) = (b = 80) := u8eq b 80 (by decide)
@[simp] theorem u8q81 : ((b.toNat : Int) = 81) = (b = 81) := u8eq b 81 (by decide)
@[simp] theorem u8q82 : ((b.toNat : Int) = 82) = (b = 82) := u8eq b 82 (by decide)
@[simp] theorem u8q83 : ((b.toNat : Int) = 83) = (b = 83) := u8eq b 83 (by decide)
@[simp] theorem u8q84 : ((b.toNat : Int) = 84) = (b = 84) := u8eq b 84 (by decide)
@[simp] theorem u8q85 : ((b.toNat : Int) = 85) = (b = 85) := u8eq b 85 (by decide)
@[simp] theorem u8q86 : ((b.toNat : Int) = 86) = (b = 86) := u8eq b 86 (by decide)
@[simp] theorem u8q87 : ((b.toNat : Int) = 87) = (b = 87) := u8eq b 87 (by decide)
@[simp] theorem u8q88 : ((b.toNat : Int) = 88) = (b = 88) := u8eq b 88 (by decide)
@[simp] theorem u8q89 : ((b.toNat : Int) = 89) = (b = 89) := u8eq b 89 (by decide)
@[simp] theorem u8q90 : ((b.toNat : Int) = 90) = (b = 90) := u8eq b 90 (by decide)
@[simp] theorem u8q91 : ((b.toNat : Int) = 91) = (b = 91) := u8eq b 91 (by decide)
@[simp] theorem u8q92 : ((b.toNat : Int) = 92) = (b = 92) := u8eq b 92 (by decide)
@[simp] theorem u8q93 : ((b.toNat : Int) = 93) = (b = 93) := u8eq b 93 (by decide)
@[simp] theorem u8q94 : ((b.toNat : Int) = 94) = (b = 94) := u8eq b 94 (by decide)
@[simp] theorem u8q95 : ((b.toNat : Int) = 95) = (b = 95) := u8eq b 95 (by decide)
@[simp] theorem u8q96 : ((b.toNat : Int) = 96) = (b = 96) := u8eq b 96 (by decide)
@[simp] theorem u8q97 : ((b.toNat : Int) = 97) = (b = 97) := u8eq b 97 (by decide)
@[simp] theorem u8q98 : ((b.toNat : Int) = 98) = (b = 98) := u8eq b 98 (by decide)
@[simp] theorem u8q99 : ((b.toNat : Int) = 99) = (b = 99) := u8eq b 99 (by decide)
@[simp] theorem u8q100 : ((b.toNat : Int) = 100) = (b = 100) := u8eq b 100 (by decide)
@[simp] theorem u8q101 : ((b.toNat : Int) = 101) = (b = 101) := u8eq b 101 (by decide)
@[simp] theorem u8q102 : ((b.toNat : Int) = 102) = (b = 102) := u8eq b 102 (by decide)
@[simp] theorem u8q103 : ((b.toNat : Int) = 103) = (b = 103) := u8eq b 103 (by decide)
@[simp] theorem u8q104 : ((b.toNat : Int) = 104) = (b = 104) := u8eq b 104 (by decide)
@[simp] theorem u8q105 : ((b.toNat : Int) = 105) = (b = 105) := u8eq b 105 (by decide)
@[simp] theorem u8q106 : ((b.toNat : Int) = 106) = (b = 106) := u8eq b 106 (by decide)
@[simp] theorem u8q107 : ((b.toNat : Int) = 107) = (b = 107) := u8eq b 107 (by decide)
@[simp] theorem u8q108 : ((b.toNat : Int) = 108) = (b = 108) := u8eq b 108 (by decide)
@[simp] theorem u8q109 : ((b.toNat : Int) = 109) = (b = 109) := u8eq b 109 (by decide)
@[simp] theorem u8q110 : ((b.toNat : Int) = 110) = (b = 110) := u8eq b 110 (by decide)
@[simp] theorem u8q111 : ((b.toNat : Int) = 111) = (b = 111) := u8eq b 111 (by decide)
@[simp] theorem u8q112 : ((b.toNat : Int) = 112) = (b = 112) := u8eq b 112 (by decide)
@[simp] theorem u8q113 : ((b.toNat : Int) = 113) = (b = 113) := u8eq b 113 (by decide)
@[simp] theorem u8q114 : ((b.toNat : Int) = 114) = (b = 114) := u8eq b 114 (by decide)
@[simp] theorem u8q115 : ((b.toNat : Int) = 115) = (b = 115) := u8eq b 115 (by decide)
@[simp] theorem u8q116 : ((b.toNat : Int) = 116) = (b = 116) := u8eq b 116 (by decide)
@[simp] theorem u8q117 : ((b.toNat : Int) = 117) = (b = 117) := u8eq b 117 (by decide)
@[simp] theorem u8q118 : ((b.toNat : Int) = 118) = (b = 118) := u8eq b 118 (by decide)
@[simp] theorem u8q119 : ((b.toNat : Int) = 119) = (b = 119) := u8eq b 119 (by decide)
@[simp] theorem u8q120 : ((b.toNat : Int) = 120) = (b = 120) := u8eq b 120 (by decide)
@[simp] theorem u8q121 : ((b.toNat : Int) = 121) = (b = 121) := u8eq b 121 (by decide)
@[simp] theorem u8q122 : ((b.toNat : Int) = 122) = (b = 122) := u8eq b 122 (by decide)
@[simp] theorem u8q123 : ((b.toNat : Int) = 123) = (b = 123) := u8eq b 123 (by decide)
@[simp] theorem u8q124 : ((b.toNat : Int) = 124) = (b = 124) := u8eq b 124 (by decide)
@[simp] theorem u8q125 : ((b.toNat : Int) = 125) = (b = 125) := u8eq b 125 (by decide)
@[simp] theorem u8q126 : ((b.toNat : Int) = 126) = (b = 126) := u8eq b 126 (by decide)
@[simp] theorem u8q127 : ((b.toNat : Int) = 127) = (b = 127) := u8eq b 127 (by decide)
@[simp] theorem u8q128 : ((b.toNat : Int) = 128) = (b = 128) := u8eq b 128 (by decide)
@[simp] theorem u8q129 : ((b.toNat : Int) = 129) = (b = 129) := u8eq b 129 (by decide)
@[simp] theorem u8q130 : ((b.toNat : Int) = 130) = (b = 130) := u8eq b 130 (by decide)
@[simp] theorem u8q131 : ((b.toNat : Int) = 131) = (b = 131) := u8eq b 131 (by decide)
@[simp] theorem u8q132 : ((b.toNat : Int) = 132) = (b = 132) := u8eq b 132 (by decide)
@[simp] theorem u8q133 : ((b.toNat : Int) = 133) = (b = 133) := u8eq b 133 (by decide)
@[simp] theorem u8q134 : ((b.toNat : Int) = 134) = (b = 134) := u8eq b 134 (by decide)
@[simp] theorem u8q135 : ((b.toNat : Int) = 135) = (b = 135) := u8eq b 135 (by decide)
@[simp] theorem u8q136 : ((b.toNat : Int) = 136) = (b = 136) := u8eq b 136 (by decide)
@[simp] theorem u8q137 : ((b.toNat : Int) = 137) = (b = 137) := u8eq b 137 (by decide)
@[simp] theorem u8q138 : ((b.toNat : Int) = 138) = (b = 138) := u8eq b 138 (by decide)
@[simp] theorem u8q139 : ((b.toNat : Int) = 139) = (b = 139) := u8eq b 139 (by decide)
@[simp] theorem u8q140 : ((b.toNat : Int) = 140) = (b = 140) := u8eq b 140 (by decide)
@[simp] theorem u8q141 : ((b.toNat : Int) = 141) = (b = 141) := u8eq b 141 (by decide)
@[simp] theorem u8q142 : ((b.toNat : Int) = 142) = (b = 142) := u8eq b 142 (by decide)
@[simp] theorem u8q143 : ((b.toNat : Int) = 143) = (b = 143) := u8eq b 143 (by decide)
@[simp] theorem u8q144 : ((b.toNat : Int) = 144) = (b = 144) := u8eq b 144 (by decide)
@[simp] theorem u8q145 : ((b.toNat : Int) = 145) = (b = 145) := u8eq b 145 (by decide)
@[simp] theorem u8q146 : ((b.toNat : Int) = 146) = (b = 146) := u8eq b 146 (by decide)
@[simp] theorem u8q147 : ((b.toNat : Int) = 147) = (b = 147) := u8eq b 147 (by decide)
@[simp] theorem u8q148 : ((b.toNat : Int) = 148) = (b = 148) := u8eq b 148 (by decide)
@[simp] theorem u8q149 : ((b.toNat : Int) = 149) = (b = 149) := u8eq b 149 (by decide)
@[simp] theorem u8q150 : ((b.toNat : Int) = 150) = (b = 150) := u8eq b 150 (by decide)
@[simp] theorem u8q151 : ((b.toNat : Int) = 151) = (b = 151) := u8eq b 151 (by decide)
@[simp] theorem u8q152 : ((b.toNat : Int) = 152) = (b = 152) := u8eq b 152 (by decide)
@[simp] theorem u8q153 : ((b.toNat : Int) = 153) = (b = 153) := u8eq b 153 (by decide)
@[simp] theorem u8q154 : ((b.toNat : Int) = 154) = (b = 154) := u8eq b 154 (by decide)
@[simp] theorem u8q155 : ((b.toNat : Int) = 155) = (b = 155) := u8eq b 155 (by decide)
@[simp] theorem u8q156 : ((b.toNat : Int) = 156) = (b = 156) := u8eq b 156 (by decide)
@[simp] theorem u8q157 : ((b.toNat : Int) = 157) = (b = 157) := u8eq b 157 (by decide)
@[simp] theorem u8q158 : ((b.toNat : Int) = 158) = (b = 158) := u8eq b 158 (by decide)
@[simp] theorem u8q159 : ((b.toNat : Int) = 159) = (b = 159) := u8eq b 159 (by decide)
@[simp] theorem u8q160 : ((b.toNat : Int) = 160) = (b = 160) := u8eq b 160 (by decide)
@[simp] theorem u8q161 : ((b.toNat : Int) = 161) = (b = 161) := u8eq b 161 (by decide)
@[simp] theorem u8q162 : ((b.toNat : Int) = 162) = (b = 162) := u8eq b 162 (by decide)
@[simp] theorem u8q163 : ((b.toNat : Int) = 163) = (b = 163) := u8eq b 163 (by decide)
@[simp] theorem u8q164 : ((b.toNat : Int) = 164) = (b = 164) := u8eq b 164 (by decide)
@[simp] theorem u8q165 : ((b.toNat : Int) = 165) = (b = 165) := u8eq b 165 (by decide)
@[simp] theorem u8q166 : ((b.toNat : Int) = 166) = (b = 166) := u8eq b 166 (by decide)
@[simp] theorem u8q167 : ((b.toNat : Int) = 167) = (b = 167) := u8eq b 167 (by decide)
@[simp] theorem u8q168 : ((b.toNat : Int) = 168) = (b = 168) := u8eq b 168 (by decide)
@[simp] theorem u8q169 : ((b.toNat : Int) = 169) = (b = 169) := u8eq b 169 (by decide)
@[simp] theorem u8q170 : ((b.toNat : Int) = 170) = (b = 170) := u8eq b 170 (by decide)
@[simp] theorem u8q171 : ((b.toNat : Int) = 171) = (b = 171) := u8eq b 171 (by decide)
@[simp] theorem u8q172 : ((b.toNat : Int) = 172) = (b = 172) := u8eq b 172 (by decide)
@[simp] theorem u8q173 : ((b.toNat : Int) = 173) = (b = 173) := u8eq b 173 (by decide)
@[simp] theorem u8q174 : ((b.toNat : Int) = 174) = (b = 174) := u8eq b 174 (by decide)
@[simp] theorem u8q175 : ((b.toNat : Int) = 175) = (b = 175) := u8eq b 175 (by decide)
@[simp] theorem u8q176 : ((b.toNat : Int) = 176) = (b = 176) := u8eq b 176 (by decide)
@[simp] theorem u8q177 : ((b.toNat : Int) = 177) = (b = 177) := u8eq b 177 (by decide)
@[simp] theorem u8q178 : ((b.toNat : Int) = 178) = (b = 178) := u8eq b 178 (by decide)
@[simp] theorem u8q179 : ((b.toNat : Int) = 179) = (b = 179) := u8eq b 179 (by decide)
@[simp] theorem u8q180 : ((b.toNat : Int) = 180) = (b = 180) := u8eq b 180 (by decide)
@[simp] theorem u8q181 : ((b.toNat : Int) = 181) = (b = 181) := u8eq b 181 (by decide)
@[simp] theorem u8q182 : ((b.toNat : Int) = 182) = (b = 182) := u8eq b 182 (by decide)
@[simp] theorem u8q183 : ((b.toNat : Int) = 183) = (b = 183) := u8eq b 183 (by decide)
@[simp] theorem u8q184 : ((b.toNat : Int) = 184) = (b = 184) := u8eq b 184 (by decide)
@[simp] theorem u8q185 : ((b.toNat : Int) = 185) = (b = 185) := u8eq b 185 (by decide)
@[simp] theorem u8q186 : ((b.toNat : Int) = 186) = (b = 186) := u8eq b 186 (by decide)
@[simp] theorem u8q187 : ((b.toNat : Int) = 187) = (b = 187) := u8eq b 187 (by decide)
@[simp] theorem u8q188 : ((b.toNat : Int) = 188) = (b = 188) := u8eq b 188 (by decide)
@[simp] theorem u8q189 : ((b.toNat : Int) = 189) = (b = 189) := u8eq b 189 (by decide)
@[simp] theorem u8q190 : ((b.toNat : Int) = 190) = (b = 190) := u8eq b 190 (by decide)
@[simp] theorem u8q191 : ((b.toNat : Int) = 191) = (b = 191) := u8eq b 191 (by decide)
@[simp] theorem u8q192 : ((b.toNat : Int) = 192) = (b = 192) := u8eq b 192 (by decide)
@[simp] theorem u8q193 : ((b.toNat : Int) = 193) = (b = 193) := u8eq b 193 (by decide)
@[simp] theorem u8q194 : ((b.toNat : Int) = 194) = (b = 194) := u8eq b 194 (by decide)
@[simp] theorem u8q195 : ((b.toNat : Int) = 195) = (b = 195) := u8eq b 195 (by decide)
@[simp] theorem u8q196 : ((b.toNat : Int) = 196) = (b = 196) := u8eq b 196 (by decide)
@[simp] theorem u8q197 : ((b.toNat : Int) = 197) = (b = 197) := u8eq b 197 (by decide)
@[simp] theorem u8q198 : ((b.toNat : Int) = 198) = (b = 198) := u8eq b 198 (by decide)
@[simp] theorem u8q199 : ((b.toNat : Int) = 199) = (b = 199) := u8eq b 199 (by decide)
@[simp] theorem u8q200 : ((b.toNat : Int) = 200) = (b = 200) := u8eq b 200 (by decide)
@[simp] theorem u8q201 : ((b.toNat : Int) = 201) = (b = 201) := u8eq b 201 (by decide)
@[simp] theorem u8q202 : ((b.toNat : Int) = 202) = (b = 202) := u8eq b 202 (by decide)
@[simp] theorem u8q203 : ((b.toNat : Int) = 203) = (b = 203) := u8eq b 203 (by decide)
@[simp] theorem u8q204 : ((b.toNat : Int) = 204) = (b = 204) := u8eq b 204 (by decide)
@[simp] theorem u8q205 : ((b.toNat : Int) = 205) = (b = 205) := u8eq b 205 (by decide)
@[simp] theorem u8q206 : ((b.toNat : Int) = 206) = (b = 206) := u8eq b 206 (by decide)
@[simp] theorem u8q207 : ((b.toNat : Int) = 207) = (b = 207) := u8eq b 207 (by decide)
@[simp] theorem u8q208 : ((b.toNat : Int) = 208) = (b = 208) := u8eq b 208 (by decide)
@[simp] theorem u8q209 : ((b.toNat : Int) = 209) = (b = 209) := u8eq b 209 (by decide)
@[simp] theorem u8q210 : ((b.toNat : Int) = 210) = (b = 210) := u8eq b 210 (by decide)
@[simp] theorem u8q211 : ((b.toNat : Int) = 211) = (b = 211) := u8eq b 211 (by decide)
@[simp] theorem u8q212 : ((b.toNat : Int) = 212) = (b = 212) := u8eq b 212 (by decide)
@[simp] theorem u8q213 : ((b.toNat : Int) = 213) = (b = 213) := u8eq b 213 (by decide)
@[simp] theorem u8q214 : ((b.toNat : Int) = 214) = (b = 214) := u8eq b 214 (by decide)
@[simp] theorem u8q215 : ((b.toNat : Int) = 215) = (b = 215) := u8eq b 215 (by decide)
@[simp] theorem u8q216 : ((b.toNat : Int) = 216) = (b = 216) := u8eq b 216 (by decide)
@[simp] theorem u8q217 : ((b.toNat : Int) = 217) = (b = 217) := u8eq b 217 (by decide)
@[simp] theorem u8q218 : ((b.toNat : Int) = 218) = (b = 218) := u8eq b 218 (by decide)
@[simp] theorem u8q219 : ((b.toNat : Int) = 219) = (b = 219) := u8eq b 219 (by decide)
@[simp] theorem u8q220 : ((b.toNat : Int) = 220) = (b = 220) := u8eq b 220 (by decide)
@[simp] theorem u8q221 : ((b.toNat : Int) = 221) = (b = 221) := u8eq b 221 (by decide)
@[simp] theorem u8q222 : ((b.toNat : Int) = 222) = (b = 222) := u8eq b 222 (by decide)
@[simp] theorem u8q223 : ((b.toNat : Int) = 223) = (b = 223) := u8eq b 223 (by decide)
@[simp] theorem u8q224 : ((b.toNat : Int) = 224) = (b = 224) := u8eq b 224 (by decide)
@[simp] theorem u8q225 : ((b.toNat : Int) = 225) = (b = 225) := u8eq b 225 (by decide)
@[simp] theorem u8q226 : ((b.toNat : Int) = 226) = (b = 226) := u8eq b 226 (by decide)
@[simp] theorem u8q227 : ((b.toNat : Int) = 227) = (b = 227) := u8eq b 227 (by decide)
@[simp] theorem u8q228 : ((b.toNat : Int) = 228) = (b = 228) := u8eq b 228 (by decide)
@[simp] theorem u8q229 : ((b.toNat : Int) = 229) = (b = 229) := u8eq b 229 (by decide)
@[simp] theorem u8q230 : ((b.toNat : Int) = 230) = (b = 230) := u8eq b 230 (by decide)
@[simp] theorem u8q231 : ((b.toNat : Int) = 231) = (b = 231) := u8eq b 231 (by decide)
@[simp] theorem u8q232 : ((b.toNat : Int) = 232) = (b = 232) := u8eq b 232 (by decide)
@[simp] theorem u8q233 : ((b.toNat : Int) = 233) = (b = 233) := u8eq b 233 (by decide)
@[simp] theorem u8q234 : ((b.toNat : Int) = 234) = (b = 234) := u8eq b 234 (by decide)
@[simp] theorem u8q235 : ((b.toNat : Int) = 235) = (b = 235) := u8eq b 235 (by decide)
@[simp] theorem u8q236 : ((b.toNat : Int) = 236) = (b = 236) := u8eq b 236 (by decide)
@[simp] theorem u8q237 : ((b.toNat : Int) = 237) = (b = 237) := u8eq b 237 (by decide)
@[simp] theorem u8q238 : ((b.toNat : Int) = 238) = (b = 238) := u8eq b 238 (by decide)
@[simp] theorem u8q239 : ((b.toNat : Int) = 239) = (b = 239) := u8eq b 239 (by decide)
@[simp] theorem u8q240 : ((b.toNat : Int) = 240) = (b = 240) := u8eq b 240 (by decide)
@[simp] theorem u8q241 : ((b.toNat : Int) = 241) = (b = 241) := u8eq b 241 (by decide)
@[simp] theorem u8q242 : ((b.toNat : Int) = 242) = (b = 242) := u8eq b 242 (by decide)
@[simp] theorem u8q243 : ((b.toNat : Int) = 243) = (b = 243) := u8eq b 243 (by decide)
@[simp] theorem u8q244 : ((b.toNat : Int) = 244) = (b = 244) := u8eq b 244 (by decide)
@[simp] theorem u8q245 : ((b.toNat : Int) = 245) = (b = 245) := u8eq b 245 (by decide)
@[simp] theorem u8q246 : ((b.toNat : Int) = 246) = (b = 246) := u8eq b 246 (by decide)
@[simp] theorem u8q247 : ((b.toNat : Int) = 247) = (b = 247) := u8eq b 247 (by decide)
@[simp] theorem u8q248 : ((b.toNat : Int) = 248) = (b = 248) := u8eq b 248 (by decide)
@[simp] theorem u8q249 : ((b.toNat : Int) = 249) = (b = 249) := u8eq b 249 (by decide)
@[simp] theorem u8q250 : ((b.toNat : Int) = 250) = (b = 250) := u8eq b 250 (by decide)
@[simp] theorem u8q251 : ((b.toNat : Int) = 251) = (b = 251) := u8eq b 251 (by decide)
@[simp] theorem u8q252 : ((b.toNat : Int) = 252) = (b = 252) := u8eq b 252 (by decide)
@[simp] theorem u8q253 : ((b.toNat : Int) = 253) = (b = 253) := u8eq b 253 (by decide)
@[simp] theorem u8q254 : ((b.toNat : Int) = 254) = (b = 254) := u8eq b 254 (by decide)
@[simp] theorem u8q255 : ((b.toNat : Int) = 255) = (b = 255) := u8eq b 255 (by decide)
@[simp] theorem u8lt : ((b.toNat : Int) < 256) = True := by simp; have := b.toNat_lt; omega
end
end Go.Lg
/-
  The plain law of layer 27: the machine that reads JSON byte by byte comes to what the reference, value within value, comes to. No program in sight.
-/
set_option linter.unusedSimpArgs false
set_option linter.unusedVariables false
namespace Tg.Json

/-- bytes that part -/
def white (b : UInt8) : Bool := b == 32 || b == 9 || b == 10 || b == 13
def digit (b : UInt8) : Bool := 48 ≤ b && b ≤ 57
def hex (b : UInt8) : Bool := digit b || (97 ≤ b && b ≤ 102) || (65 ≤ b && b ≤ 70)
def esc (b : UInt8) : Bool := b == 34 || b == 92 || b == 47 || b == 98 || b == 102 || b == 110 || b == 114 || b == 116

/-- the machine of the program -/
structure M where
  depth : Nat
  stack : List UInt8
  pos : Nat
  key : Bool
  rest : List UInt8
  hex : Nat
  begun : Bool
  state : Nat
  place : Int
  seen : Nat

def M.start (d : Nat) : M := ⟨d, [], 0, false, [], 0, false, 1, -1, 0⟩

def M.top (m : M) : UInt8 := m.stack.getLast?.getD 0
def M.fail (m : M) (s : Nat) : M := { m with state := s, place := m.seen }
def M.push (m : M) (b : UInt8) (p : Nat) : M := if m.stack.length = m.depth then m.fail 3 else { m with stack := m.stack ++ [b], pos := p }
def M.pop (m : M) : M := { m with stack := m.stack.dropLast, pos := 5 }
def M.first (m : M) (b : UInt8) : M :=
  if b = 91 then m.push b 1
  else if b = 123 then m.push b 3
  else if b = 34 then { m with pos := 6, key := false }
  else if b = 45 then { m with pos := 10 }
  else if b = 48 then { m with pos := 11 }
  else if digit b then { m with pos := 12 }
  else if b = 116 then { m with pos := 9, rest := [114, 117, 101] }
  else if b = 102 then { m with pos := 9, rest := [97, 108, 115, 101] }
  else if b = 110 then { m with pos := 9, rest := [117, 108, 108] }
  else m.fail 0
def M.after (m : M) (b : UInt8) : M :=
  let m := { m with pos := 5 }
  if white b then m
  else if b = 44 ∧ m.top = 91 then { m with pos := 0 }
  else if b = 44 ∧ m.top = 123 then { m with pos := 2 }
  else if (b = 93 ∧ m.top = 91) ∨ (b = 125 ∧ m.top = 123) then m.pop
  else m.fail 0
def M.inText (m : M) (b : UInt8) : M :=
  if b = 34 then (if m.key then { m with pos := 4 } else { m with pos := 5 })
  else if b = 92 then { m with pos := 7 }
  else if b < 32 then m.fail 0
  else m
def M.inSlash (m : M) (b : UInt8) : M :=
  if b = 117 then { m with pos := 8, hex := 4 }
  else if esc b then { m with pos := 6 }
  else m.fail 0
def M.inUnicode (m : M) (b : UInt8) : M :=
  if Json.hex b then (if m.hex - 1 = 0 then { m with pos := 6, hex := m.hex - 1 } else { m with hex := m.hex - 1 })
  else m.fail 0
def M.inWord (m : M) (b : UInt8) : M :=
  if m.rest.head? = some b then (if m.rest.tail = [] then { m with rest := m.rest.tail, pos := 5 } else { m with rest := m.rest.tail })
  else m.fail 0
def ended (p : Nat) : Bool := p == 11 || p == 12 || p == 14 || p == 17
def isE (b : UInt8) : Bool := b == 101 || b == 69
def M.inNumber (m : M) (b : UInt8) : M :=
  if m.pos = 10 ∧ b = 48 then { m with pos := 11 }
  else if (m.pos = 10 ∨ m.pos = 12) ∧ digit b then { m with pos := 12 }
  else if (m.pos = 13 ∨ m.pos = 14) ∧ digit b then { m with pos := 14 }
  else if (m.pos = 15 ∨ m.pos = 16 ∨ m.pos = 17) ∧ digit b then { m with pos := 17 }
  else if m.pos = 15 ∧ (b = 43 ∨ b = 45) then { m with pos := 16 }
  else if (m.pos = 11 ∨ m.pos = 12) ∧ b = 46 then { m with pos := 13 }
  else if (m.pos = 11 ∨ m.pos = 12 ∨ m.pos = 14) ∧ isE b then { m with pos := 15 }
  else if ended m.pos then m.after b
  else m.fail 0
def M.names (m : M) (b : UInt8) : M :=
  if white b then m
  else if b = 34 then { m with pos := 6, key := true }
  else if b = 125 ∧ m.pos = 3 then m.pop
  else m.fail 0
def M.byte (m : M) (b : UInt8) : M :=
  if m.pos = 0 ∨ m.pos = 1 then
    (if white b then m else if b = 93 ∧ m.pos = 1 then m.pop else m.first b)
  else if m.pos = 2 ∨ m.pos = 3 then m.names b
  else if m.pos = 4 then (if white b then m else if b = 58 then { m with pos := 0 } else m.fail 0)
  else if m.pos = 5 then m.after b
  else if m.pos = 6 then m.inText b
  else if m.pos = 7 then m.inSlash b
  else if m.pos = 8 then m.inUnicode b
  else if m.pos = 9 then m.inWord b
  else m.inNumber b
def M.tell (m : M) : Nat := if m.state = 1 ∧ m.stack = [] ∧ (m.pos = 5 ∨ ended m.pos) then 2 else m.state
def M.feed1 (m : M) (b : UInt8) : M :=
  let m := { m with begun := m.begun || !white b }
  let m := if m.state = 1 then m.byte b else m
  { m with seen := m.seen + 1 }
def M.feed (m : M) (l : List UInt8) : M := l.foldl M.feed1 m

/-! The reference: what is read off the rest of the bytes: how many, and how it is: 0 bad, 1 open, 3 deep, 4 well. -/

def skip : List UInt8 → Nat
  | [] => 0
  | b :: r => if white b then skip r + 1 else 0
def word : List UInt8 → List UInt8 → Nat × Nat
  | _, [] => (0, 4)
  | [], _ :: _ => (0, 1)
  | b :: r, c :: w => if b = c then ((word r w).1 + 1, (word r w).2) else (0, 0)
def add (n : Nat) (x : Nat × Nat) : Nat × Nat := (x.1 + n, x.2)
/-- a text: 0 within it, 1 behind a backslash, 2 to 5: so many digits and one come -/
def quote : Nat → List UInt8 → Nat × Nat
  | _, [] => (0, 1)
  | k, b :: r =>
    if k = 0 then
      (if b < 32 then (0, 0) else if b = 34 then (1, 4) else if b = 92 then add 1 (quote 1 r) else add 1 (quote 0 r))
    else if k = 1 then
      (if b = 117 then add 1 (quote 5 r) else if esc b then add 1 (quote 0 r) else (0, 0))
    else (if hex b then add 1 (quote (if k = 2 then 0 else k - 1) r) else (0, 0))
/-- a number, from where it stands -/
def number : Nat → List UInt8 → Nat × Nat
  | p, [] => if ended p then (0, 4) else (0, 1)
  | p, b :: r =>
    if p = 10 ∧ b = 48 then add 1 (number 11 r)
    else if (p = 10 ∨ p = 12) ∧ digit b then add 1 (number 12 r)
    else if (p = 13 ∨ p = 14) ∧ digit b then add 1 (number 14 r)
    else if (p = 15 ∨ p = 16 ∨ p = 17) ∧ digit b then add 1 (number 17 r)
    else if p = 15 ∧ (b = 43 ∨ b = 45) then add 1 (number 16 r)
    else if (p = 11 ∨ p = 12) ∧ b = 46 then add 1 (number 13 r)
    else if (p = 11 ∨ p = 12 ∨ p = 14) ∧ isE b then add 1 (number 15 r)
    else if ended p then (0, 4)
    else (0, 0)
/-- a name and its colon, or nothing -/
def named : Bool → List UInt8 → Nat × Nat
  | false, _ => (0, 4)
  | true, [] => (0, 1)
  | true, b :: r =>
    if b ≠ 34 then (0, 0)
    else if (quote 0 r).2 ≠ 4 then add 1 (quote 0 r)
    else
      let n := (quote 0 r).1
      let k := skip (r.drop n)
      match (r.drop n).drop k with
      | [] => (1 + n + k, 1)
      | c :: _ => if c ≠ 58 then (1 + n + k, 0) else (1 + n + k + 1, 4)
def close (o : Bool) : UInt8 := if o then 125 else 93
/-- what comes behind an element -/
def behindElem (o : Bool) (next : List UInt8 → Nat × Nat) (l : List UInt8) : Nat × Nat :=
  match l.drop (skip l) with
  | [] => (skip l, 1)
  | c :: q => if c = close o then (skip l + 1, 4) else if c ≠ 44 then (skip l, 0) else add (skip l + 1) (next q)
/-- an array or an object, what opens it gone by -/
def list (val : List UInt8 → Nat × Nat) (o : Bool) : Nat → Bool → List UInt8 → Nat × Nat
  | 0, _, _ => (0, 1)
  | f + 1, one, l =>
    match l.drop (skip l) with
    | [] => (skip l, 1)
    | b :: r =>
      if one ∧ b = close o then (skip l + 1, 4)
      else add (skip l)
        (if (named o (b :: r)).2 ≠ 4 then named o (b :: r)
         else add (named o (b :: r)).1
          (let l1 := (b :: r).drop (named o (b :: r)).1
           if (val l1).2 ≠ 4 then val l1
           else add (val l1).1 (behindElem o (list val o f false) (l1.drop (val l1).1))))
def value : Nat → List UInt8 → Nat × Nat
  | 0, l =>
    match l.drop (skip l) with
    | [] => (skip l, 1)
    | b :: r =>
      if b = 91 ∨ b = 123 then (skip l, 3)
      else add (skip l) (flat b r)
  | d + 1, l =>
    match l.drop (skip l) with
    | [] => (skip l, 1)
    | b :: r =>
      if b = 91 ∨ b = 123 then add (skip l + 1) (list (value d) (b == 123) (r.length + 1) true r)
      else add (skip l) (flat b r)
where flat (b : UInt8) (r : List UInt8) : Nat × Nat :=
  if b = 34 then add 1 (quote 0 r)
  else if b = 45 then add 1 (number 10 r)
  else if digit b then number 10 (b :: r)
  else if b = 116 then word (b :: r) [116, 114, 117, 101]
  else if b = 102 then word (b :: r) [102, 97, 108, 115, 101]
  else if b = 110 then word (b :: r) [110, 117, 108, 108]
  else (0, 0)
/-- the state of all, and the place of the first byte that can't be -/
def whole (l : List UInt8) (d : Nat) : Nat × Int :=
  let x := value d l
  if x.2 = 1 then (1, -1)
  else if x.2 ≠ 4 then (x.2, x.1)
  else
    let k := skip (l.drop x.1)
    if x.1 + k < l.length then (0, (x.1 + k : Nat)) else (2, -1)

/-! The law. -/
theorem feed_nil (m : M) : m.feed [] = m := rfl
theorem feed_cons (m : M) (b : UInt8) (r : List UInt8) : m.feed (b :: r) = (m.feed1 b).feed r := rfl
theorem feed_append (m : M) (l k : List UInt8) : m.feed (l ++ k) = (m.feed l).feed k := by simp [M.feed, List.foldl_append]

theorem feed_stuck (l : List UInt8) : ∀ m : M, m.state ≠ 1 → (m.feed l).state = m.state ∧ (m.feed l).place = m.place := by
  induction l with
  | nil => intro m _; exact ⟨rfl, rfl⟩
  | cons b r ih =>
    intro m h
    have := ih (m.feed1 b) (by simp [M.feed1, h])
    rw [feed_cons]
    simp only [M.feed1, h] at this ⊢
    exact this

theorem seen_first (m : M) (b : UInt8) : (m.first b).seen = m.seen := by
  unfold M.first M.push M.fail; simp only [apply_ite M.seen, ite_self]
theorem seen_after (m : M) (b : UInt8) : (m.after b).seen = m.seen := by
  unfold M.after M.pop M.fail; simp only [apply_ite M.seen, ite_self]
theorem seen_inNumber (m : M) (b : UInt8) : (m.inNumber b).seen = m.seen := by
  unfold M.inNumber M.fail; simp only [apply_ite M.seen, ite_self, seen_after]
theorem seen_byte (m : M) (b : UInt8) : (m.byte b).seen = m.seen := by
  unfold M.byte M.names M.inText M.inSlash M.inUnicode M.inWord M.pop M.fail
  simp only [apply_ite M.seen, ite_self, seen_after, seen_first, seen_inNumber]
theorem seen_feed1 (m : M) (b : UInt8) : (m.feed1 b).seen = m.seen + 1 := by
  unfold M.feed1; simp only; split
  · rw [seen_byte]
  · rfl

/-- what has begun -/
def M.beg (m : M) (b : UInt8) : M := { m with begun := m.begun || !white b }
theorem feed1_open {m : M} {b : UInt8} (h : m.state = 1) : m.feed1 b = { (m.beg b).byte b with seen := m.seen + 1 } := by
  unfold M.feed1; simp only; rw [if_pos h]
  show _ = ({ (m.beg b).byte b with seen := (m.beg b).seen + 1 } : M)
  rw [← seen_byte (m.beg b) b]; rfl

/-- what reading comes to, and where the machine then stands -/
def Goes (m : M) (l : List UInt8) (x : Nat × Nat) (ok : M → List UInt8 → Prop) : Prop :=
  (x.2 = 4 ∧ x.1 ≤ l.length ∧ ∃ m' : M, m.feed l = m'.feed (l.drop x.1) ∧ m'.depth = m.depth ∧ m'.state = 1 ∧ m'.place = m.place ∧ m'.seen = m.seen + x.1 ∧ ok m' (l.drop x.1)) ∨
  (x.2 = 1 ∧ (m.feed l).tell = 1 ∧ (m.feed l).place = m.place) ∨
  ((x.2 = 0 ∨ x.2 = 3) ∧ (m.feed l).state = x.2 ∧ (m.feed l).place = ((m.seen + x.1 : Nat) : Int) ∧ x.1 < l.length)

theorem Goes.seq {m : M} {l : List UInt8} {n : Nat} {y : Nat × Nat} {ok ok' : M → List UInt8 → Prop} (h : Goes m l (n, 4) ok)
    (k : ∀ m' : M, m'.depth = m.depth → m'.state = 1 → m'.place = m.place → ok m' (l.drop n) → Goes m' (l.drop n) y ok') : Goes m l (add n y) ok' := by
  rcases h with ⟨_, hn, m', hf, hd, hs, hp, he, ho⟩ | ⟨h, _⟩ | ⟨h, _⟩
  · simp only at hn hf he ho
    rcases k m' hd hs hp ho with ⟨h4, hn', m'', hf', hd', hs', hp', he', ho'⟩ | ⟨h1, ht, hp'⟩ | ⟨h0, hs', hp', hl⟩
    · refine .inl ⟨h4, ?_, m'', ?_, hd'.trans hd, hs', hp'.trans hp, ?_, ?_⟩
      · simp only [add]; simp at hn'; omega
      · simp only [add]; rw [hf, hf', List.drop_drop, Nat.add_comm]
      · simp only [add]; omega
      · simp only [add]; rw [List.drop_drop, Nat.add_comm] at ho'; exact ho'
    · exact .inr (.inl ⟨h1, by rw [hf]; exact ht, by rw [hf, hp', hp]⟩)
    · refine .inr (.inr ⟨h0, by rw [hf]; exact hs', ?_, ?_⟩)
      · rw [hf, hp', he]; simp only [add]; congr 1; omega
      · simp only [add]; simp at hl; omega
  · simp at h
  · simp at h
theorem Goes.one {m : M} {b : UInt8} {r : List UInt8} {y : Nat × Nat} {ok : M → List UInt8 → Prop}
    (hd : (m.feed1 b).depth = m.depth) (hp : (m.feed1 b).place = m.place) (hs : (m.feed1 b).state = 1)
    (k : Goes (m.feed1 b) r y ok) : Goes m (b :: r) (add 1 y) ok := by
  have : Goes m (b :: r) (1, 4) (fun m' _ => m' = m.feed1 b) :=
    .inl ⟨rfl, by simp, m.feed1 b, by simp [feed_cons], hd, hs, hp, seen_feed1 m b, rfl⟩
  refine this.seq (fun m' _ _ _ h => ?_)
  subst h; exact k
theorem Goes.bad {m : M} {b : UInt8} {r : List UInt8} {s : Nat} {ok : M → List UInt8 → Prop} (hs : s = 0 ∨ s = 3)
    (h : (m.feed1 b).state = s) (hp : (m.feed1 b).place = m.seen) : Goes m (b :: r) (0, s) ok := by
  refine .inr (.inr ⟨hs, ?_, ?_, by simp⟩) <;> rw [feed_cons]
  · rw [(feed_stuck r _ (by rw [h]; omega)).1, h]
  · rw [(feed_stuck r _ (by rw [h]; omega)).2, hp]; simp
theorem Goes.here {m : M} {l : List UInt8} {ok : M → List UInt8 → Prop} (h1 : m.state = 1) (h : ok m l) : Goes m l (0, 4) ok :=
  .inl ⟨rfl, by simp, m, by simp, rfl, h1, rfl, by simp, by simpa using h⟩
theorem Goes.mono {m : M} {l : List UInt8} {x : Nat × Nat} {ok ok' : M → List UInt8 → Prop} (h : Goes m l x ok) (k : ∀ m' l', ok m' l' → ok' m' l') : Goes m l x ok' := by
  rcases h with ⟨h4, hn, m', hf, hd, hs, hp, he, ho⟩ | h | h
  · exact .inl ⟨h4, hn, m', hf, hd, hs, hp, he, k _ _ ho⟩
  · exact .inr (.inl h)
  · exact .inr (.inr h)

/-- where texts stand -/
def tpos (k : Nat) : Nat := if k = 0 then 6 else if k = 1 then 7 else 8
theorem quote_goes (l : List UInt8) : ∀ (k : Nat) (m : M), m.state = 1 → m.pos = tpos k → (2 ≤ k → m.hex = k - 1) → k ≤ 5 →
    Goes m l (quote k l) (fun m' _ => m'.stack = m.stack ∧ m'.pos = if m.key then 4 else 5) := by
  induction l with
  | nil =>
    intro k m h1 hp _ _
    refine .inr (.inl ⟨by simp [quote], ?_, rfl⟩)
    show m.tell = 1
    unfold M.tell
    rw [if_neg, h1]
    rw [hp]; unfold tpos; rintro ⟨_, _, h⟩; revert h; split <;> (try split) <;> decide
  | cons b r ih =>
    intro k m h1 hp hh hk
    unfold quote
    by_cases k0 : k = 0
    · subst k0
      simp only [tpos, if_true] at hp
      rw [if_pos rfl]
      by_cases c1 : b < 32
      · rw [if_pos c1]
        have c2 : b ≠ 34 := by rintro rfl; revert c1; decide
        have c3 : b ≠ 92 := by rintro rfl; revert c1; decide
        exact Goes.bad (.inl rfl) (by simp [M.feed1, h1, M.byte, hp, M.inText, c1, c2, c3, M.fail]) (by simp [M.feed1, h1, M.byte, hp, M.inText, c1, c2, c3, M.fail])
      · rw [if_neg c1]
        by_cases c2 : b = 34
        · rw [if_pos c2]
          have : (1, 4) = add 1 (0, 4) := rfl
          rw [this]
          refine Goes.one ?_ ?_ ?_ (Goes.here ?_ ⟨?_, ?_⟩) <;> cases hkey : m.key <;> simp [M.feed1, h1, M.byte, hp, M.inText, c2, hkey]
        · rw [if_neg c2]
          by_cases c3 : b = 92
          · rw [if_pos c3]
            refine Goes.one ?_ ?_ ?_ ((ih 1 _ ?_ ?_ (by omega) (by omega)).mono ?_)
            all_goals simp [M.feed1, h1, M.byte, hp, M.inText, c3, tpos]
          · rw [if_neg c3]
            refine Goes.one ?_ ?_ ?_ ((ih 0 _ ?_ ?_ (by omega) (by omega)).mono ?_)
            all_goals simp [M.feed1, h1, M.byte, hp, M.inText, c3, c2, c1, tpos]
    · rw [if_neg k0]
      by_cases k1 : k = 1
      · subst k1
        simp only [tpos] at hp
        rw [if_pos rfl]
        by_cases c1 : b = 117
        · rw [if_pos c1]
          refine Goes.one ?_ ?_ ?_ ((ih 5 _ ?_ ?_ (fun _ => ?_) (by omega)).mono ?_)
          all_goals simp [M.feed1, h1, M.byte, hp, M.inSlash, c1, tpos]
        · rw [if_neg c1]
          by_cases c2 : esc b
          · rw [if_pos c2]
            refine Goes.one ?_ ?_ ?_ ((ih 0 _ ?_ ?_ (fun _ => ?_) (by omega)).mono ?_)
            all_goals first | omega | simp [M.feed1, h1, M.byte, hp, M.inSlash, c1, c2, tpos]
          · rw [if_neg c2]
            exact Goes.bad (.inl rfl) (by simp [M.feed1, h1, M.byte, hp, M.inSlash, c1, c2, M.fail]) (by simp [M.feed1, h1, M.byte, hp, M.inSlash, c1, c2, M.fail])
      · rw [if_neg k1]
        have hx := hh (by omega)
        have hp8 : m.pos = 8 := by rw [hp]; simp [tpos, k0, k1]
        by_cases c1 : hex b
        · rw [if_pos c1]
          by_cases k2 : k = 2
          · subst k2
            rw [if_pos rfl]
            refine Goes.one ?_ ?_ ?_ ((ih 0 _ ?_ ?_ (fun _ => ?_) (by omega)).mono ?_)
            all_goals first | omega | simp [M.feed1, h1, M.byte, hp8, M.inUnicode, c1, hx, tpos]
          · rw [if_neg k2]
            have e1 : ¬ (k - 1 - 1 = 0) := by omega
            have e2 : ¬ (k - 1 = 0) := by omega
            have e3 : ¬ (k - 1 = 1) := by omega
            refine Goes.one ?_ ?_ ?_ ((ih (k - 1) _ ?_ ?_ (fun _ => ?_) (by omega)).mono ?_)
            all_goals simp [M.feed1, h1, M.byte, hp8, M.inUnicode, c1, hx, tpos, e1, e2, e3]
        · rw [if_neg c1]
          exact Goes.bad (.inl rfl) (by simp [M.feed1, h1, M.byte, hp8, M.inUnicode, c1, M.fail]) (by simp [M.feed1, h1, M.byte, hp8, M.inUnicode, c1, M.fail])

theorem number_goes (l : List UInt8) : ∀ (p : Nat) (m : M), m.state = 1 → m.pos = p → 10 ≤ p → p ≤ 17 →
    Goes m l (number p l) (fun m' l' => m'.stack = m.stack ∧ ended m'.pos = true ∧ ∀ b r, l' = b :: r → (m'.beg b).byte b = (m'.beg b).after b) := by
  induction l with
  | nil =>
    intro p m h1 hp _ _
    unfold number
    by_cases c : ended p = true
    · rw [if_pos c]
      exact Goes.here h1 ⟨rfl, by rw [hp]; exact c, fun b r h => by simp at h⟩
    · rw [if_neg c]
      refine .inr (.inl ⟨rfl, ?_, rfl⟩)
      show m.tell = 1
      unfold M.tell
      rw [if_neg, h1]
      rintro ⟨_, _, h | h⟩
      · omega
      · rw [hp] at h; exact c h
  | cons b r ih =>
    intro p m h1 hp h10 h17
    have hp' : (m.beg b).pos = p := hp
    have hb' : (m.beg b).byte b = (m.beg b).inNumber b := by
      unfold M.byte
      rw [if_neg (by omega), if_neg (by omega), if_neg (by omega), if_neg (by omega), if_neg (by omega), if_neg (by omega), if_neg (by omega), if_neg (by omega)]
    have go : ∀ q : Nat, 10 ≤ q → q ≤ 17 → (m.beg b).inNumber b = { m.beg b with pos := q } → 
        Goes m (b :: r) (add 1 (number q r)) (fun m' l' => m'.stack = m.stack ∧ ended m'.pos = true ∧ ∀ b r, l' = b :: r → (m'.beg b).byte b = (m'.beg b).after b) := by
      intro q hq hq' e
      refine Goes.one ?_ ?_ ?_ ((ih q _ ?_ ?_ hq hq').mono ?_)
      all_goals rw [feed1_open h1, hb', e]
      all_goals first | exact h1 | exact fun _ _ h => h | rfl
    unfold number
    by_cases c1 : p = 10 ∧ b = 48
    · rw [if_pos c1]; exact go 11 (by omega) (by omega) (by unfold M.inNumber; rw [hp', if_pos c1])
    rw [if_neg c1]
    by_cases c2 : (p = 10 ∨ p = 12) ∧ digit b
    · rw [if_pos c2]; exact go 12 (by omega) (by omega) (by unfold M.inNumber; rw [hp', if_neg c1, if_pos c2])
    rw [if_neg c2]
    by_cases c3 : (p = 13 ∨ p = 14) ∧ digit b
    · rw [if_pos c3]; exact go 14 (by omega) (by omega) (by unfold M.inNumber; rw [hp', if_neg c1, if_neg c2, if_pos c3])
    rw [if_neg c3]
    by_cases c4 : (p = 15 ∨ p = 16 ∨ p = 17) ∧ digit b
    · rw [if_pos c4]; exact go 17 (by omega) (by omega) (by unfold M.inNumber; rw [hp', if_neg c1, if_neg c2, if_neg c3, if_pos c4])
    rw [if_neg c4]
    by_cases c5 : p = 15 ∧ (b = 43 ∨ b = 45)
    · rw [if_pos c5]; exact go 16 (by omega) (by omega) (by unfold M.inNumber; rw [hp', if_neg c1, if_neg c2, if_neg c3, if_neg c4, if_pos c5])
    rw [if_neg c5]
    by_cases c6 : (p = 11 ∨ p = 12) ∧ b = 46
    · rw [if_pos c6]; exact go 13 (by omega) (by omega) (by unfold M.inNumber; rw [hp', if_neg c1, if_neg c2, if_neg c3, if_neg c4, if_neg c5, if_pos c6])
    rw [if_neg c6]
    by_cases c7 : (p = 11 ∨ p = 12 ∨ p = 14) ∧ isE b
    · rw [if_pos c7]; exact go 15 (by omega) (by omega) (by unfold M.inNumber; rw [hp', if_neg c1, if_neg c2, if_neg c3, if_neg c4, if_neg c5, if_neg c6, if_pos c7])
    rw [if_neg c7]
    by_cases c8 : ended p = true
    · rw [if_pos c8]
      refine Goes.here h1 ⟨rfl, by rw [hp]; exact c8, fun b' r' e => ?_⟩
      injection e with e1 e2
      subst e1
      rw [hb']; unfold M.inNumber; rw [hp', if_neg c1, if_neg c2, if_neg c3, if_neg c4, if_neg c5, if_neg c6, if_neg c7, if_pos c8]
    · rw [if_neg c8]
      have e : (m.beg b).inNumber b = (m.beg b).fail 0 := by
        unfold M.inNumber; rw [hp', if_neg c1, if_neg c2, if_neg c3, if_neg c4, if_neg c5, if_neg c6, if_neg c7, if_neg c8]
      exact Goes.bad (.inl rfl) (by rw [feed1_open h1, hb', e]; rfl) (by rw [feed1_open h1, hb', e]; rfl)

/-- the rest of a word: not empty -/
theorem word_goes (l : List UInt8) : ∀ (w : List UInt8) (m : M), m.state = 1 → m.pos = 9 → m.rest = w → w ≠ [] →
    Goes m l (word l w) (fun m' _ => m'.stack = m.stack ∧ m'.pos = 5) := by
  induction l with
  | nil =>
    intro w m h1 hp hr hw
    obtain ⟨c, w', rfl⟩ := List.exists_cons_of_ne_nil hw
    refine .inr (.inl ⟨rfl, ?_, rfl⟩)
    show m.tell = 1
    unfold M.tell
    rw [if_neg, h1]
    rw [hp]; rintro ⟨_, _, h⟩; revert h; decide
  | cons b r ih =>
    intro w m h1 hp hr hw
    obtain ⟨c, w', rfl⟩ := List.exists_cons_of_ne_nil hw
    unfold word
    by_cases e : b = c
    · subst e
      rw [if_pos rfl]
      by_cases hw' : w' = []
      · subst hw'
        have : ((word r []).1 + 1, (word r []).2) = add 1 (0, 4) := by cases r <;> rfl
        rw [this]
        refine Goes.one ?_ ?_ ?_ (Goes.here ?_ ⟨?_, ?_⟩)
        all_goals simp [M.feed1, h1, M.byte, hp, M.inWord, hr]
      · refine Goes.one (y := word r w') ?_ ?_ ?_ ((ih w' _ ?_ ?_ ?_ hw').mono ?_)
        all_goals simp [M.feed1, h1, M.byte, hp, M.inWord, hr, hw']
    · rw [if_neg e]
      have e' : ¬ c = b := fun h => e h.symm
      exact Goes.bad (.inl rfl) (by simp [M.feed1, h1, M.byte, hp, M.inWord, hr, e', M.fail]) (by simp [M.feed1, h1, M.byte, hp, M.inWord, hr, e', M.fail])

/-- blanks where nothing turns by them -/
theorem skip_le (l : List UInt8) : skip l ≤ l.length := by
  induction l with
  | nil => simp [skip]
  | cons b r ih => unfold skip; split <;> simp <;> omega
theorem skip_head (l : List UInt8) (b : UInt8) (r : List UInt8) (h : l.drop (skip l) = b :: r) : white b = false := by
  induction l with
  | nil => simp [skip] at h
  | cons c q ih =>
    unfold skip at h
    by_cases e : white c = true
    · rw [if_pos e] at h; exact ih h
    · rw [if_neg e] at h; simp at h; rw [← h.1]; simpa using e
theorem skip_goes (l : List UInt8) : ∀ (m : M), m.state = 1 → (∀ n : M, n.pos = m.pos → ∀ b, white b = true → n.byte b = n) →
    Goes m l (skip l, 4) (fun m' _ => m'.stack = m.stack ∧ m'.pos = m.pos) := by
  induction l with
  | nil => intro m h1 _; exact Goes.here h1 ⟨rfl, rfl⟩
  | cons b r ih =>
    intro m h1 hw
    unfold skip
    by_cases e : white b = true
    · rw [if_pos e]
      have hb := hw (m.beg b) rfl b e
      refine Goes.one (y := (skip r, 4)) ?_ ?_ ?_ ((ih _ ?_ ?_).mono ?_)
      all_goals rw [feed1_open h1, hb]
      all_goals first | exact h1 | exact hw | exact fun _ _ h => h | rfl
    · rw [if_neg e]; exact Goes.here h1 ⟨rfl, rfl⟩

def okB (st : List UInt8) (m : M) (l : List UInt8) : Prop :=
  m.stack = st ∧ (m.pos = 5 ∨ ended m.pos = true) ∧ ∀ b r, l = b :: r → (m.beg b).byte b = (m.beg b).after b
theorem okB_five {m : M} {l : List UInt8} (h : m.pos = 5) : okB m.stack m l := by
  refine ⟨rfl, .inl h, fun b r _ => ?_⟩
  have : (m.beg b).pos = 5 := h
  unfold M.byte
  rw [if_neg (by omega), if_neg (by omega), if_neg (by omega), if_pos this]
theorem okB_number {m m' : M} {l : List UInt8} (h : m'.stack = m.stack ∧ ended m'.pos = true ∧ ∀ b r, l = b :: r → (m'.beg b).byte b = (m'.beg b).after b) : okB m.stack m' l :=
  ⟨h.1, .inr h.2.1, h.2.2⟩
theorem okB_of {st : List UInt8} {m : M} {l : List UInt8} (h1 : m.stack = st) (h : m.pos = 5) : okB st m l := h1 ▸ okB_five h
theorem Goes.chok {m : M} {l : List UInt8} {x : Nat × Nat} {ok ok' : M → List UInt8 → Prop} (h : Goes m l x ok) (h4 : x.2 ≠ 4) : Goes m l x ok' := by
  rcases h with h | h | h
  · exact absurd h.1 h4
  · exact .inr (.inl h)
  · exact .inr (.inr h)
theorem Goes.open {m : M} {l : List UInt8} {n : Nat} {ok : M → List UInt8 → Prop} (h : m.tell = 1) (e : l = []) : Goes m l (n, 1) ok := by
  subst e; exact .inr (.inl ⟨rfl, h, rfl⟩)
/-- the second part is at hand where the first is gone by -/
theorem Goes.then {m : M} {l : List UInt8} {n : Nat} {ok : M → List UInt8 → Prop} {x : Nat × Nat} {ok' : M → List UInt8 → Prop} (h : Goes m l (n, 4) ok) (hx : x.1 = n + (x.1 - n))
    (k : ∀ m' : M, m'.depth = m.depth → m'.state = 1 → m'.place = m.place → ok m' (l.drop n) → Goes m' (l.drop n) (x.1 - n, x.2) ok') : Goes m l x ok' := by
  have := h.seq k
  have e : add n (x.1 - n, x.2) = x := by unfold add; ext <;> simp; omega
  rwa [e] at this

theorem after_white {n : M} (h : n.pos = 5) (b : UInt8) (hb : white b = true) : n.byte b = n := by
  unfold M.byte
  rw [if_neg (by omega), if_neg (by omega), if_neg (by omega), if_pos h]
  unfold M.after; rw [if_pos hb]; cases n; simp at h; simp [h]
theorem behind_goes {st : List UInt8} (l : List UInt8) (m : M) (h1 : m.state = 1) (h : okB st m l) : Goes m l (skip l, 4) (okB st) := by
  cases l with
  | nil => exact Goes.here h1 h
  | cons b r =>
    by_cases e : white b = true
    · have hb : (m.beg b).byte b = { m.beg b with pos := 5 } := by
        rw [h.2.2 b r rfl]; unfold M.after; rw [if_pos e]
      have : skip (b :: r) = skip r + 1 := by rw [skip, if_pos e]
      rw [this]
      refine Goes.one (y := (skip r, 4)) ?_ ?_ ?_ ((skip_goes r _ ?_ ?_).mono ?_)
      all_goals rw [feed1_open h1, hb]
      · rfl
      · rfl
      · exact h1
      · exact h1
      · exact fun n hn b hb => after_white hn b hb
      · rintro m' l' ⟨h2, h3⟩
        exact okB_of (h2.trans h.1) h3
    · have : skip (b :: r) = 0 := by rw [skip, if_neg e]
      rw [this]; exact Goes.here h1 h

def opn (o : Bool) : UInt8 := if o then 123 else 91
def lpos (o one : Bool) : Nat := if o then (if one then 3 else 2) else (if one then 1 else 0)
theorem top_opn {m : M} {st : List UInt8} {o : Bool} (h : m.stack = st ++ [opn o]) : m.top = opn o := by simp [M.top, h]

theorem named_goes {m : M} {b : UInt8} {r : List UInt8} (h1 : m.state = 1) (hp : m.pos = 2 ∨ m.pos = 3) (hw : white b = false) (h3 : m.pos = 3 → b ≠ 125) :
    Goes m (b :: r) (named true (b :: r)) (fun m' _ => m'.stack = m.stack ∧ m'.pos = 0) := by
  have hb : (m.beg b).byte b = (m.beg b).names b := by
    have : (m.beg b).pos = m.pos := rfl
    unfold M.byte; rw [if_neg (by omega), if_pos (by omega)]
  by_cases c : b = 34
  · have hb2 : (m.beg b).byte b = { m.beg b with pos := 6, key := true } := by rw [hb]; unfold M.names; rw [if_neg (by simp [hw]), if_pos c]
    have hq : Goes m (b :: r) (add 1 (quote 0 r)) (fun m' _ => m'.stack = m.stack ∧ m'.pos = 4) := by
      refine Goes.one ?_ ?_ ?_ ((quote_goes r 0 _ ?_ ?_ ?_ ?_).mono ?_)
      all_goals try rw [feed1_open h1, hb2]
      all_goals first | rfl | exact h1 | exact fun _ _ h => h | (intro h; omega) | omega
    simp only [named]
    rw [if_neg (by simp [c])]
    by_cases q : (quote 0 r).2 = 4
    · rw [if_neg (by simp [q])]
      have eq : add 1 (quote 0 r) = (1 + (quote 0 r).1, 4) := by unfold add; rw [q, Nat.add_comm]
      rw [eq] at hq
      generalize hn : (quote 0 r).1 = n at *
      have hdrop : (b :: r).drop (1 + n) = r.drop n := by rw [Nat.add_comm]; rfl
      have hk : Goes m (b :: r) (1 + n + skip (r.drop n), 4) (fun m' _ => m'.stack = m.stack ∧ m'.pos = 4) := by
        have := hq.seq (y := (skip (r.drop n), 4)) (ok' := fun m' _ => m'.stack = m.stack ∧ m'.pos = 4) (fun m' _ hs _ ho => by
          rw [hdrop]
          refine (skip_goes (r.drop n) m' hs (fun k hk b hb => ?_)).mono (fun _ _ h => ⟨h.1.trans ho.1, h.2.trans ho.2⟩)
          unfold M.byte
          rw [if_neg (by omega), if_neg (by omega), if_pos (by omega), if_pos hb])
        simpa [add, Nat.add_comm] using this
      have hd2 : (b :: r).drop (1 + n + skip (r.drop n)) = (r.drop n).drop (skip (r.drop n)) := by rw [← List.drop_drop, hdrop]
      split
      · rename_i e
        refine hk.then (by simp) (fun m' _ hs _ ho => Goes.open ?_ (by rw [hd2]; exact e))
        unfold M.tell; rw [if_neg, hs]
        rw [ho.2]; rintro ⟨_, _, h⟩; revert h; decide
      · rename_i c' q' e
        have hwc := skip_head _ _ _ e
        have hpos : ∀ m' : M, m'.pos = 4 → (m'.beg c').byte c' = if c' = 58 then { m'.beg c' with pos := 0 } else (m'.beg c').fail 0 := by
          intro m' h
          have : (m'.beg c').pos = 4 := h
          unfold M.byte
          rw [if_neg (by omega), if_neg (by omega), if_pos this, if_neg (by simp [hwc])]
        by_cases c58 : c' = 58
        · rw [if_neg (by simp [c58])]
          refine hk.then (by simp) (fun m' _ hs _ ho => ?_)
          rw [hd2, e]
          have hbb := hpos m' ho.2
          rw [if_pos c58] at hbb
          have : ((1 + n + skip (r.drop n) + 1, 4).1 - (1 + n + skip (r.drop n)), (1 + n + skip (r.drop n) + 1, 4).2) = add 1 (0, 4) := by simp [add]
          rw [this]
          refine Goes.one ?_ ?_ ?_ (Goes.here ?_ ⟨?_, ?_⟩)
          all_goals rw [feed1_open hs, hbb]
          · rfl
          · rfl
          · exact hs
          · exact hs
          · exact ho.1
        · rw [if_pos c58]
          refine hk.then (by simp) (fun m' _ hs _ ho => ?_)
          rw [hd2, e]
          have hbb := hpos m' ho.2
          rw [if_neg c58] at hbb
          simp only [Nat.sub_self]
          exact Goes.bad (.inl rfl) (by rw [feed1_open hs, hbb]; rfl) (by rw [feed1_open hs, hbb]; rfl)
    · rw [if_pos q]; exact hq.chok (by simpa [add] using q)
  · simp only [named]
    rw [if_pos c]
    have hb2 : (m.beg b).byte b = (m.beg b).fail 0 := by
      rw [hb]; unfold M.names
      rw [if_neg (by simp [hw]), if_neg c, if_neg (fun h => h3 h.2 h.1)]
    exact Goes.bad (.inl rfl) (by rw [feed1_open h1, hb2]; rfl) (by rw [feed1_open h1, hb2]; rfl)

theorem tell_open {m : M} (h1 : m.state = 1) (h : m.stack ≠ []) : m.tell = 1 := by
  unfold M.tell; rw [if_neg (fun x => h x.2.1), h1]
theorem tell_open' {m : M} (h1 : m.state = 1) (h : m.pos ≤ 10) (h5 : m.pos ≠ 5) : m.tell = 1 := by
  unfold M.tell; rw [if_neg, h1]
  rintro ⟨_, _, x | x⟩
  · exact h5 x
  · unfold ended at x; simp at x; omega
theorem behindElem_goes {st : List UInt8} {o : Bool} {next : List UInt8 → Nat × Nat} {m : M} {l : List UInt8} (h1 : m.state = 1) (h : okB (st ++ [opn o]) m l)
    (hn : ∀ (c : UInt8) (q : List UInt8) (m' : M), l.drop (skip l) = c :: q → m'.state = 1 → m'.stack = st ++ [opn o] → m'.depth = m.depth → m'.pos = lpos o false → Goes m' q (next q) (okB st)) :
    Goes m l (behindElem o next l) (okB st) := by
  have hk := behind_goes l m h1 h
  unfold behindElem
  split
  · rename_i e
    refine hk.then (by simp) (fun m' _ hs _ ho => Goes.open ?_ e)
    exact tell_open hs (by rw [ho.1]; simp)
  · rename_i c q e
    have hw := skip_head _ _ _ e
    have key : ∀ m' : M, okB (st ++ [opn o]) m' (l.drop (skip l)) → (m'.beg c).byte c = if c = close o then { m'.beg c with stack := st, pos := 5 } else if c = 44 then { m'.beg c with pos := lpos o false } else ({ m'.beg c with pos := 5 } : M).fail 0 := by
      intro m' ho
      rw [ho.2.2 c q e]
      have ht : ({ m'.beg c with pos := 5 } : M).top = opn o := by
        have : ({ m'.beg c with pos := 5 } : M).stack = st ++ [opn o] := ho.1
        exact top_opn this
      have hst : (m'.beg c).stack = st ++ [opn o] := ho.1
      unfold M.after
      simp only [ht, hw, M.pop, hst, List.dropLast_concat]
      cases o <;> by_cases c1 : c = 44 <;> by_cases c2 : c = 93 <;> by_cases c3 : c = 125 <;> simp_all [opn, close, lpos]
    by_cases c1 : c = close o
    · rw [if_pos c1]
      refine hk.then (by simp) (fun m' _ hs _ ho => ?_)
      have hb := key m' ho
      rw [if_pos c1] at hb
      rw [e]
      have : ((skip l + 1, 4).1 - skip l, (skip l + 1, 4).2) = add 1 (0, 4) := by simp [add]
      rw [this]
      refine Goes.one ?_ ?_ ?_ (Goes.here ?_ (okB_of ?_ ?_))
      all_goals rw [feed1_open hs, hb]
      all_goals first | rfl | exact hs
    · rw [if_neg c1]
      by_cases c2 : c = 44
      · rw [if_neg (by simp [c2])]
        have : add (skip l + 1) (next q) = add (skip l) (add 1 (next q)) := by simp [add]; omega
        rw [this]
        refine hk.seq (fun m' hd hs _ ho => ?_)
        have hb := key m' ho
        rw [if_neg c1, if_pos c2] at hb
        rw [e]
        refine Goes.one ?_ ?_ ?_ (hn c q _ e ?_ ?_ ?_ ?_)
        all_goals rw [feed1_open hs, hb]
        all_goals first | rfl | exact hs | exact ho.1 | exact hd
      · rw [if_pos c2]
        refine hk.then (by simp) (fun m' _ hs _ ho => ?_)
        have hb := key m' ho
        rw [if_neg c1, if_neg c2] at hb
        rw [e]
        simp only [Nat.sub_self]
        exact Goes.bad (.inl rfl) (by rw [feed1_open hs, hb]; rfl) (by rw [feed1_open hs, hb]; rfl)

/-- where a value may begin -/
def vpos (m : M) (l : List UInt8) : Prop := m.pos = 0 ∨ (m.pos = 1 ∧ ∀ b r, l.drop (skip l) = b :: r → b ≠ 93)
theorem list_goes {st : List UInt8} {o : Bool} {D : Nat} {val : List UInt8 → Nat × Nat}
    (hval : ∀ (m : M) (l : List UInt8), m.state = 1 → m.stack = st ++ [opn o] → m.depth = D → vpos m l → Goes m l (val l) (okB (st ++ [opn o]))) :
    ∀ (f : Nat) (l : List UInt8) (one : Bool) (m : M), l.length < f → m.state = 1 → m.stack = st ++ [opn o] → m.depth = D → m.pos = lpos o one →
      Goes m l (list val o f one l) (okB st) := by
  intro f
  induction f with
  | zero => intro l one m h; omega
  | succ f ih =>
    intro l one m hf h1 hst hd hp
    have hwhite : ∀ n : M, n.pos = m.pos → ∀ b, white b = true → n.byte b = n := by
      intro n hn b hb
      rw [hp] at hn
      unfold M.byte M.names
      rw [hn]
      cases o <;> cases one <;> simp [lpos, hb]
    have hk := skip_goes l m h1 hwhite
    unfold list
    split
    · rename_i e
      refine hk.then (by simp) (fun m' _ hs _ ho => Goes.open ?_ e)
      exact tell_open hs (by rw [ho.1, hst]; simp)
    · rename_i b r e
      have hw := skip_head _ _ _ e
      have hlen : r.length + 1 ≤ l.length := by
        have := congrArg List.length e; simp at this; omega
      by_cases c : one = true ∧ b = close o
      · rw [if_pos c]
        refine hk.then (by simp) (fun m' _ hs _ ho => ?_)
        rw [e]
        have hpp : (m'.beg b).pos = lpos o one := ho.2.trans hp
        have hss : (m'.beg b).stack = st ++ [opn o] := ho.1.trans hst
        have hb : (m'.beg b).byte b = { m'.beg b with stack := st, pos := 5 } := by
          unfold M.byte M.names M.pop
          rw [hpp, hss]
          obtain ⟨rfl, rfl⟩ := c
          cases o <;> simp [lpos, close, white]
        have : ((skip l + 1, 4).1 - skip l, (skip l + 1, 4).2) = add 1 (0, 4) := by simp [add]
        rw [this]
        refine Goes.one ?_ ?_ ?_ (Goes.here ?_ (okB_of ?_ ?_))
        all_goals rw [feed1_open hs, hb]
        all_goals first | rfl | exact hs
      · rw [if_neg c]
        refine hk.seq (fun m' hd' hs _ ho => ?_)
        rw [e]
        have hpp : m'.pos = lpos o one := ho.2.trans hp
        have hss : m'.stack = st ++ [opn o] := ho.1.trans hst
        have hname : Goes m' (b :: r) (named o (b :: r)) (fun m2 _ => m2.stack = st ++ [opn o] ∧ ((o = true ∧ m2.pos = 0) ∨ (o = false ∧ m2.pos = lpos o one))) := by
          cases o with
          | true =>
            refine (named_goes hs ?_ hw ?_).mono (fun _ _ h => ⟨h.1.trans hss, .inl ⟨rfl, h.2⟩⟩)
            · rw [hpp]; cases one <;> simp [lpos]
            · intro h3 h4
              rw [hpp] at h3
              cases one with
              | true => exact c ⟨rfl, h4⟩
              | false => simp [lpos] at h3
          | false => exact Goes.here hs ⟨hss, .inr ⟨rfl, hpp⟩⟩
        by_cases c4 : (named o (b :: r)).2 = 4
        · rw [if_neg (by simp [c4])]
          have eqn : named o (b :: r) = ((named o (b :: r)).1, 4) := by rw [← c4]
          rw [eqn] at hname
          have hn0 : o = false → (named o (b :: r)).1 = 0 := by rintro rfl; rfl
          generalize (named o (b :: r)).1 = n at *
          refine hname.seq (fun m2 hd2 hs2 _ ho2 => ?_)
          have hv : vpos m2 ((b :: r).drop n) := by
            rcases ho2.2 with ⟨_, h⟩ | ⟨h, h'⟩
            · exact .inl h
            · subst h
              cases one with
              | false => exact .inl h'
              | true =>
                refine .inr ⟨h', fun b' r' hbr => ?_⟩
                rw [hn0 rfl] at hbr
                have : skip (b :: r) = 0 := by rw [skip, if_neg (by simp [hw])]
                simp only [List.drop_zero, this] at hbr
                injection hbr with h1 h2
                rintro rfl
                exact c ⟨rfl, h1⟩
          have hg := hval m2 ((b :: r).drop n) hs2 ho2.1 ((hd2.trans hd').trans hd) hv
          have hl1 : ((b :: r).drop n).length ≤ r.length + 1 := by simp
          generalize hl : (b :: r).drop n = l1 at *
          simp only
          by_cases cv : (val l1).2 = 4
          · rw [if_neg (by simp [cv])]
            have eqv : val l1 = ((val l1).1, 4) := by rw [← cv]
            rw [eqv] at hg
            refine hg.seq (fun m3 hd3 hs3 _ ho3 => ?_)
            refine behindElem_goes hs3 ho3 (fun c' q' m4 e4 hs4 hst4 hd4 hp4 => ?_)
            refine ih q' false m4 ?_ hs4 hst4 ?_ hp4
            · have := congrArg List.length e4
              simp at this
              omega
            · rw [hd4, hd3, hd2, hd', hd]
          · rw [if_pos cv]; exact hg.chok cv
        · rw [if_pos c4]; exact hname.chok c4

theorem flat_goes {m : M} {b : UInt8} {r : List UInt8} (h1 : m.state = 1) (hp : m.pos = 0 ∨ (m.pos = 1 ∧ b ≠ 93)) (hw : white b = false) (c1 : b ≠ 91) (c2 : b ≠ 123) :
    Goes m (b :: r) (value.flat b r) (okB m.stack) := by
  have hb : (m.beg b).byte b = (m.beg b).first b := by
    have : (m.beg b).pos = m.pos := rfl
    unfold M.byte
    rw [if_pos (by omega), if_neg (by simp [hw]), if_neg (by rintro ⟨x, y⟩; rcases hp with h | h; omega; exact h.2 x)]
  unfold value.flat
  unfold M.first at hb
  rw [if_neg c1, if_neg c2] at hb
  by_cases d1 : b = 34
  · rw [if_pos d1] at hb ⊢
    refine Goes.one ?_ ?_ ?_ ((quote_goes r 0 _ ?_ ?_ ?_ ?_).mono ?_)
    all_goals try rw [feed1_open h1, hb]
    all_goals first | rfl | exact h1 | (intro h; omega) | omega | exact fun _ _ h => okB_of h.1 h.2
  rw [if_neg d1] at hb ⊢
  by_cases d2 : b = 45
  · rw [if_pos d2] at hb ⊢
    refine Goes.one ?_ ?_ ?_ ((number_goes r 10 _ ?_ ?_ ?_ ?_).mono ?_)
    all_goals try rw [feed1_open h1, hb]
    all_goals first | rfl | exact h1 | omega | exact fun _ _ h => ⟨h.1, .inr h.2.1, h.2.2⟩
  rw [if_neg d2] at hb ⊢
  by_cases d3 : b = 48
  · rw [if_pos d3] at hb
    have hdig : digit b = true := by rw [d3]; decide
    have : number 10 (b :: r) = add 1 (number 11 r) := by rw [number, if_pos ⟨rfl, d3⟩]
    rw [if_pos hdig, this]
    refine Goes.one ?_ ?_ ?_ ((number_goes r 11 _ ?_ ?_ ?_ ?_).mono ?_)
    all_goals try rw [feed1_open h1, hb]
    all_goals first | rfl | exact h1 | omega | exact fun _ _ h => ⟨h.1, .inr h.2.1, h.2.2⟩
  rw [if_neg d3] at hb
  by_cases d4 : digit b = true
  · rw [if_pos d4] at hb ⊢
    have : number 10 (b :: r) = add 1 (number 12 r) := by rw [number, if_neg (fun x => d3 x.2), if_pos ⟨.inl rfl, d4⟩]
    rw [this]
    refine Goes.one ?_ ?_ ?_ ((number_goes r 12 _ ?_ ?_ ?_ ?_).mono ?_)
    all_goals try rw [feed1_open h1, hb]
    all_goals first | rfl | exact h1 | omega | exact fun _ _ h => ⟨h.1, .inr h.2.1, h.2.2⟩
  rw [if_neg d4] at hb ⊢
  have wd : ∀ w : List UInt8, w ≠ [] → (m.beg b).byte b = { m.beg b with pos := 9, rest := w } → Goes m (b :: r) (word (b :: r) (b :: w)) (okB m.stack) := by
    intro w hne h
    have : word (b :: r) (b :: w) = add 1 (word r w) := by rw [word, if_pos rfl]; rfl
    rw [this]
    refine Goes.one ?_ ?_ ?_ ((word_goes r w _ ?_ ?_ ?_ hne).mono ?_)
    all_goals try rw [feed1_open h1, h]
    all_goals first | rfl | exact h1 | exact fun _ _ h => okB_of h.1 h.2
  by_cases d5 : b = 116
  · rw [if_pos d5] at hb ⊢; subst d5; exact wd _ (by simp) hb
  rw [if_neg d5] at hb ⊢
  by_cases d6 : b = 102
  · rw [if_pos d6] at hb ⊢; subst d6; exact wd _ (by simp) hb
  rw [if_neg d6] at hb ⊢
  by_cases d7 : b = 110
  · rw [if_pos d7] at hb ⊢; subst d7; exact wd _ (by simp) hb
  rw [if_neg d7] at hb ⊢
  exact Goes.bad (.inl rfl) (by rw [feed1_open h1, hb]; rfl) (by rw [feed1_open h1, hb]; rfl)

theorem value_skip {m : M} {l : List UInt8} (h1 : m.state = 1) (hp : vpos m l) : Goes m l (skip l, 4) (fun m' _ => m'.stack = m.stack ∧ m'.pos = m.pos) := by
  refine skip_goes l m h1 (fun n hn b hb => ?_)
  unfold M.byte
  rw [if_pos (by rcases hp with h | h <;> omega), if_pos hb]
theorem value_goes (D : Nat) : ∀ (d : Nat) (st : List UInt8), st.length + d = D → ∀ (m : M) (l : List UInt8), m.state = 1 → m.stack = st → m.depth = D → vpos m l →
    Goes m l (value d l) (okB st) := by
  intro d
  induction d with
  | zero =>
    intro st hD m l h1 hst hd hp
    have hk := value_skip h1 hp
    unfold value
    split
    · rename_i e
      refine hk.then (by simp) (fun m' _ hs _ ho => Goes.open ?_ e)
      have : m'.pos = m.pos := ho.2
      exact tell_open' hs (by rcases hp with h | h <;> omega) (by rcases hp with h | h <;> omega)
    · rename_i b r e
      have hw := skip_head _ _ _ e
      have hpos : ∀ m' : M, m'.pos = m.pos → (m'.pos = 0 ∨ (m'.pos = 1 ∧ b ≠ 93)) := by
        intro m' h
        rcases hp with h' | ⟨h', h''⟩
        · exact .inl (h.trans h')
        · exact .inr ⟨h.trans h', h'' b r e⟩
      by_cases c : b = 91 ∨ b = 123
      · rw [if_pos c]
        refine hk.then (by simp) (fun m' hd' hs _ ho => ?_)
        rw [e]
        simp only [Nat.sub_self]
        have hb : (m'.beg b).byte b = (m'.beg b).fail 3 := by
          have hx := hpos (m'.beg b) ho.2
          unfold M.byte
          rw [if_pos (by omega), if_neg (by simp [hw]), if_neg (by rintro ⟨x, y⟩; rcases hx with h | h; omega; exact h.2 x)]
          have hlen : (m'.beg b).stack.length = (m'.beg b).depth := by
            show m'.stack.length = m'.depth
            rw [ho.1, hst, hd', hd]; omega
          unfold M.first M.push
          rcases c with rfl | rfl <;> simp [hlen]
        exact Goes.bad (.inr rfl) (by rw [feed1_open hs, hb]; rfl) (by rw [feed1_open hs, hb]; rfl)
      · rw [if_neg c]
        refine hk.seq (fun m' hd' hs _ ho => ?_)
        rw [e]
        have := flat_goes (r := r) hs (hpos m' ho.2) hw (fun h => c (.inl h)) (fun h => c (.inr h))
        rwa [ho.1, hst] at this
  | succ d ih =>
    intro st hD m l h1 hst hd hp
    have hk := value_skip h1 hp
    unfold value
    split
    · rename_i e
      refine hk.then (by simp) (fun m' _ hs _ ho => Goes.open ?_ e)
      have : m'.pos = m.pos := ho.2
      exact tell_open' hs (by rcases hp with h | h <;> omega) (by rcases hp with h | h <;> omega)
    · rename_i b r e
      have hw := skip_head _ _ _ e
      have hpos : ∀ m' : M, m'.pos = m.pos → (m'.pos = 0 ∨ (m'.pos = 1 ∧ b ≠ 93)) := by
        intro m' h
        rcases hp with h' | ⟨h', h''⟩
        · exact .inl (h.trans h')
        · exact .inr ⟨h.trans h', h'' b r e⟩
      by_cases c : b = 91 ∨ b = 123
      · rw [if_pos c]
        have : add (skip l + 1) (list (value d) (b == 123) (r.length + 1) true r) = add (skip l) (add 1 (list (value d) (b == 123) (r.length + 1) true r)) := by simp [add]; omega
        rw [this]
        refine hk.seq (fun m' hd' hs _ ho => ?_)
        rw [e]
        have hb : (m'.beg b).byte b = { m'.beg b with stack := st ++ [opn (b == 123)], pos := lpos (b == 123) true } := by
          have hx := hpos (m'.beg b) ho.2
          have hstk : (m'.beg b).stack = st := ho.1.trans hst
          unfold M.byte
          rw [if_pos (by omega), if_neg (by simp [hw]), if_neg (by rintro ⟨x, y⟩; rcases hx with h | h; omega; exact h.2 x)]
          have hlen : ¬ (m'.beg b).stack.length = (m'.beg b).depth := by
            show ¬ m'.stack.length = m'.depth
            rw [ho.1, hst, hd', hd]; omega
          unfold M.first M.push
          rw [hstk] at hlen ⊢
          rcases c with rfl | rfl <;> simp [hlen, opn, lpos]
        refine Goes.one ?_ ?_ ?_ (list_goes (st := st) (o := b == 123) (D := D) (ih (st ++ [opn (b == 123)]) (by simp; omega)) (r.length + 1) r true _ (by omega) ?_ ?_ ?_ ?_)
        all_goals rw [feed1_open hs, hb]
        all_goals first | rfl | exact hs | exact hd'.trans hd
      · rw [if_neg c]
        refine hk.seq (fun m' hd' hs _ ho => ?_)
        rw [e]
        have := flat_goes (r := r) hs (hpos m' ho.2) hw (fun h => c (.inl h)) (fun h => c (.inr h))
        rwa [ho.1, hst] at this

/-- THE LAW: the machine tells what the reference tells. -/
theorem whole_eq (l : List UInt8) (d : Nat) : (((M.start d).feed l).tell, ((M.start d).feed l).place) = whole l d := by
  have h := value_goes d d [] (by simp) (M.start d) l rfl rfl rfl (.inl rfl)
  unfold whole
  rcases h with ⟨h4, hn, m', hf, hd, hs, hp, he, ho⟩ | ⟨h1, ht, hp⟩ | ⟨h0, hs, hp, hl⟩
  · simp only [h4]
    rw [if_neg (by decide), if_neg (by decide)]
    rw [hf]
    have hk := behind_goes _ m' hs ho
    generalize hl2 : l.drop (value d l).1 = l2 at *
    have hlen : l2.length = l.length - (value d l).1 := by rw [← hl2]; simp
    rcases hk with ⟨_, hn2, m2, hf2, hd2, hs2, hp2, he2, ho2⟩ | ⟨h, _⟩ | ⟨h, _⟩
    · simp only at hn2 hf2 he2 ho2
      rw [hf2]
      cases e : l2.drop (skip l2) with
      | nil =>
        have : ¬ ((value d l).1 + skip l2 < l.length) := by
          have := congrArg List.length e; simp at this; omega
        rw [if_neg this]
        show (m2.tell, m2.place) = (2, -1)
        have : m2.tell = 2 := by
          unfold M.tell; rw [if_pos ⟨hs2, ho2.1, ho2.2.1⟩]
        rw [this, hp2, hp]; rfl
      | cons c q =>
        have : (value d l).1 + skip l2 < l.length := by
          have := congrArg List.length e; simp at this; omega
        rw [if_pos this]
        have hw := skip_head _ _ _ e
        have hb : (m2.beg c).byte c = ({ m2.beg c with pos := 5 } : M).fail 0 := by
          rw [ho2.2.2 c q e]
          have ht : ({ m2.beg c with pos := 5 } : M).top = 0 := by
            have : ({ m2.beg c with pos := 5 } : M).stack = [] := ho2.1
            unfold M.top; rw [this]; rfl
          unfold M.after
          simp [ht, hw]
        rw [feed_cons]
        have hst : (m2.feed1 c).state = 0 := by rw [feed1_open hs2, hb]; rfl
        have hpl : (m2.feed1 c).place = m2.seen := by rw [feed1_open hs2, hb]; rfl
        have := feed_stuck q (m2.feed1 c) (by omega)
        have ht : ((m2.feed1 c).feed q).tell = 0 := by
          unfold M.tell; rw [if_neg (fun x => by rw [this.1, hst] at x; omega), this.1, hst]
        rw [ht, this.2, hpl, he2, he]
        simp [M.start]
    · simp at h
    · simp at h
  · rw [if_pos h1, ht, hp]; rfl
  · rw [if_neg (by rcases h0 with h | h <;> omega), if_pos (by rcases h0 with h | h <;> omega)]
    have : ((M.start d).feed l).tell = (value d l).2 := by
      unfold M.tell; rw [if_neg (fun x => by rw [hs] at x; rcases h0 with h | h <;> omega), hs]
    rw [this, hp]; simp [M.start]

/-! What holds of each machine that bytes are fed to. -/
structure JWF (m : M) : Prop where
  hex : m.hex ≤ 4
  hex1 : m.pos = 8 → 1 ≤ m.hex
  rest : m.pos = 9 → m.rest ≠ []
  rlen : m.rest.length ≤ 5
  first : m.pos = 1 ∨ m.pos = 3 → m.stack ≠ []
  len : m.stack.length ≤ m.depth
  depth : m.depth ≤ 200
  pos : m.pos ≤ 17
  state : m.state ≤ 3
theorem JWF.at {m : M} (h : JWF m) (p : Nat) (hp : p ≤ 17) (h1 : p ≠ 1) (h3 : p ≠ 3) (h8 : p ≠ 8) (h9 : p ≠ 9) : JWF { m with pos := p } :=
  ⟨h.hex, fun e => absurd e h8, fun e => absurd e h9, h.rlen, fun e => by rcases e with e | e; exact absurd e h1; exact absurd e h3, h.len, h.depth, hp, h.state⟩
theorem JWF.fail {m : M} (h : JWF m) (s : Nat) (hs : s ≤ 3) : JWF (m.fail s) := ⟨h.hex, h.hex1, h.rest, h.rlen, h.first, h.len, h.depth, h.pos, hs⟩
theorem JWF.pop {m : M} (h : JWF m) : JWF m.pop :=
  ⟨h.hex, fun e => by simp [M.pop] at e, fun e => by simp [M.pop] at e, h.rlen, fun e => by simp [M.pop] at e, by have := h.len; simp [M.pop]; omega, h.depth, by simp [M.pop], h.state⟩
theorem JWF.push {m : M} (h : JWF m) (b : UInt8) (p : Nat) (hp : p ≤ 17) (h8 : p ≠ 8) (h9 : p ≠ 9) : JWF (m.push b p) := by
  unfold M.push
  split
  · exact h.fail 3 (by omega)
  · exact ⟨h.hex, fun e => absurd e h8, fun e => absurd e h9, h.rlen, fun _ => by simp, by have := h.len; simp; omega, h.depth, hp, h.state⟩
theorem JWF.key {m : M} (h : JWF m) (k : Bool) : JWF { m with key := k } := ⟨h.hex, h.hex1, h.rest, h.rlen, h.first, h.len, h.depth, h.pos, h.state⟩
theorem JWF.beg {m : M} (h : JWF m) (b : UInt8) : JWF (m.beg b) := ⟨h.hex, h.hex1, h.rest, h.rlen, h.first, h.len, h.depth, h.pos, h.state⟩
theorem JWF.saw {m : M} (h : JWF m) (n : Nat) : JWF { m with seen := n } := ⟨h.hex, h.hex1, h.rest, h.rlen, h.first, h.len, h.depth, h.pos, h.state⟩
theorem JWF.after {m : M} (h : JWF m) (b : UInt8) : JWF (m.after b) := by
  have h5 := h.at 5 (by omega) (by omega) (by omega) (by omega) (by omega)
  unfold M.after
  simp only
  repeat' split
  · exact h5
  · exact h.at 0 (by omega) (by omega) (by omega) (by omega) (by omega)
  · exact h.at 2 (by omega) (by omega) (by omega) (by omega) (by omega)
  · exact h5.pop
  · exact h5.fail 0 (by omega)
theorem jwf_ite {c : Prop} [Decidable c] {a b : M} (h1 : JWF a) (h2 : JWF b) : JWF (if c then a else b) := by split <;> assumption
theorem JWF.byte {m : M} (h : JWF m) (b : UInt8) : JWF (m.byte b) := by
  unfold M.byte
  by_cases c1 : m.pos = 0 ∨ m.pos = 1
  · rw [if_pos c1]
    unfold M.first
    have w : ∀ r : List UInt8, r ≠ [] → r.length ≤ 5 → JWF { m with pos := 9, rest := r } := fun r hr hl =>
      ⟨h.hex, fun e => by simp at e, fun _ => hr, hl, fun e => by simp at e, h.len, h.depth, by simp, h.state⟩
    repeat' (with_reducible refine jwf_ite ?_ ?_)
    · exact h
    · exact h.pop
    · exact h.push _ _ (by omega) (by omega) (by omega)
    · exact h.push _ _ (by omega) (by omega) (by omega)
    · exact (h.at 6 (by omega) (by omega) (by omega) (by omega) (by omega)).key false
    · exact h.at 10 (by omega) (by omega) (by omega) (by omega) (by omega)
    · exact h.at 11 (by omega) (by omega) (by omega) (by omega) (by omega)
    · exact h.at 12 (by omega) (by omega) (by omega) (by omega) (by omega)
    · exact w _ (by simp) (by simp)
    · exact w _ (by simp) (by simp)
    · exact w _ (by simp) (by simp)
    · exact h.fail 0 (by omega)
  rw [if_neg c1]
  by_cases c2 : m.pos = 2 ∨ m.pos = 3
  · rw [if_pos c2]
    unfold M.names
    repeat' split
    · exact h
    · exact (h.at 6 (by omega) (by omega) (by omega) (by omega) (by omega)).key true
    · exact h.pop
    · exact h.fail 0 (by omega)
  rw [if_neg c2]
  by_cases c3 : m.pos = 4
  · rw [if_pos c3]
    repeat' split
    · exact h
    · exact h.at 0 (by omega) (by omega) (by omega) (by omega) (by omega)
    · exact h.fail 0 (by omega)
  rw [if_neg c3]
  by_cases c4 : m.pos = 5
  · rw [if_pos c4]; exact h.after b
  rw [if_neg c4]
  by_cases c5 : m.pos = 6
  · rw [if_pos c5]
    unfold M.inText
    repeat' split
    · exact h.at 4 (by omega) (by omega) (by omega) (by omega) (by omega)
    · exact h.at 5 (by omega) (by omega) (by omega) (by omega) (by omega)
    · exact h.at 7 (by omega) (by omega) (by omega) (by omega) (by omega)
    · exact h.fail 0 (by omega)
    · exact h
  rw [if_neg c5]
  by_cases c6 : m.pos = 7
  · rw [if_pos c6]
    unfold M.inSlash
    repeat' split
    · exact ⟨by simp, fun _ => by simp, fun e => by simp at e, h.rlen, fun e => by simp at e, h.len, h.depth, by simp, h.state⟩
    · exact h.at 6 (by omega) (by omega) (by omega) (by omega) (by omega)
    · exact h.fail 0 (by omega)
  rw [if_neg c6]
  by_cases c7 : m.pos = 8
  · rw [if_pos c7]
    unfold M.inUnicode
    have := h.hex
    repeat' split
    · exact ⟨by simp; omega, fun e => by simp at e, fun e => by simp at e, h.rlen, fun e => by simp at e, h.len, h.depth, by simp, h.state⟩
    · exact ⟨by simp; omega, fun _ => by simp; omega, fun e => by simp [c7] at e, h.rlen, fun e => by simp [c7] at e, h.len, h.depth, h.pos, h.state⟩
    · exact h.fail 0 (by omega)
  rw [if_neg c7]
  by_cases c8 : m.pos = 9
  · rw [if_pos c8]
    unfold M.inWord
    have := h.rlen
    repeat' split
    · exact ⟨h.hex, fun e => by simp at e, fun e => by simp at e, by simp; omega, fun e => by simp at e, h.len, h.depth, by simp, h.state⟩
    · exact ⟨h.hex, fun e => by simp [c8] at e, fun _ => by assumption, by simp; omega, fun e => by simp [c8] at e, h.len, h.depth, h.pos, h.state⟩
    · exact h.fail 0 (by omega)
  rw [if_neg c8]
  unfold M.inNumber
  repeat' split
  · exact h.at 11 (by omega) (by omega) (by omega) (by omega) (by omega)
  · exact h.at 12 (by omega) (by omega) (by omega) (by omega) (by omega)
  · exact h.at 14 (by omega) (by omega) (by omega) (by omega) (by omega)
  · exact h.at 17 (by omega) (by omega) (by omega) (by omega) (by omega)
  · exact h.at 16 (by omega) (by omega) (by omega) (by omega) (by omega)
  · exact h.at 13 (by omega) (by omega) (by omega) (by omega) (by omega)
  · exact h.at 15 (by omega) (by omega) (by omega) (by omega) (by omega)
  · exact h.after b
  · exact h.fail 0 (by omega)
theorem JWF.feed1 {m : M} (h : JWF m) (b : UInt8) : JWF (m.feed1 b) := by
  unfold M.feed1
  simp only
  split
  · exact ((h.beg b).byte b).saw _
  · exact (h.beg b).saw _
theorem JWF.feed {l : List UInt8} : ∀ {m : M}, JWF m → JWF (m.feed l) := by
  induction l with
  | nil => intro m h; exact h
  | cons b r ih => intro m h; exact ih (h.feed1 b)
theorem JWF.start {d : Nat} (h : d ≤ 200) : JWF (M.start d) := ⟨by simp [M.start], fun _ => by simp_all [M.start], fun _ => by simp_all [M.start], by simp [M.start], fun e => by simp [M.start] at e, by simp [M.start], h, by simp [M.start], by simp [M.start]⟩
theorem seen_feed (l : List UInt8) : ∀ m : M, (m.feed l).seen = m.seen + l.length := by
  induction l with
  | nil => intro m; rfl
  | cons b r ih => intro m; rw [feed_cons, ih, seen_feed1]; simp; omega
theorem depth_feed1 (m : M) (b : UInt8) : (m.feed1 b).depth = m.depth := by
  have : ∀ n : M, (n.byte b).depth = n.depth := by
    intro n
    unfold M.byte M.names M.inText M.inSlash M.inUnicode M.inWord M.first M.inNumber M.after M.push M.pop M.fail
    simp only [apply_ite M.depth, ite_self]
  unfold M.feed1
  simp only
  split
  · exact this _
  · rfl
theorem depth_feed (l : List UInt8) : ∀ m : M, (m.feed l).depth = m.depth := by
  induction l with
  | nil => intro m; rfl
  | cons b r ih => intro m; rw [feed_cons, ih, depth_feed1]
/-- the first byte but what parts -/
theorem begun_byte (m : M) (b : UInt8) : (m.byte b).begun = m.begun := by
  unfold M.byte M.names M.inText M.inSlash M.inUnicode M.inWord M.first M.inNumber M.after M.push M.pop M.fail
  simp only [apply_ite M.begun, ite_self]
theorem begun_feed (l : List UInt8) : ∀ m : M, (m.feed l).begun = (m.begun || decide (skip l < l.length)) := by
  induction l with
  | nil => intro m; simp [feed_nil]
  | cons b r ih =>
    intro m
    have h1 : (m.feed1 b).begun = (m.begun || !white b) := by
      unfold M.feed1; simp only; split
      · rw [begun_byte]
      · rfl
    have hs : skip (b :: r) = if white b = true then skip r + 1 else 0 := rfl
    rw [feed_cons, ih, h1, hs]
    by_cases e : white b = true
    · simp [e]
    · simp [e]
/-- where it is bad, once it is -/
theorem place_byte (m : M) (b : UInt8) (h1 : m.state = 1) : (m.byte b).state = 1 ∧ (m.byte b).place = m.place ∨ (m.byte b).state ≠ 1 ∧ (m.byte b).place = m.seen := by
  have hf : ∀ s : Nat, s ≠ 1 → (m.fail s).state ≠ 1 ∧ (m.fail s).place = m.seen := fun s hs => ⟨hs, rfl⟩
  have hp : ∀ (c : UInt8) (p : Nat), (m.push c p).state = 1 ∧ (m.push c p).place = m.place ∨ (m.push c p).state ≠ 1 ∧ (m.push c p).place = m.seen := by
    intro c p; unfold M.push; split
    · exact .inr (hf 3 (by omega))
    · exact .inl ⟨h1, rfl⟩
  have ha : (m.after b).state = 1 ∧ (m.after b).place = m.place ∨ (m.after b).state ≠ 1 ∧ (m.after b).place = m.seen := by
    unfold M.after; simp only; repeat' split
    all_goals first | exact .inl ⟨h1, rfl⟩ | exact .inr (hf 0 (by omega)) | exact .inr ⟨by simp [M.fail], rfl⟩
  have hi : ∀ (c : Prop) [Decidable c] (x y : M), (x.state = 1 ∧ x.place = m.place ∨ x.state ≠ 1 ∧ x.place = m.seen) → (y.state = 1 ∧ y.place = m.place ∨ y.state ≠ 1 ∧ y.place = m.seen) →
      ((if c then x else y).state = 1 ∧ (if c then x else y).place = m.place ∨ (if c then x else y).state ≠ 1 ∧ (if c then x else y).place = m.seen) := by
    intro c _ x y hx hy; split <;> assumption
  unfold M.byte
  by_cases c1 : m.pos = 0 ∨ m.pos = 1
  · rw [if_pos c1]; unfold M.first; repeat' (with_reducible refine hi _ _ _ ?_ ?_)
    all_goals first | exact .inl ⟨h1, rfl⟩ | exact .inr (hf 0 (by omega)) | exact hp _ _
  rw [if_neg c1]
  by_cases c2 : m.pos = 2 ∨ m.pos = 3
  · rw [if_pos c2]; unfold M.names; repeat' split
    all_goals first | exact .inl ⟨h1, rfl⟩ | exact .inr (hf 0 (by omega))
  rw [if_neg c2]
  by_cases c3 : m.pos = 4
  · rw [if_pos c3]; repeat' split
    all_goals first | exact .inl ⟨h1, rfl⟩ | exact .inr (hf 0 (by omega))
  rw [if_neg c3]
  by_cases c4 : m.pos = 5
  · rw [if_pos c4]; exact ha
  rw [if_neg c4]
  by_cases c5 : m.pos = 6
  · rw [if_pos c5]; unfold M.inText; repeat' split
    all_goals first | exact .inl ⟨h1, rfl⟩ | exact .inr (hf 0 (by omega))
  rw [if_neg c5]
  by_cases c6 : m.pos = 7
  · rw [if_pos c6]; unfold M.inSlash; repeat' split
    all_goals first | exact .inl ⟨h1, rfl⟩ | exact .inr (hf 0 (by omega))
  rw [if_neg c6]
  by_cases c7 : m.pos = 8
  · rw [if_pos c7]; unfold M.inUnicode; repeat' split
    all_goals first | exact .inl ⟨h1, rfl⟩ | exact .inr (hf 0 (by omega))
  rw [if_neg c7]
  by_cases c8 : m.pos = 9
  · rw [if_pos c8]; unfold M.inWord; repeat' split
    all_goals first | exact .inl ⟨h1, rfl⟩ | exact .inr (hf 0 (by omega))
  rw [if_neg c8]
  unfold M.inNumber; repeat' split
  all_goals first | exact .inl ⟨h1, rfl⟩ | exact ha | exact .inr (hf 0 (by omega))
theorem place_feed (l : List UInt8) : ∀ m : M, m.state = 1 → (m.feed l).state = 1 ∧ (m.feed l).place = m.place ∨ (m.feed l).state ≠ 1 ∧ (m.seen : Int) ≤ (m.feed l).place ∧ (m.feed l).place < m.seen + l.length := by
  induction l with
  | nil => intro m h; exact .inl ⟨h, rfl⟩
  | cons b r ih =>
    intro m h
    rw [feed_cons]
    have hb := place_byte (m.beg b) b h
    have he : m.feed1 b = { (m.beg b).byte b with seen := m.seen + 1 } := feed1_open h
    rcases hb with ⟨h1, h2⟩ | ⟨h1, h2⟩
    · have hs : (m.feed1 b).state = 1 := by rw [he]; exact h1
      have hp : (m.feed1 b).place = m.place := by rw [he]; exact h2
      have hn := seen_feed1 m b
      rcases ih (m.feed1 b) hs with ⟨k1, k2⟩ | ⟨k1, k2, k3⟩
      · exact .inl ⟨k1, by rw [k2, hp]⟩
      · refine .inr ⟨k1, ?_, ?_⟩
        · rw [hn] at k2; omega
        · rw [hn] at k3; simp; omega
    · have hs : (m.feed1 b).state ≠ 1 := by rw [he]; exact h1
      have hp : (m.feed1 b).place = m.seen := by rw [he]; exact h2
      have := feed_stuck r _ hs
      refine .inr ⟨by rw [this.1]; exact hs, ?_, ?_⟩
      · rw [this.2, hp]; omega
      · rw [this.2, hp]; simp; omega
end Tg.Json
/-
  The plain law of layer 27: a number by runs of digits is the number byte by byte.
-/
set_option linter.unusedSimpArgs false
set_option linter.unusedVariables false
namespace Tg.Json
def digits : List UInt8 → Nat
  | [] => 0
  | b :: r => if digit b then digits r + 1 else 0
def run (l : List UInt8) : Nat × Nat :=
  match l with
  | [] => (0, 1)
  | b :: _ => if digit b then (digits l, 4) else (0, 0)
/-- a number behind its sign, by runs of digits -/
def expPart (l : List UInt8) : Nat × Nat :=
  match l with
  | [] => (0, 4)
  | c :: r =>
    if c.toNat = 101 ∨ c.toNat = 69 then
      (match r with
       | [] => add 1 (run r)
       | d :: q => if d.toNat = 43 ∨ d.toNat = 45 then add 2 (run q) else add 1 (run r))
    else (0, 4)
def pointPart (l : List UInt8) : Nat × Nat :=
  match l with
  | [] => expPart l
  | c :: r => if c.toNat = 46 then (if (run r).2 = 4 then add (1 + (run r).1) (expPart (r.drop (run r).1)) else add 1 (run r)) else expPart l
def intPart (l : List UInt8) : Nat × Nat :=
  match l with
  | [] => run l
  | c :: r => if (run l).2 = 4 then (if c.toNat = 48 then add 1 (pointPart r) else add (run l).1 (pointPart (l.drop (run l).1))) else run l
theorem run_cases (l : List UInt8) : (run l).2 = 4 ∧ l ≠ [] ∨ (run l).2 ≠ 4 := by
  unfold run; split
  · exact .inr (by decide)
  · split
    · exact .inl ⟨rfl, by simp⟩
    · exact .inr (by decide)
theorem digits_le (l : List UInt8) : digits l ≤ l.length := by
  induction l with
  | nil => simp [digits]
  | cons b r ih => unfold digits; split <;> simp <;> omega
theorem run_le (l : List UInt8) : (run l).1 ≤ l.length := by
  unfold run; split
  · simp
  · split
    · exact digits_le _
    · simp

theorem add_add (a b : Nat) (x : Nat × Nat) : add a (add b x) = add (a + b) x := by simp only [add]; congr 1; omega
theorem add_zero (x : Nat × Nat) : add 0 x = x := rfl
theorem isE_iff (b : UInt8) : isE b = true ↔ (b.toNat = 101 ∨ b.toNat = 69) := by
  simp [isE, ← UInt8.toNat_inj]
theorem u8n (b k : UInt8) : b = k ↔ b.toNat = k.toNat := UInt8.toNat_inj.symm
theorem number_cons (p : Nat) (b : UInt8) (r : List UInt8) : number p (b :: r) =
    if p = 10 ∧ b = 48 then add 1 (number 11 r)
    else if (p = 10 ∨ p = 12) ∧ digit b then add 1 (number 12 r)
    else if (p = 13 ∨ p = 14) ∧ digit b then add 1 (number 14 r)
    else if (p = 15 ∨ p = 16 ∨ p = 17) ∧ digit b then add 1 (number 17 r)
    else if p = 15 ∧ (b = 43 ∨ b = 45) then add 1 (number 16 r)
    else if (p = 11 ∨ p = 12) ∧ b = 46 then add 1 (number 13 r)
    else if (p = 11 ∨ p = 12 ∨ p = 14) ∧ isE b then add 1 (number 15 r)
    else if ended p then (0, 4)
    else (0, 0) := rfl
theorem num17 (l : List UInt8) : number 17 l = (digits l, 4) := by
  induction l with
  | nil => rfl
  | cons b r ih =>
    rw [number_cons]; unfold digits
    by_cases h : digit b = true
    · simp [h, ih, add]
    · simp [h, ended]
theorem num16 (l : List UInt8) : number 16 l = run l := by
  cases l with
  | nil => rfl
  | cons b r =>
    rw [number_cons]; unfold run
    by_cases h : digit b = true
    · simp [h, num17, add, digits]
    · simp [h, ended]
theorem num15 (l : List UInt8) : number 15 l = (match l with
    | [] => run []
    | d :: q => if d.toNat = 43 ∨ d.toNat = 45 then add 1 (run q) else run (d :: q)) := by
  cases l with
  | nil => rfl
  | cons b r =>
    have h1 : (b = 43 ∨ b = 45) ↔ (b.toNat = 43 ∨ b.toNat = 45) := by simp only [u8n, UInt8.reduceToNat]
    rw [number_cons]
    by_cases h : digit b = true
    · have h2 : ¬ (b.toNat = 43 ∨ b.toNat = 45) := by
        intro hh
        simp only [digit, UInt8.le_iff_toNat_le, UInt8.reduceToNat, Bool.and_eq_true, decide_eq_true_eq] at h
        omega
      simp [h, h2, num17, run, add, digits]
    · by_cases h2 : (b = 43 ∨ b = 45)
      · have h3 := h1.1 h2
        simp [h, h2, h3, num16]
      · have h3 := fun x => h2 (h1.2 x)
        show _ = if b.toNat = 43 ∨ b.toNat = 45 then _ else _
        rw [if_neg h3]
        simp [h, h2, ended, isE, run]
theorem exp_eq (p : Nat) (hp : p = 11 ∨ p = 14) (b : UInt8) (r : List UInt8) (h46 : p = 11 → b ≠ 46) (hd : p = 14 → digit b = false) : number p (b :: r) = expPart (b :: r) := by
  rw [number_cons]; unfold expPart
  have hE := isE_iff b
  by_cases h : isE b = true
  · have h2 := hE.1 h
    have hx := num15 r
    rcases hp with rfl | rfl
    · have := h46 rfl
      simp only [h, h2, this, if_true]
      simp
      rw [hx]
      cases r with
      | nil => rfl
      | cons d q => simp only; split <;> simp [add_add]
    · have := hd rfl
      simp only [h, h2, this, if_true]
      simp
      rw [hx]
      cases r with
      | nil => rfl
      | cons d q => simp only; split <;> simp [add_add]
  · have h2 := fun x => h (hE.2 x)
    rcases hp with rfl | rfl
    · have := h46 rfl
      simp only; rw [if_neg h2]
      simp [h, this, ended]
    · have := hd rfl
      simp only; rw [if_neg h2]
      simp [h, this, ended]
theorem num14 (l : List UInt8) : number 14 l = add (digits l) (expPart (l.drop (digits l))) := by
  induction l with
  | nil => rfl
  | cons b r ih =>
    by_cases h : digit b = true
    · have e : digits (b :: r) = digits r + 1 := by rw [digits, if_pos h]
      have : number 14 (b :: r) = add 1 (number 14 r) := by rw [number_cons]; simp [h]
      rw [this, ih, e, add_add, Nat.add_comm]; rfl
    · have e : digits (b :: r) = 0 := by rw [digits, if_neg h]
      rw [e, exp_eq 14 (.inr rfl) b r (by simp) (fun _ => by simpa using h)]; rfl
theorem num13 (r : List UInt8) : number 13 r = if (run r).2 = 4 then add (run r).1 (expPart (r.drop (run r).1)) else run r := by
  cases r with
  | nil => rfl
  | cons b r =>
    by_cases h : digit b = true
    · have e : run (b :: r) = (digits (b :: r), 4) := by rw [run, if_pos h]
      have e2 : digits (b :: r) = digits r + 1 := by rw [digits, if_pos h]
      have : number 13 (b :: r) = add 1 (number 14 r) := by rw [number_cons]; simp [h]
      rw [this, e, if_pos rfl, num14, add_add, e2, Nat.add_comm]; rfl
    · have e : run (b :: r) = (0, 0) := by rw [run, if_neg h]
      rw [e, if_neg (by decide)]
      rw [number_cons]; simp [h, ended]
theorem num11 (l : List UInt8) : number 11 l = pointPart l := by
  cases l with
  | nil => rfl
  | cons b r =>
    by_cases h : b = 46
    · have h' : b.toNat = 46 := by rw [h]; rfl
      have : number 11 (b :: r) = add 1 (number 13 r) := by rw [number_cons]; simp [h]
      unfold pointPart
      simp only
      rw [this, if_pos h', num13]
      split
      · rw [add_add]
      · rfl
    · have h' : ¬ b.toNat = 46 := fun x => h (by rw [u8n]; exact x)
      rw [exp_eq 11 (.inl rfl) b r (fun _ => h) (by simp)]
      show _ = pointPart (b :: r)
      unfold pointPart; simp only; rw [if_neg h']
theorem num12 (l : List UInt8) : number 12 l = add (digits l) (pointPart (l.drop (digits l))) := by
  induction l with
  | nil => rfl
  | cons b r ih =>
    by_cases h : digit b = true
    · have e : digits (b :: r) = digits r + 1 := by rw [digits, if_pos h]
      have : number 12 (b :: r) = add 1 (number 12 r) := by rw [number_cons]; simp [h]
      rw [this, ih, e, add_add, Nat.add_comm]; rfl
    · have e : digits (b :: r) = 0 := by rw [digits, if_neg h]
      rw [e]
      show _ = pointPart (b :: r)
      rw [← num11, number_cons, number_cons]; simp [h, ended]
theorem num10 (l : List UInt8) : number 10 l = intPart l := by
  cases l with
  | nil => rfl
  | cons b r =>
    unfold intPart
    simp only
    by_cases h : digit b = true
    · have e : run (b :: r) = (digits (b :: r), 4) := by rw [run, if_pos h]
      have e2 : digits (b :: r) = digits r + 1 := by rw [digits, if_pos h]
      rw [e, if_pos rfl]
      by_cases h48 : b = 48
      · have h' : b.toNat = 48 := by rw [h48]; rfl
        have : number 10 (b :: r) = add 1 (number 11 r) := by rw [number_cons]; simp [h48]
        rw [this, if_pos h', num11]
      · have h' : ¬ b.toNat = 48 := fun x => h48 (by rw [u8n]; exact x)
        have : number 10 (b :: r) = add 1 (number 12 r) := by rw [number_cons]; simp [h48, h]
        rw [this, if_neg h', num12, e2, add_add, Nat.add_comm]; rfl
    · have e : run (b :: r) = (0, 0) := by rw [run, if_neg h]
      rw [e, if_neg (by decide)]
      have : b ≠ 48 := by rintro rfl; exact h (by decide)
      rw [number_cons]; simp [h, this, ended]
end Tg.Json
/-
  The reference for JSON: what its functions compute.
-/
set_option linter.unusedSimpArgs false
set_option linter.unusedVariables false
namespace Go.Proofs.YtgnefbngkhjfcaaGreatDoor
open Go.RowKit Go.Tg Tg.Json

theorem u8_iff (c k : UInt8) : (c = k) ↔ c.toNat = k.toNat := UInt8.toNat_inj.symm

theorem white_nat (c : UInt8) : white c = decide (c.toNat = 32 ∨ c.toNat = 9 ∨ c.toNat = 10 ∨ c.toNat = 13) := by
  rw [Bool.eq_iff_iff]; simp [white, u8_iff]; omega
theorem digit_nat (c : UInt8) : digit c = decide (48 ≤ c.toNat ∧ c.toNat ≤ 57) := by
  rw [Bool.eq_iff_iff]; simp [digit, UInt8.le_iff_toNat_le]
theorem hex_nat (c : UInt8) : hex c = decide ((48 ≤ c.toNat ∧ c.toNat ≤ 57) ∨ (97 ≤ c.toNat ∧ c.toNat ≤ 102) ∨ (65 ≤ c.toNat ∧ c.toNat ≤ 70)) := by
  rw [Bool.eq_iff_iff]; simp [hex, digit, UInt8.le_iff_toNat_le]; omega


def has (l : List UInt8) (b : UInt8) : Bool := l.contains b
theorem has_cons (c : UInt8) (l : List UInt8) (b : UInt8) : has (c :: l) b = (c == b || has l b) := by
  unfold has; rw [List.contains_cons]; congr 1; rw [Bool.eq_iff_iff]; simp; exact eq_comm
def stv (n : Nat) : Int := if n = 4 then -1 else n
def said (at_ : Nat) (x : Nat × Nat) : Value := .agg #[.int .i64 (at_ + x.1 : Nat), .int .i64 (stv x.2)]
theorem drop_cons {s : ByteArray} {k : Nat} (h : k < s.size) : s.data.toList.drop k = s[k] :: s.data.toList.drop (k + 1) := by
  rw [List.drop_eq_getElem_cons (by simpa using h)]; rfl
theorem u8_beq (a b : UInt8) : ((a.toNat : Int) == b.toNat) = (a == b) := by
  rw [Bool.eq_iff_iff]; simp [← UInt8.toNat_inj]; omega
theorem drop_end {s : ByteArray} {k : Nat} (h : ¬ k < s.size) : s.data.toList.drop k = [] := by
  apply List.drop_eq_nil_of_le; simp; omega

theorem has_any (s : ByteArray) (b : UInt8) (w : World) (hs : s.size ≤ maxLen) :
    Calls Tryz.prog 60 #[.string s, .int .u8 b.toNat] w fun e w' => e = .returned (.bool (has s.data.toList b)) ∧ w = w' := by
  unfold maxLen at hs
  go_enter Tryz.func60, Tryz.ntmps60
  go_wp2
  go_loop [5] (fun i => ∃ k : Nat, k ≤ s.size ∧ i = .int .i64 k ∧ Hid (has (s.data.toList.drop k) b = has s.data.toList b)) (fun i => s.size - (intOf i).toNat)
  case atStart => exact ⟨0, Nat.zero_le _, rfl, rfl⟩
  case round =>
    obtain ⟨k, hk, rfl, hF⟩ := hrel
    by_cases hlt : k < s.size
    · have hd := drop_cons hlt
      have hb := u8_beq s[k] b
      have HD := Lib.hid hd
      have HB := Lib.hid hb
      clear hd hb
      go_wp2
      · go_ret
        refine ⟨ret_bool ?_, rfl⟩
        rw [← hF.out, HD.out, has_cons, ← HB.out, ‹((s[k].toNat : Int) == b.toNat) = true›]; rfl
      · go_round
        case rel =>
          refine ⟨k + 1, by omega, by go_num, ?_⟩
          show _ = _
          rw [← hF.out, HD.out, has_cons, ← HB.out, ‹((s[k].toNat : Int) == b.toNat) = false›]; rfl
        case measure => simp [intOf]; omega
    · have hd := drop_end hlt
      have HD := Lib.hid hd
      clear hd
      go_wp2
      go_ret
      refine ⟨ret_bool ?_, rfl⟩
      rw [← hF.out, HD.out]; rfl

theorem white_has (c : UInt8) : has [9, 10, 13, 32] c = white c := by
  have h : ∀ n : Fin 256, has [9, 10, 13, 32] (UInt8.ofNat n.val) = white (UInt8.ofNat n.val) := by decide +kernel
  have := h ⟨c.toNat, UInt8.toNat_lt c⟩
  simpa only [UInt8.ofNat_toNat] using this
theorem esc_has (c : UInt8) : has [34, 92, 47, 98, 102, 110, 114, 116] c = esc c := by
  have h : ∀ n : Fin 256, has [34, 92, 47, 98, 102, 110, 114, 116] (UInt8.ofNat n.val) = esc (UInt8.ofNat n.val) := by decide +kernel
  have := h ⟨c.toNat, UInt8.toNat_lt c⟩
  simpa only [UInt8.ofNat_toNat] using this
theorem hasWhite_any (c : UInt8) (w : World) :
    Calls Tryz.prog 60 #[.string ⟨#[9, 10, 13, 32]⟩, .int .u8 c.toNat] w fun e w' => e = .returned (.bool (white c)) ∧ w = w' := by
  rw [← white_has]; exact has_any ⟨#[9, 10, 13, 32]⟩ c w (by decide)
theorem hasEsc_any (c : UInt8) (w : World) :
    Calls Tryz.prog 60 #[.string ⟨#[34, 92, 47, 98, 102, 110, 114, 116]⟩, .int .u8 c.toNat] w fun e w' => e = .returned (.bool (esc c)) ∧ w = w' := by
  rw [← esc_has]; exact has_any ⟨#[34, 92, 47, 98, 102, 110, 114, 116]⟩ c w (by decide)
theorem skip_any (s : ByteArray) (at_ : Nat) (w : World) (hs : s.size ≤ maxLen) (ha : at_ ≤ s.size) :
    Calls Tryz.prog 44 #[.string s, .int .i64 at_] w fun e w' => e = .returned (.int .i64 (at_ + skip (s.data.toList.drop at_) : Nat)) ∧ w = w' := by
  unfold maxLen at hs
  go_enter Tryz.func44, Tryz.ntmps44
  go_wp2
  go_loop [1] (fun i => ∃ k : Nat, k ≤ s.size ∧ i = .int .i64 k ∧ Hid (k + skip (s.data.toList.drop k) = at_ + skip (s.data.toList.drop at_))) (fun i => s.size - (intOf i).toNat)
  case atStart => exact ⟨at_, ha, rfl, rfl⟩
  case round =>
    obtain ⟨k, hk, rfl, hF⟩ := hrel
    by_cases hlt : k < s.size
    · have hd := drop_cons hlt
      have HD := Lib.hid hd
      clear hd
      go_wp2_with (go_at_call 60; refine (hasWhite_any _ _).mono ?_; rintro e w' ⟨rfl, rfl⟩)
      · go_round
        case rel =>
          refine ⟨k + 1, by omega, by go_num, ?_⟩
          show _ = _
          rw [← hF.out, HD.out, skip, if_pos (by assumption)]; omega
        case measure => simp [intOf]; omega
      · go_ret
        refine ⟨ret_int ?_, rfl⟩
        rw [← hF.out, HD.out, skip, if_neg (by simp only [*]; decide)]; rfl
    · have hd := drop_end hlt
      have HD := Lib.hid hd
      clear hd
      go_wp2
      go_ret
      refine ⟨ret_int ?_, rfl⟩
      have h := hF.out
      rw [HD.out] at h
      have e : skip [] = 0 := rfl
      omega

theorem said_eq {a : Nat} {x : Nat × Nat} {n st : Int} (h1 : n = (a + x.1 : Nat)) (h2 : st = stv x.2) : Ending.returned (.agg #[.int .i64 n, .int .i64 st]) = .returned (said a x) := by
  rw [h1, h2]; rfl
set_option maxHeartbeats 1000000 in
theorem word_any (s v : ByteArray) (at_ : Nat) (w : World) (hs : s.size ≤ 1048576) (hv : v.size ≤ 8) (ha : at_ ≤ s.size) :
    Calls Tryz.prog 66 #[.string s, .int .i64 at_, .string v] w fun e w' => e = .returned (said at_ (word (s.data.toList.drop at_) v.data.toList)) ∧ Change (fun _ => False) w w' := by
  go_enter Tryz.func66, Tryz.ntmps66
  go_wp2
  go_loopw [7] (fun i wr => ∃ k : Nat, k ≤ v.size ∧ at_ + k ≤ s.size ∧ i = .int .i64 k ∧ Hid (add k (word (s.data.toList.drop (at_ + k)) (v.data.toList.drop k)) = word (s.data.toList.drop at_) v.data.toList) ∧ Blk wr w.heap.size 61 #[.int .i64 0, .int .i64 0] ∧ Change (fun _ => False) w wr) (fun i _ => v.size - (intOf i).toNat)
  case atStart => exact ⟨0, Nat.zero_le _, ha, rfl, by show add 0 _ = _; simp [add], Blk.new _ _ _, (Change.refl _ w).alloc _⟩
  case round =>
    obtain ⟨k, hk, hks, rfl, hF, hb, hc⟩ := hrel
    have hf := hb.free
    have c0 : wr.cell? ⟨w.heap.size, 0, none⟩ = some (.int .i64 0) := hb.cell 0
    have c1 : wr.cell? ⟨w.heap.size, 1, none⟩ = some (.int .i64 0) := hb.cell 1
    have HC := Lib.hid hc
    have HB := Lib.hid hb
    clear hc hb
    by_cases hlt : k < v.size
    · have hdv := Lib.hid (drop_cons hlt)
      by_cases hss : at_ + k < s.size
      · have hds := Lib.hid (drop_cons hss)
        have hcmp := Lib.hid (u8_beq s[at_ + k] v[k])
        have e0 : ((at_ : Int) + k == s.size) = false := by rw [beq_eq_false_iff_ne]; omega
        have b0 : (0 : Int) ≤ (at_ : Int) + k := by omega
        have b1 : ((at_ : Int) + k) < s.size := by omega
        have b2 : (k : Int) < v.size := by omega
        have e1 : ((at_ : Int) + k).toNat = at_ + k := by omega
        have e2 : IntKind.i64.wrap ((at_ : Int) + k) = (at_ : Int) + k := IntWalk.i64_in _ (by omega)
        by_cases hx : ((s[at_ + k].toNat : Int) == v[k].toNat) = true
        · have hx' : ((s[at_ + k].toNat : Int) != v[k].toNat) = false := by simp only [bne, hx]; rfl
          go_wp2_with fail
          go_quiet (fail)
          go_wp2
          refine ⟨⟨k + 1, by omega, by omega, by go_num, ?_, HB.out.drewN _, HC.out.drewN _⟩, by simp [intOf]; omega⟩
          show _ = _
          have ex : s[at_ + k] = v[k] := by rw [hcmp.out] at hx; simpa using hx
          rw [← hF.out, hds.out, hdv.out, word, if_pos ex]
          show add (k + 1) (word (List.drop (at_ + k + 1) _) _) = _
          generalize word (List.drop (at_ + k + 1) s.data.toList) (List.drop (k + 1) v.data.toList) = y
          simp only [add, Prod.mk.injEq]; exact ⟨by omega, trivial⟩
        · have hx' : ((s[at_ + k].toNat : Int) != v[k].toNat) = true := by simp only [bne, hx]; rfl
          have ex : ¬ s[at_ + k] = v[k] := by rw [hcmp.out] at hx; simpa using hx
          have HX := Lib.hid ex
          clear ex
          go_wp2_with fail
          go_quiet (fail)
          go_wp2
          refine bodyPost_ret (v := .agg #[.int .i64 (at_ + k), .int .i64 0]) (by simp [results, Tryz.results66, go_sem, c0, c1]) rfl ⟨?_, ?_⟩
          · rw [← hF.out, hds.out, hdv.out, word, if_neg HX.out]; exact said_eq (by simp [add]) rfl
          · (repeat (first | exact HC.out | refine Change.drewN ?_ _ | refine Change.drew ?_ | refine Change.setCell ?_ (.inr (by simp)) _))
      · have hds := Lib.hid (drop_end hss)
        have e0 : ((at_ : Int) + k == s.size) = true := by rw [beq_iff_eq]; omega
        have hk1 : at_ + k = s.size := by omega
        have HK := Lib.hid hk1
        clear hk1
        go_wp2
        refine bodyPost_ret (v := .agg #[.int .i64 (at_ + k), .int .i64 1]) (by simp [results, Tryz.results66, go_sem, c0, c1]) rfl ⟨?_, ?_⟩
        · rw [← hF.out, hds.out, hdv.out, word]; exact said_eq (by simp [add]) rfl
        · (repeat (first | exact HC.out | refine Change.drewN ?_ _ | refine Change.drew ?_ | refine Change.setCell ?_ (.inr (by simp)) _))
    · have hdv := Lib.hid (drop_end hlt)
      have hkv : k = v.size := by omega
      have HK := Lib.hid hkv
      clear hkv
      go_wp2
      refine bodyPost_ret (v := .agg #[.int .i64 (at_ + v.size), .int .i64 (-1)]) (by simp [results, Tryz.results66, go_sem, c0, c1]) rfl ⟨?_, ?_⟩
      · rw [← hF.out, hdv.out]
        have : ∀ l : List UInt8, word l [] = (0, 4) := by intro l; cases l <;> rfl
        rw [this, ← HK.out]; exact said_eq (by simp [add]) rfl
      · (repeat (first | exact HC.out | refine Change.drewN ?_ _ | refine Change.drew ?_ | refine Change.setCell ?_ (.inr (by simp)) _))

theorem rdigit_any (c : UInt8) (w : World) :
    Calls Tryz.prog 64 #[.int .u8 c.toNat] w fun e w' => e = .returned (.bool (digit c)) ∧ w = w' := by
  rw [digit_nat]
  go_enter Tryz.func64, Tryz.ntmps64
  go_wp2
  all_goals go_ret
  all_goals (refine ⟨ret_bool ?_, rfl⟩; try simp only [beq_iff_eq, beq_eq_false_iff_ne, ne_eq] at *)
  all_goals (rw [Bool.eq_iff_iff]; simp; try omega)
set_option maxHeartbeats 1000000 in
theorem run_any (s : ByteArray) (at_ : Nat) (w : World) (hs : s.size ≤ 1048576) (ha : at_ ≤ s.size) :
    Calls Tryz.prog 94 #[.string s, .int .i64 at_] w fun e w' => e = .returned (said at_ (run (s.data.toList.drop at_))) ∧ Change (fun _ => False) w w' := by
  by_cases hss : at_ < s.size
  · have hds := Lib.hid (drop_cons hss)
    have e0 : ((at_ : Int) == s.size) = false := by rw [beq_eq_false_iff_ne]; omega
    cases hdg : digit s[at_]
    · have Hdg := Lib.hid hdg
      have hb : Blk (w.alloc (.cells #[.int .i64 0, .int .i64 0] 61)) w.heap.size _ _ := Blk.new w 61 #[.int .i64 0, .int .i64 0]
      go_enter Tryz.func94, Tryz.ntmps94
      go_wp2_with (go_at_call 64; refine (rdigit_any _ _).mono ?_; rintro e w' ⟨rfl, rfl⟩)
      refine bodyPost_ret (v := .agg #[.int .i64 at_, .int .i64 0]) (by simp [results, Tryz.results94, go_sem]) rfl ⟨?_, ?_⟩
      · rw [hds.out, run, if_neg (by rw [Hdg.out]; decide)]; exact said_eq (by simp) rfl
      · exact (Change.refl _ w).alloc _
    · have Hdg := Lib.hid hdg
      go_enter Tryz.func94, Tryz.ntmps94
      go_wp2_with (go_at_call 64; refine (rdigit_any _ _).mono ?_; rintro e w' ⟨rfl, rfl⟩)
      go_loopw [1] (fun i wr => ∃ k : Nat, k ≤ s.size ∧ at_ ≤ k ∧ i = .int .i64 k ∧ Hid (k + digits (s.data.toList.drop k) = at_ + digits (s.data.toList.drop at_)) ∧ Blk wr w.heap.size 61 #[.int .i64 0, .int .i64 0] ∧ Change (fun _ => False) w wr) (fun i _ => s.size - (intOf i).toNat)
      case atStart => exact ⟨at_, ha, Nat.le_refl _, rfl, rfl, Blk.new _ _ _, (Change.refl _ w).alloc _⟩
      case round =>
        obtain ⟨k, hk, hak, rfl, hF, hb, hc⟩ := hrel
        have hf := hb.free
        have c0 : wr.cell? ⟨w.heap.size, 0, none⟩ = some (.int .i64 0) := hb.cell 0
        have c1 : wr.cell? ⟨w.heap.size, 1, none⟩ = some (.int .i64 0) := hb.cell 1
        have HC := Lib.hid hc
        have HB := Lib.hid hb
        clear hc hb
        have Hend : Hid (digits (s.data.toList.drop k) = 0 → Ending.returned (.agg #[.int .i64 k, .int .i64 (-1)]) = Ending.returned (said at_ (run (s.data.toList.drop at_)))) := by
          intro h0
          have h := hF.out
          rw [h0] at h
          have hr : run (s.data.toList.drop at_) = (digits (s.data.toList.drop at_), 4) := by
            rw [hds.out, run, if_pos Hdg.out]
          rw [hr]; exact said_eq (by simp; omega) rfl
        by_cases hlt : k < s.size
        · have hdk := Lib.hid (drop_cons hlt)
          cases hdgk : digit s[k]
          · have Hk := Lib.hid hdgk
            go_wp2_with (go_at_call 64; refine (rdigit_any _ _).mono ?_; rintro e w' ⟨rfl, rfl⟩)
            refine bodyPost_ret (v := .agg #[.int .i64 k, .int .i64 (-1)]) (by simp [results, Tryz.results94, go_sem, c0, c1]) rfl ⟨?_, ?_⟩
            · exact Hend.out (by rw [hdk.out, digits, if_neg (by rw [Hk.out]; decide)])
            · (repeat (first | exact HC.out | refine Change.drewN ?_ _ | refine Change.drew ?_ | refine Change.setCell ?_ (.inr (by simp)) _))
          · have Hk := Lib.hid hdgk
            go_wp2_with (go_at_call 64; refine (rdigit_any _ _).mono ?_; rintro e w' ⟨rfl, rfl⟩)
            refine ⟨⟨k + 1, by omega, by omega, by go_num, ?_, HB.out, HC.out⟩, by simp [intOf]; omega⟩
            show _ = _
            rw [← hF.out, hdk.out, digits, if_pos Hk.out]; omega
        · have hdk := Lib.hid (drop_end hlt)
          go_wp2_with (go_at_call 64; refine (rdigit_any _ _).mono ?_; rintro e w' ⟨rfl, rfl⟩)
          refine bodyPost_ret (v := .agg #[.int .i64 k, .int .i64 (-1)]) (by simp [results, Tryz.results94, go_sem, c0, c1]) rfl ⟨?_, ?_⟩
          · exact Hend.out (by rw [hdk.out]; rfl)
          · (repeat (first | exact HC.out | refine Change.drewN ?_ _ | refine Change.drew ?_ | refine Change.setCell ?_ (.inr (by simp)) _))
  · have hds := Lib.hid (drop_end hss)
    have e0 : ((at_ : Int) == s.size) = true := by rw [beq_iff_eq]; omega
    have hk1 : at_ = s.size := by omega
    have HK := Lib.hid hk1
    clear hk1
    go_enter Tryz.func94, Tryz.ntmps94
    go_wp2
    refine bodyPost_ret (v := .agg #[.int .i64 at_, .int .i64 1]) (by simp [results, Tryz.results94, go_sem]) rfl ⟨?_, ?_⟩
    · rw [hds.out, run]; exact said_eq (by simp) rfl
    · exact (Change.refl _ w).alloc _
end Go.Proofs.YtgnefbngkhjfcaaGreatDoor
/-
  The reference for JSON: texts and numbers.
-/
set_option linter.unusedSimpArgs false
set_option linter.unusedVariables false
namespace Go.Proofs.YtgnefbngkhjfcaaGreatDoor
open Go.RowKit Go.Tg Tg.Json

def hexLow : ByteArray := ⟨#[48, 49, 50, 51, 52, 53, 54, 55, 56, 57, 97, 98, 99, 100, 101, 102]⟩
def hexGo (c : UInt8) : Nat → Nat → Int
  | 0, _ => -1
  | f + 1, k => if ((#[48, 49, 50, 51, 52, 53, 54, 55, 56, 57, 97, 98, 99, 100, 101, 102] : Array UInt8).getD k 0).toNat = c.toNat ∨ ((#[48, 49, 50, 51, 52, 53, 54, 55, 56, 57, 65, 66, 67, 68, 69, 70] : Array UInt8).getD k 0).toNat = c.toNat then k else hexGo c f (k + 1)
theorem hexGo_hex (c : UInt8) : (0 ≤ hexGo c 16 0 ∧ hex c = true) ∨ (hexGo c 16 0 < 0 ∧ hex c = false) := by
  have h : ∀ n : Fin 256, (0 ≤ hexGo (UInt8.ofNat n.val) 16 0 ∧ hex (UInt8.ofNat n.val) = true) ∨ (hexGo (UInt8.ofNat n.val) 16 0 < 0 ∧ hex (UInt8.ofNat n.val) = false) := by decide +kernel
  have := h ⟨c.toNat, UInt8.toNat_lt c⟩
  simpa only [UInt8.ofNat_toNat] using this
theorem ba_getD (a : Array UInt8) (k : Nat) (h : k < (⟨a⟩ : ByteArray).size) : (⟨a⟩ : ByteArray)[k]'h = a.getD k 0 := by
  have h' : k < a.size := h
  show a[k] = _
  simp [Array.getD, h']
theorem hexv_any (c : UInt8) (w : World) :
    Calls Tryz.prog 93 #[.int .u8 c.toNat] w fun e w' => e = .returned (.int .i64 (hexGo c 16 0)) ∧ w = w' := by
  go_enter Tryz.func93, Tryz.ntmps93
  go_wp2
  go_loop [5] (fun i => ∃ k : Nat, k ≤ 16 ∧ i = .int .i64 k ∧ Hid (hexGo c (16 - k) k = hexGo c 16 0)) (fun i => 16 - (intOf i).toNat)
  case atStart => exact ⟨0, by omega, rfl, rfl⟩
  case round =>
    obtain ⟨k, hk, rfl, hF⟩ := hrel
    by_cases hlt : k < 16
    · have hs : Hid (hexGo c (16 - k) k = if ((#[48, 49, 50, 51, 52, 53, 54, 55, 56, 57, 97, 98, 99, 100, 101, 102] : Array UInt8).getD k 0).toNat = c.toNat ∨ ((#[48, 49, 50, 51, 52, 53, 54, 55, 56, 57, 65, 66, 67, 68, 69, 70] : Array UInt8).getD k 0).toNat = c.toNat then (k : Int) else hexGo c (16 - (k + 1)) (k + 1)) := by
        obtain ⟨f, hf⟩ : ∃ f, 16 - k = f + 1 := ⟨15 - k, by omega⟩
        have hf' : 16 - (k + 1) = f := by omega
        show hexGo c (16 - k) k = _
        rw [hf, hf']; rfl
      go_wp2
      · go_ret
        refine ⟨ret_int ?_, rfl⟩
        rw [← hF.out, hs.out, if_pos]
        simp only [ba_getD] at *
        exact .inl (by omega)
      · go_ret
        refine ⟨ret_int ?_, rfl⟩
        rw [← hF.out, hs.out, if_pos]
        simp only [ba_getD, beq_iff_eq] at *
        omega
      · refine ⟨⟨k + 1, by omega, by go_num, ?_⟩, by simp [intOf]; omega⟩
        show _ = _
        rw [← hF.out, hs.out, if_neg]
        simp only [ba_getD, beq_iff_eq, beq_eq_false_iff_ne, ne_eq] at *
        omega
    · go_wp2
      go_ret
      refine ⟨ret_int ?_, rfl⟩
      have h := hF.out
      obtain rfl : k = 16 := by omega
      rw [← h]; rfl

theorem said_add (a n : Nat) (x : Nat × Nat) : said a (add n x) = said (a + n) x := by
  simp only [said, add]; rw [show a + (x.1 + n) = a + n + x.1 from by omega]
theorem said_fin {a : Nat} {x : Nat × Nat} {n st : Int} (h1 : n = (a + x.1 : Nat)) (h2 : st = stv x.2) : Ending.returned (.agg #[.int .i64 n, .int .i64 st]) = .returned (said a x) := said_eq h1 h2
set_option maxHeartbeats 1000000 in
theorem quote_any (s : ByteArray) (at_ : Nat) (w : World) (hs : s.size ≤ 1048576) (ha : at_ ≤ s.size) :
    Calls Tryz.prog 63 #[.string s, .int .i64 at_] w fun e w' => e = .returned (said at_ (quote 0 (s.data.toList.drop at_))) ∧ Change (fun _ => False) w w' := by
  go_enter Tryz.func63, Tryz.ntmps63
  go_wp2
  go_loopw [1] (fun i wr => ∃ k : Nat, k ≤ s.size ∧ i = .int .i64 k ∧ Hid (said k (quote 0 (s.data.toList.drop k)) = said at_ (quote 0 (s.data.toList.drop at_))) ∧ Blk wr w.heap.size 61 #[.int .i64 0, .int .i64 0] ∧ Change (fun _ => False) w wr) (fun i _ => s.size - (intOf i).toNat)
  case atStart => exact ⟨at_, ha, rfl, rfl, Blk.new _ _ _, (Change.refl _ w).alloc _⟩
  case round =>
    obtain ⟨k, hk, rfl, hF, hb, hc⟩ := hrel
    have hf := hb.free
    have c0 : wr.cell? ⟨w.heap.size, 0, none⟩ = some (.int .i64 0) := hb.cell 0
    have c1 : wr.cell? ⟨w.heap.size, 1, none⟩ = some (.int .i64 0) := hb.cell 1
    have HC := Lib.hid hc
    have HB := Lib.hid hb
    clear hc hb
    by_cases hlt : k < s.size
    · have hdk := Lib.hid (drop_cons hlt)
      have hu := u8_lt s[k]
      by_cases b1 : s[k] < 32
      · have n1 : (s[k].toNat : Int) < 32 := by simp only [UInt8.lt_iff_toNat_lt, UInt8.reduceToNat] at b1; omega
        have B1 := Lib.hid b1
        clear b1
        go_wp2
        refine bodyPost_ret (v := .agg #[.int .i64 (k), .int .i64 (0)]) (by simp [results, Tryz.results63, go_sem, c0, c1]) rfl ⟨?_, ?_⟩
        · rw [← hF.out]; rw [hdk.out, quote, if_pos rfl, if_pos B1.out]; exact said_fin (by simp) rfl
        · (repeat (first | exact HC.out | refine Change.drewN ?_ _ | refine Change.drew ?_ | refine Change.setCell ?_ (.inr (by simp)) _))

      · have n1 : ¬ (s[k].toNat : Int) < 32 := by simp only [UInt8.lt_iff_toNat_lt, UInt8.reduceToNat] at b1; omega
        have B1 := Lib.hid b1
        clear b1
        rcases u8_is s[k] 34 34 rfl with ⟨b2, n2⟩ | ⟨b2, n2⟩
        · have B2 := Lib.hid b2
          clear b2
          go_wp2
          refine bodyPost_ret (v := .agg #[.int .i64 (k + 1), .int .i64 (-1)]) (by simp [results, Tryz.results63, go_sem, c0, c1]) rfl ⟨?_, ?_⟩
          · rw [← hF.out]; rw [hdk.out, quote, if_pos rfl, if_neg B1.out, if_pos B2.out]; exact said_fin (by simp) rfl
          · (repeat (first | exact HC.out | refine Change.drewN ?_ _ | refine Change.drew ?_ | refine Change.setCell ?_ (.inr (by simp)) _))

        · have B2 := Lib.hid b2
          clear b2
          rcases u8_is s[k] 92 92 rfl with ⟨b3, n3⟩ | ⟨b3, n3⟩
          · have n3' : ((s[k].toNat : Int) != 92) = false := by simp only [bne, n3]; rfl
            have B3 := Lib.hid b3
            clear b3 n3
            have HQ : Hid (said (k + 1) (quote 1 (s.data.toList.drop (k + 1))) = said at_ (quote 0 (s.data.toList.drop at_))) := by
              show _ = _
              rw [← hF.out, hdk.out, quote, if_pos rfl, if_neg B1.out, if_neg B2.out, if_pos B3.out, said_add]
            by_cases hl2 : k + 1 < s.size
            · have hd2 := Lib.hid (drop_cons hl2)
              have e0 : ((k : Int) + 1 == s.size) = false := by rw [beq_eq_false_iff_ne]; omega
              rcases u8_is s[k + 1] 117 117 rfl with ⟨b4, n4⟩ | ⟨b4, n4⟩
              · have B4 := Lib.hid b4
                clear b4
                have HV : Hid (said (k + 1 + 1) (quote 5 (s.data.toList.drop (k + 1 + 1))) = said at_ (quote 0 (s.data.toList.drop at_))) := by
                  show _ = _
                  rw [← HQ.out, hd2.out, quote, if_neg (by decide), if_pos rfl, if_pos B4.out, said_add]
                go_wp2
                obtain ⟨wo, rfl⟩ : ∃ wo : World, wo = wr := ⟨_, rfl⟩
                go_loop [6] (fun i => ∃ j : Nat, 1 ≤ j ∧ j ≤ 5 ∧ i = .int .i64 j ∧ k + 1 + j ≤ s.size ∧ Hid (said (k + 1 + j) (quote (if j = 5 then 0 else 6 - j) (s.data.toList.drop (k + 1 + j))) = said at_ (quote 0 (s.data.toList.drop at_)))) (fun i => 5 - (intOf i).toNat)
                case atStart => exact ⟨1, by omega, by omega, rfl, by omega, HV⟩
                case round =>
                  obtain ⟨j, hj1, hj5, rfl, hjs, hG⟩ := hrel
                  by_cases hj : j < 5
                  · by_cases hl3 : k + 1 + j < s.size
                    · have hd3 := Lib.hid (drop_cons hl3)
                      have hx := hexGo_hex s[k + 1 + j]
                      have b0 : (0 : Int) ≤ (k : Int) + 1 + j := by omega
                      have b5 : ((k : Int) + 1 + j) < s.size := by omega
                      have e1 : ((k : Int) + 1 + j).toNat = k + 1 + j := by omega
                      rcases hx with ⟨x1, x2⟩ | ⟨x1, x2⟩
                      · have X2 := Lib.hid x2
                        clear x2
                        go_wp2_with (go_at_call 93; refine (hexv_any _ _).mono ?_; rintro e w' ⟨rfl, rfl⟩)
                        refine ⟨⟨j + 1, by omega, by omega, by go_num, by omega, ?_⟩, by simp [intOf]; omega⟩
                        show _ = _
                        rw [← hG.out, hd3.out, if_neg (show ¬ j = 5 by omega), quote, if_neg (show ¬ 6 - j = 0 by omega), if_neg (show ¬ 6 - j = 1 by omega), if_pos X2.out, said_add]
                        have : (if 6 - j = 2 then 0 else 6 - j - 1) = (if j + 1 = 5 then 0 else 6 - (j + 1)) := by split <;> split <;> omega
                        rw [this]; rfl
                      · have X2 := Lib.hid x2
                        clear x2
                        go_wp2_with (go_at_call 93; refine (hexv_any _ _).mono ?_; rintro e w' ⟨rfl, rfl⟩)
                        refine bodyPost_ret (v := .agg #[.int .i64 (k + 1 + j), .int .i64 0]) (by simp [results, Tryz.results63, go_sem, c0, c1]) rfl ⟨?_, ?_⟩
                        · rw [← hG.out, hd3.out, if_neg (show ¬ j = 5 by omega), quote, if_neg (show ¬ 6 - j = 0 by omega), if_neg (show ¬ 6 - j = 1 by omega), if_neg (by rw [X2.out]; decide)]; exact said_fin (by simp) rfl
                        · (repeat (first | exact HC.out | refine Change.drewN ?_ _ | refine Change.drew ?_ | refine Change.setCell ?_ (.inr (by simp)) _))
                    · have hd3 := Lib.hid (drop_end hl3)
                      have hle : k + 1 + j = s.size := by omega
                      have HL := Lib.hid hle
                      clear hle
                      go_wp2
                      refine bodyPost_ret (v := .agg #[.int .i64 s.size, .int .i64 1]) (by simp [results, Tryz.results63, go_sem, c0, c1]) rfl ⟨?_, ?_⟩
                      · rw [← hG.out, hd3.out, if_neg (show ¬ j = 5 by omega)]
                        have : ∀ q, quote q [] = (0, 1) := fun _ => rfl
                        rw [this, HL.out]; exact said_fin (by simp) rfl
                      · (repeat (first | exact HC.out | refine Change.drewN ?_ _ | refine Change.drew ?_ | refine Change.setCell ?_ (.inr (by simp)) _))
                  · go_wp2
                    refine ⟨⟨k + 6, by omega, by go_num, ?_, HB.out, HC.out⟩, by simp [intOf]; omega⟩
                    obtain rfl : j = 5 := by omega
                    exact hG
              · have B4 := Lib.hid b4
                clear b4
                cases hes : esc s[k + 1]
                · have HE := Lib.hid hes
                  go_wp2_with (first | (go_at_call 60; refine (hasEsc_any _ _).mono ?_; rintro e w' ⟨rfl, rfl⟩))
                  refine bodyPost_ret (v := .agg #[.int .i64 (k + 1), .int .i64 0]) (by simp [results, Tryz.results63, go_sem, c0, c1]) rfl ⟨?_, ?_⟩
                  · rw [← HQ.out, hd2.out, quote, if_neg (by decide), if_pos rfl, if_neg B4.out, if_neg (by rw [HE.out]; decide)]; exact said_fin (by simp) rfl
                  · (repeat (first | exact HC.out | refine Change.drewN ?_ _ | refine Change.drew ?_ | refine Change.setCell ?_ (.inr (by simp)) _))
                · have HE := Lib.hid hes
                  go_wp2_with (first | (go_at_call 60; refine (hasEsc_any _ _).mono ?_; rintro e w' ⟨rfl, rfl⟩))
                  refine ⟨⟨k + 2, by omega, by go_num, ?_, HB.out, HC.out⟩, by simp [intOf]; omega⟩
                  show _ = _
                  rw [← HQ.out, hd2.out, quote, if_neg (by decide), if_pos rfl, if_neg B4.out, if_pos HE.out, said_add]
            · have hd2 := Lib.hid (drop_end hl2)
              have e0 : ((k : Int) + 1 == s.size) = true := by rw [beq_iff_eq]; omega
              go_wp2
              refine bodyPost_ret (v := .agg #[.int .i64 (k + 1), .int .i64 1]) (by simp [results, Tryz.results63, go_sem, c0, c1]) rfl ⟨?_, ?_⟩
              · rw [← HQ.out, hd2.out]; exact said_fin (by simp [quote]) rfl
              · (repeat (first | exact HC.out | refine Change.drewN ?_ _ | refine Change.drew ?_ | refine Change.setCell ?_ (.inr (by simp)) _))
          · have n3' : ((s[k].toNat : Int) != 92) = true := by simp only [bne, n3]; rfl
            have B3 := Lib.hid b3
            clear b3 n3
            go_wp2
            refine ⟨⟨k + 1, by omega, by go_num, ?_, HB.out, HC.out⟩, by simp [intOf]; omega⟩
            show _ = _
            rw [← hF.out, hdk.out, quote, if_pos rfl, if_neg B1.out, if_neg B2.out, if_neg B3.out, said_add]
    · have hdk := Lib.hid (drop_end hlt)
      go_wp2
      refine bodyPost_ret (v := .agg #[.int .i64 (k), .int .i64 (1)]) (by simp [results, Tryz.results63, go_sem, c0, c1]) rfl ⟨?_, ?_⟩
      · rw [← hF.out]; rw [hdk.out]; exact said_fin (by simp [quote]) rfl
      · (repeat (first | exact HC.out | refine Change.drewN ?_ _ | refine Change.drew ?_ | refine Change.setCell ?_ (.inr (by simp)) _))

end Go.Proofs.YtgnefbngkhjfcaaGreatDoor
/-
  The reference for JSON: numbers.
-/
set_option linter.unusedSimpArgs false
set_option linter.unusedVariables false
namespace Go.Proofs.YtgnefbngkhjfcaaGreatDoor
open Go.RowKit Go.Tg Tg.Json

theorem stv_four (n : Nat) : stv n = -1 ↔ n = 4 := by unfold stv; split <;> omega
theorem run_any2 (s : ByteArray) (x : Int) (k : Nat) (w : World) (hs : s.size ≤ 1048576) (hx : x = k) (hk : k ≤ s.size) :
    Calls Tryz.prog 94 #[.string s, .int .i64 x] w fun e w' => e = .returned (.agg #[.int .i64 (k + (run (s.data.toList.drop k)).1 : Nat), .int .i64 (stv (run (s.data.toList.drop k)).2)]) ∧ Change (fun _ => False) w w' := by
  subst hx; exact run_any s k w hs hk
theorem blk_agg {w : World} {b : Nat} {t : TypeId} {x y : Value} (h : Blk w b t #[x, y]) : w.cell? ⟨b, 0, none⟩ = some x ∧ w.cell? ⟨b, 1, none⟩ = some y ∧ ∀ i, w.frozen? ⟨b, i, none⟩ = false := ⟨h.cell 0, h.cell 1, h.free⟩
theorem post_said {fn : Func} {R : Ending → World → Prop} {a : Act} {W : World} {b : Nat} {x y : Value} {t : Tmp} (hb : Blk W b 61 #[x, y]) (hres : fn.results = #[ResultVar.cell t 61]) (hd : a.defers = []) (hp : a.tmps.getD t undef = .pointer (some ⟨b, 0, none⟩))
    (hR : R (.returned (.agg #[x, y])) W) : bodyPost Tryz.prog fn R .ret a W := by
  have c0 : W.cell? ⟨b, 0, none⟩ = some x := hb.cell 0
  have c1 : W.cell? ⟨b, 1, none⟩ = some y := hb.cell 1
  refine bodyPost_ret (v := .agg #[x, y]) ?_ hd hR
  have hp' : a.tmps[t]?.getD undef = .pointer (some ⟨b, 0, none⟩) := by rw [← hp]; simp [Array.getD_eq_getD_getElem?]
  simp [results, hres, go_sem, c0, c1, hp']
set_option maxHeartbeats 2000000 in
set_option maxRecDepth 100000 in
theorem number_any (s : ByteArray) (at_ : Nat) (w : World) (hs : s.size ≤ 1048576) (ha : at_ < s.size) :
    Calls Tryz.prog 65 #[.string s, .int .i64 at_] w fun e w' =>
      e = .returned (if s[at_].toNat = 45 then said (at_ + 1) (intPart (s.data.toList.drop (at_ + 1))) else said at_ (intPart (s.data.toList.drop at_))) ∧ Change (fun _ => False) w w' := by
  obtain ⟨R, hR⟩ : ∃ R, R = (if s[at_].toNat = 45 then said (at_ + 1) (intPart (s.data.toList.drop (at_ + 1))) else said at_ (intPart (s.data.toList.drop at_))) := ⟨_, rfl⟩
  rw [← hR]
  have HR := Lib.hid hR
  clear hR
  have hu := u8_lt s[at_]
  go_enter Tryz.func65, Tryz.ntmps65
  go_upto_if 9 with (fail)
  go_cut [1] (fun i wr => ∃ k : Nat, k ≤ s.size ∧ i = .int .i64 k ∧ Hid (said k (intPart (s.data.toList.drop k)) = R) ∧ Blk wr w.heap.size 61 #[.int .i64 0, .int .i64 0] ∧ Change (fun _ => False) w wr)
  case first =>
    go_wp2
    all_goals go_meet
    · refine ⟨at_ + 1, by omega, by go_num, ?_, Blk.new _ _ _, (Change.refl _ w).alloc _⟩
      show _ = _
      rw [HR.out, if_pos (by simp only [beq_iff_eq] at *; omega)]
    · refine ⟨at_, by omega, rfl, ?_, Blk.new _ _ _, (Change.refl _ w).alloc _⟩
      show _ = _
      rw [HR.out, if_neg (by simp only [beq_eq_false_iff_ne, ne_eq] at *; omega)]
  case rest =>
    obtain ⟨k, hk, rfl, hF, hb, hc⟩ := hcut
    have HB := Lib.hid hb
    have HC := Lib.hid hc
    clear hb hc hu
    go_wp2_with fail
    refine (run_any2 s k k _ hs rfl hk).mono ?_
    rintro e w1 ⟨rfl, hc1⟩
    have hc2 := HC.out.trans hc1 (fun i h => h.elim)
    have hb2 := HB.out.of_change hc1 (fun h => h)
    have HB2 := Lib.hid hb2
    have HC2 := Lib.hid hc2
    clear hc1 hb2 hc2
    have hlt := HB2.out.lt
    rcases run_cases (s.data.toList.drop k) with ⟨h4, hne⟩ | h4
    · have hk1 : k < s.size := by
        rcases Nat.lt_or_ge k s.size with h | h
        · exact h
        · exact absurd (drop_end (by omega)) hne
      have hdk := Lib.hid (drop_cons hk1)
      have e4 : (stv (run (s.data.toList.drop k)).2 != -1) = false := by rw [h4]; rfl
      have hle := run_le (s.data.toList.drop k)
      simp only [List.length_drop, Array.length_toList] at hle
      have hle2 : k + (run (s.data.toList.drop k)).1 ≤ s.size := by
        have : s.data.size = s.size := rfl
        omega
      have HX : Hid (s[k].toNat = 48 → said (k + 1) (pointPart (s.data.toList.drop (k + 1))) = R) := by
        intro h48
        rw [← hF.out, hdk.out]; unfold intPart; simp only
        rw [if_pos (by rw [← hdk.out]; exact h4), if_pos h48, said_add]
      have HY : Hid (s[k].toNat ≠ 48 → said (k + (run (s.data.toList.drop k)).1) (pointPart (s.data.toList.drop (k + (run (s.data.toList.drop k)).1))) = R) := by
        intro h48
        rw [← hF.out, hdk.out]; unfold intPart; simp only
        rw [if_pos (by rw [← hdk.out]; exact h4), if_neg h48, said_add, ← hdk.out, List.drop_drop]
      generalize run (s.data.toList.drop k) = x at *
      clear h4 hle hne
      have hs1 : (stv x.2) = -1 := by rw [bne_eq_false_iff_eq] at e4; exact e4
      have Hs1 := Lib.hid hs1
      clear hs1
      go_upto_if 22 with (fail)
      go_cut [] (fun wr => ∃ k1 : Nat, k1 ≤ s.size ∧ Hid (said k1 (pointPart (s.data.toList.drop k1)) = R) ∧ Blk wr w1.heap.size 61 #[.int .i64 k1, .int .i64 (-1)] ∧ Blk wr w.heap.size 61 #[.int .i64 0, .int .i64 0] ∧ Change (fun _ => False) w wr)
      case first =>
        go_wp2
        all_goals go_meet
        · refine ⟨k + 1, by omega, HX.out (by simp only [beq_iff_eq] at *; omega), ?_, HB2.out.alloc _, HC2.out.alloc _⟩
          rw [Hs1.out]; exact Blk.new _ _ _
        · refine ⟨k + x.1, by omega, HY.out (by simp only [beq_eq_false_iff_ne, ne_eq] at *; omega), ?_, HB2.out.alloc _, HC2.out.alloc _⟩
          rw [Hs1.out]; exact Blk.new _ _ _
      case rest =>
        obtain ⟨k1, hk1, hG, hbx, hb0, hc0⟩ := hcut
        have HBX := Lib.hid hbx
        have HB0 := Lib.hid hb0
        have HC0 := Lib.hid hc0
        have d0 := hbx.cell 0
        simp only [List.getElem?_toArray, List.getElem?_cons_zero] at d0
        clear hbx hb0 hc0 e4
        go_upto_region 9 with (fail)
        go_cut [37] (fun v wx => (Blk wx w1.heap.size 61 #[.int .i64 k1, .int .i64 (-1)] ∧ Blk wx w.heap.size 61 #[.int .i64 0, .int .i64 0] ∧ Change (fun _ => False) w wx) ∧ ∃ pt : Bool, v = .bool pt ∧ Hid (pt = true ↔ ∃ h : k1 < s.size, s[k1].toNat = 46))
        case first =>
          by_cases hl : k1 < s.size
          · rcases u8_is s[k1] 46 46 rfl with ⟨b1, n1⟩ | ⟨b1, n1⟩
            · have B1 := Lib.hid b1
              clear b1
              go_wp2
              go_meet
              exact ⟨⟨HBX.out, HB0.out, HC0.out⟩, true, rfl, ⟨fun _ => ⟨hl, by rw [B1.out]; rfl⟩, fun _ => rfl⟩⟩
            · have B1 := Lib.hid b1
              clear b1
              go_wp2
              go_meet
              exact ⟨⟨HBX.out, HB0.out, HC0.out⟩, false, rfl, ⟨fun h => by simp at h, fun ⟨_, h⟩ => absurd (by simp only [u8_iff, UInt8.reduceToNat]; exact h) B1.out⟩⟩
          · go_wp2
            go_meet
            exact ⟨⟨HBX.out, HB0.out, HC0.out⟩, false, rfl, ⟨fun h => by simp at h, fun ⟨h, _⟩ => absurd h hl⟩⟩
        case rest =>
        obtain ⟨⟨hbx, hb0, hc0⟩, pt, rfl, hpt⟩ := hcut
        obtain ⟨c0, c1, hf⟩ := blk_agg hbx
        have HBX := Lib.hid hbx
        have HB0 := Lib.hid hb0
        have HC0 := Lib.hid hc0
        clear hbx hb0 hc0
        go_upto_if 37 with (fail)
        go_cut [1] (fun i wr => ∃ k2 : Nat, k2 ≤ s.size ∧ i = .int .i64 k2 ∧ Hid (said k2 (expPart (s.data.toList.drop k2)) = R) ∧ Blk wr w.heap.size 61 #[.int .i64 0, .int .i64 0] ∧ Change (fun _ => False) w wr)
        case first =>
          cases pt
          · go_wp2
            go_meet
            refine ⟨k1, hk1, rfl, ?_, HB0.out, HC0.out⟩
            show _ = _
            rw [← hG.out]
            have hpt' : ¬ ∃ h : k1 < s.size, s[k1].toNat = 46 := fun h => by have := hpt.out.2 h; simp at this
            by_cases hl : k1 < s.size
            · rw [drop_cons hl]; unfold pointPart; simp only
              rw [if_neg (fun h => hpt' ⟨hl, h⟩)]
            · rw [drop_end hl]; rfl
          · obtain ⟨hl, h46⟩ := hpt.out.1 rfl
            have hd1 := Lib.hid (drop_cons hl)
            have H46 := Lib.hid h46
            clear h46
            go_wp2_with fail
            refine (run_any2 s _ (k1 + 1) _ hs (by omega) (by omega)).mono ?_
            rintro e w2 ⟨rfl, hc2⟩
            have hc3 := HC0.out.trans hc2 (fun i h => h.elim)
            have hb3 := HB0.out.of_change hc2 (fun h => h)
            have hbx3 := HBX.out.of_change hc2 (fun h => h)
            obtain ⟨d0, d1, hf3⟩ := blk_agg hbx3
            have HB3 := Lib.hid hb3
            have HC3 := Lib.hid hc3
            have HBX3 := Lib.hid hbx3
            clear hb3 hc3 hbx3 hc2 c0 c1 hf
            have hle := run_le (s.data.toList.drop (k1 + 1))
            simp only [List.length_drop, Array.length_toList] at hle
            have hle2 : k1 + 1 + (run (s.data.toList.drop (k1 + 1))).1 ≤ s.size := by
              have : s.data.size = s.size := rfl
              omega
            by_cases h4 : (run (s.data.toList.drop (k1 + 1))).2 = 4
            · have HZ : Hid (said (k1 + 1 + (run (s.data.toList.drop (k1 + 1))).1) (expPart (s.data.toList.drop (k1 + 1 + (run (s.data.toList.drop (k1 + 1))).1))) = R) := by
                show _ = _
                rw [← hG.out, hd1.out]; unfold pointPart; simp only
                rw [if_pos H46.out, if_pos h4, said_add, List.drop_drop, show k1 + (1 + (run (s.data.toList.drop (k1 + 1))).1) = k1 + 1 + (run (s.data.toList.drop (k1 + 1))).1 from by omega]
              have e5 : (stv (run (s.data.toList.drop (k1 + 1))).2 != -1) = false := by rw [h4]; rfl
              generalize run (s.data.toList.drop (k1 + 1)) = y at *
              clear h4 hle
              go_wp2
              go_meet
              refine ⟨_, hle2, by go_num, HZ, ?_, ?_⟩
              · repeat (first | exact HB3.out | refine Blk.setOther ?_ (by simp; omega) _)
              · repeat (first | exact HC3.out | refine Change.setCell ?_ (.inr (by simp; omega)) _)
            · have HZ : Hid (said (k1 + 1) (run (s.data.toList.drop (k1 + 1))) = R) := by
                show _ = _
                rw [← hG.out, hd1.out]; unfold pointPart; simp only
                rw [if_pos H46.out, if_neg h4, said_add]
              have e5 : (stv (run (s.data.toList.drop (k1 + 1))).2 != -1) = true := by rw [bne_iff_ne]; exact fun h => h4 ((stv_four _).1 h)
              generalize run (s.data.toList.drop (k1 + 1)) = y at *
              clear h4 hle
              obtain ⟨g0, g1, hg⟩ := blk_agg HB3.out
              have hnw : ¬ w.heap.size = w1.heap.size := by omega
              have hnw' : ¬ w1.heap.size = w.heap.size := by omega
              go_wp2
              refine post_said (b := w.heap.size) ((((HB3.out.setBlk hnw 0 _).setBlk hnw 1 _).set 0 _).set 1 _) rfl rfl rfl ⟨?_, ?_⟩
              · rw [← HZ.out]; rfl
              · repeat (first | exact HC3.out | refine Change.setCell ?_ (.inr (by first | (simp; done) | (simp; omega))) _)
        case rest =>
          obtain ⟨k2, hk2, rfl, hE, hb0, hc0⟩ := hcut
          clear c0 c1 hf d0
          obtain ⟨c0, c1, hf⟩ := blk_agg hb0
          have HB0 := Lib.hid hb0
          have HC0 := Lib.hid hc0
          clear hb0 hc0
          go_upto_region 14 with (fail)
          go_cut [63] (fun v wx => (Blk wx w.heap.size 61 #[.int .i64 0, .int .i64 0] ∧ Change (fun _ => False) w wx) ∧ ∃ pt : Bool, v = .bool pt ∧ Hid (pt = true ↔ ∃ h : k2 < s.size, (s[k2].toNat = 101 ∨ s[k2].toNat = 69)))
          case first =>
            by_cases hl : k2 < s.size
            · rcases u8_is s[k2] 101 101 rfl with ⟨b1, n1⟩ | ⟨b1, n1⟩
              · have B1 := Lib.hid b1
                clear b1
                go_wp2
                go_meet
                exact ⟨⟨HB0.out, HC0.out⟩, true, rfl, ⟨fun _ => ⟨hl, .inl (by rw [B1.out]; rfl)⟩, fun _ => rfl⟩⟩
              · rcases u8_is s[k2] 69 69 rfl with ⟨b2, n2⟩ | ⟨b2, n2⟩
                · have B2 := Lib.hid b2
                  clear b1 b2
                  go_wp2
                  go_meet
                  exact ⟨⟨HB0.out, HC0.out⟩, true, rfl, ⟨fun _ => ⟨hl, .inr (by rw [B2.out]; rfl)⟩, fun _ => rfl⟩⟩
                · have m1 : s[k2].toNat ≠ 101 := by rw [beq_eq_false_iff_ne] at n1; omega
                  have m2 : s[k2].toNat ≠ 69 := by rw [beq_eq_false_iff_ne] at n2; omega
                  have M := Lib.hid (And.intro m1 m2)
                  clear b1 b2 m1 m2
                  go_wp2
                  go_meet
                  exact ⟨⟨HB0.out, HC0.out⟩, false, rfl, ⟨fun h => by simp at h, fun ⟨_, h⟩ => by rcases h with h | h; exact absurd h M.out.1; exact absurd h M.out.2⟩⟩
            · go_wp2
              go_meet
              exact ⟨⟨HB0.out, HC0.out⟩, false, rfl, ⟨fun h => by simp at h, fun ⟨h, _⟩ => absurd h hl⟩⟩
          case rest =>
          obtain ⟨⟨hb0, hc0⟩, pt, rfl, hpt⟩ := hcut
          clear c0 c1 hf
          obtain ⟨c0, c1, hf⟩ := blk_agg hb0
          have HB0 := Lib.hid hb0
          have HC0 := Lib.hid hc0
          clear hb0 hc0
          cases pt
          · have hpt' : ¬ ∃ h : k2 < s.size, (s[k2].toNat = 101 ∨ s[k2].toNat = 69) := fun h => by have := hpt.out.2 h; simp at this
            have HE : Hid (said k2 (0, 4) = R) := by
              show _ = _
              rw [← hE.out]
              by_cases hl : k2 < s.size
              · rw [drop_cons hl]; unfold expPart; simp only
                rw [if_neg (fun h => hpt' ⟨hl, h⟩)]
              · rw [drop_end hl]; rfl
            clear hpt'
            go_wp2
            refine post_said (b := w.heap.size) ((HB0.out.set 0 _).set 1 _) rfl rfl rfl ⟨?_, ?_⟩
            · rw [← HE.out]; rfl
            · repeat (first | exact HC0.out | refine Change.setCell ?_ (.inr (by first | (simp; done) | (simp; omega))) _)
          · obtain ⟨hl, hee⟩ := hpt.out.1 rfl
            have hd2 := Lib.hid (drop_cons hl)
            have HEE := Lib.hid hee
            clear hee
            go_upto_region 16 with (fail)
            go_cut [81] (fun v wx => (Blk wx w.heap.size 61 #[.int .i64 0, .int .i64 0] ∧ Change (fun _ => False) w wx) ∧ ∃ pt : Bool, v = .bool pt ∧ Hid (pt = true ↔ ∃ h : k2 + 1 < s.size, (s[k2 + 1].toNat = 43 ∨ s[k2 + 1].toNat = 45)))
            case first =>
              by_cases hl : k2 + 1 < s.size
              · rcases u8_is s[k2 + 1] 43 43 rfl with ⟨b1, n1⟩ | ⟨b1, n1⟩
                · have B1 := Lib.hid b1
                  clear b1
                  go_wp2
                  go_meet
                  exact ⟨⟨HB0.out, HC0.out⟩, true, rfl, ⟨fun _ => ⟨hl, .inl (by rw [B1.out]; rfl)⟩, fun _ => rfl⟩⟩
                · rcases u8_is s[k2 + 1] 45 45 rfl with ⟨b2, n2⟩ | ⟨b2, n2⟩
                  · have B2 := Lib.hid b2
                    clear b1 b2
                    go_wp2
                    go_meet
                    exact ⟨⟨HB0.out, HC0.out⟩, true, rfl, ⟨fun _ => ⟨hl, .inr (by rw [B2.out]; rfl)⟩, fun _ => rfl⟩⟩
                  · have m1 : s[k2 + 1].toNat ≠ 43 := by rw [beq_eq_false_iff_ne] at n1; omega
                    have m2 : s[k2 + 1].toNat ≠ 45 := by rw [beq_eq_false_iff_ne] at n2; omega
                    have M := Lib.hid (And.intro m1 m2)
                    clear b1 b2 m1 m2
                    go_wp2
                    go_meet
                    exact ⟨⟨HB0.out, HC0.out⟩, false, rfl, ⟨fun h => by simp at h, fun ⟨_, h⟩ => by rcases h with h | h; exact absurd h M.out.1; exact absurd h M.out.2⟩⟩
              · go_wp2
                go_meet
                exact ⟨⟨HB0.out, HC0.out⟩, false, rfl, ⟨fun h => by simp at h, fun ⟨h, _⟩ => absurd h hl⟩⟩
            case rest =>
            obtain ⟨⟨hb0, hc0⟩, pt, rfl, hpt2⟩ := hcut
            clear c0 c1 hf
            have HB0 := Lib.hid hb0
            have HC0 := Lib.hid hc0
            clear hb0 hc0
            cases pt
            · have hpt' : ¬ ∃ h : k2 + 1 < s.size, (s[k2 + 1].toNat = 43 ∨ s[k2 + 1].toNat = 45) := fun h => by have := hpt2.out.2 h; simp at this
              have HE : Hid (said (k2 + 1) (run (s.data.toList.drop (k2 + 1))) = R) := by
                show _ = _
                rw [← hE.out, hd2.out]; unfold expPart; simp only
                rw [if_pos HEE.out]
                by_cases hl : k2 + 1 < s.size
                · rw [drop_cons hl]; simp only
                  rw [if_neg (fun h => hpt' ⟨hl, h⟩), said_add]
                · rw [drop_end hl]; simp only; rw [said_add]
              clear hpt'
              go_wp2_with fail
              refine (run_any2 s _ (k2 + 1) _ hs (by omega) (by omega)).mono ?_
              rintro e w2 ⟨rfl, hc2⟩
              have hc3 := HC0.out.trans hc2 (fun i h => h.elim)
              have hb3 := HB0.out.of_change hc2 (fun h => h)
              obtain ⟨d0, d1, hf3⟩ := blk_agg hb3
              have HB3 := Lib.hid hb3
              have HC3 := Lib.hid hc3
              clear hb3 hc3 hc2
              go_wp2
              refine post_said (b := w.heap.size) ((HB3.out.set 0 _).set 1 _) rfl rfl rfl ⟨?_, ?_⟩
              · rw [← HE.out]; rfl
              · repeat (first | exact HC3.out | refine Change.setCell ?_ (.inr (by first | (simp; done) | (simp; omega))) _)
            · obtain ⟨hl2, hss⟩ := hpt2.out.1 rfl
              have HE : Hid (said (k2 + 2) (run (s.data.toList.drop (k2 + 2))) = R) := by
                show _ = _
                rw [← hE.out, hd2.out]; unfold expPart; simp only
                rw [if_pos HEE.out, drop_cons hl2]; simp only
                rw [if_pos hss, said_add]
              clear hss
              go_wp2_with fail
              refine (run_any2 s _ (k2 + 2) _ hs (by omega) (by omega)).mono ?_
              rintro e w2 ⟨rfl, hc2⟩
              have hc3 := HC0.out.trans hc2 (fun i h => h.elim)
              have hb3 := HB0.out.of_change hc2 (fun h => h)
              obtain ⟨d0, d1, hf3⟩ := blk_agg hb3
              have HB3 := Lib.hid hb3
              have HC3 := Lib.hid hc3
              clear hb3 hc3 hc2
              go_wp2
              refine post_said (b := w.heap.size) ((HB3.out.set 0 _).set 1 _) rfl rfl rfl ⟨?_, ?_⟩
              · rw [← HE.out]; rfl
              · repeat (first | exact HC3.out | refine Change.setCell ?_ (.inr (by first | (simp; done) | (simp; omega))) _)
    · obtain ⟨c0, c1, hf⟩ := blk_agg HB2.out
      have e4 : (stv (run (s.data.toList.drop k)).2 != -1) = true := by rw [bne_iff_ne]; exact fun h => h4 ((stv_four _).1 h)
      have HX : Hid (intPart (s.data.toList.drop k) = run (s.data.toList.drop k)) := by
        show _ = _
        unfold intPart; split
        · next h => rw [h]
        · next h => rw [h] at h4 ⊢; rw [if_neg h4]
      generalize run (s.data.toList.drop k) = x at *
      clear h4
      go_wp2
      refine post_said (b := w.heap.size) (((HB2.out.set 0 _).set 1 _).alloc _) rfl rfl rfl ⟨?_, ?_⟩
      · rw [← hF.out, HX.out]; rfl
      · (repeat (first | exact HC2.out | refine Change.drewN ?_ _ | refine Change.drew ?_ | refine Change.alloc ?_ _ | refine Change.setCell ?_ (.inr (by simp)) _))
end Go.Proofs.YtgnefbngkhjfcaaGreatDoor
/-
  The reference for JSON: values.
-/
set_option linter.unusedSimpArgs false
set_option linter.unusedVariables false
namespace Go.Proofs.YtgnefbngkhjfcaaGreatDoor
open Go.RowKit Go.Tg Tg.Json

theorem said_open (a : Nat) (x : Nat × Nat) : ∃ n st : Int, said a x = .agg #[.int .i64 n, .int .i64 st] ∧ n = (a + x.1 : Nat) ∧ st = stv x.2 := ⟨_, _, rfl, rfl, rfl⟩
theorem value_eq (d : Nat) (l : List UInt8) : value d l = match l.drop (skip l) with
    | [] => (skip l, 1)
    | b :: r => if b = 91 ∨ b = 123 then (match d with | 0 => (skip l, 3) | d + 1 => add (skip l + 1) (list (value d) (b == 123) (r.length + 1) true r)) else add (skip l) (value.flat b r) := by
  cases d <;> rfl
/-- what value owes -/
def ValC (d : Nat) : Prop := ∀ (s : ByteArray) (a : Nat) (w : World), s.size ≤ 1048576 → a ≤ s.size →
  Calls Tryz.prog 43 #[.string s, .int .i64 a, .int .i64 d] w fun e w' => e = .returned (said a (value d (s.data.toList.drop a))) ∧ Change (fun _ => False) w w'
/-- what list owes -/
def ListC (d : Nat) : Prop := ∀ (s : ByteArray) (a : Nat) (o : Bool) (w : World), s.size ≤ 1048576 → a ≤ s.size →
  Calls Tryz.prog 62 #[.string s, .int .i64 a, .int .i64 d, .bool o] w fun e w' => e = .returned (said a (list (value d) o ((s.data.toList.drop a).length + 1) true (s.data.toList.drop a))) ∧ Change (fun _ => False) w w'
theorem listI {d : Nat} (h : ListC d) (s : ByteArray) (a : Nat) (o ob : Bool) (x y : Int) (w : World) (hs : s.size ≤ 1048576) (ha : a ≤ s.size) (hx : x = a) (hy : y = d) (ho : ob = o) :
  Calls Tryz.prog 62 #[.string s, .int .i64 x, .int .i64 y, .bool ob] w fun e w' => e = .returned (said a (list (value d) o ((s.data.toList.drop a).length + 1) true (s.data.toList.drop a))) ∧ Change (fun _ => False) w w' := by
  subst hx hy ho; exact h s a ob w hs ha
theorem quoteI (s : ByteArray) (a : Nat) (x : Int) (w : World) (hs : s.size ≤ 1048576) (ha : a ≤ s.size) (hx : x = a) :
    Calls Tryz.prog 63 #[.string s, .int .i64 x] w fun e w' => e = .returned (said a (quote 0 (s.data.toList.drop a))) ∧ Change (fun _ => False) w w' := by
  subst hx; exact quote_any s a w hs ha
theorem rdigitI (c : UInt8) (x : Int) (w : World) (hx : x = c.toNat) :
    Calls Tryz.prog 64 #[.int .u8 x] w fun e w' => e = .returned (.bool (digit c)) ∧ w = w' := by
  subst hx; exact rdigit_any c w
theorem number10_any (s : ByteArray) (a : Nat) (w : World) (hs : s.size ≤ 1048576) (ha : a < s.size) :
    Calls Tryz.prog 65 #[.string s, .int .i64 a] w fun e w' => e = .returned (said a (if s[a] = 45 then add 1 (number 10 (s.data.toList.drop (a + 1))) else number 10 (s[a] :: s.data.toList.drop (a + 1)))) ∧ Change (fun _ => False) w w' := by
  refine (number_any s a w hs ha).mono ?_
  rintro e w' ⟨rfl, hc⟩
  refine ⟨?_, hc⟩
  congr 1
  by_cases h45 : s[a] = 45
  · rw [if_pos (by rw [h45]; rfl), if_pos h45, said_add, num10]
  · rw [if_neg (fun h => h45 (by rw [u8n]; exact h)), if_neg h45, num10, ← drop_cons ha]


set_option maxHeartbeats 8000000 in
set_option maxRecDepth 100000 in
theorem value_zero : ValC 0 := by
  intro s a w hs ha
  have hsk := skip_le (s.data.toList.drop a)
  simp only [List.length_drop, Array.length_toList] at hsk
  have hsz : s.data.size = s.size := rfl
  rw [hsz] at hsk
  have hR := value_eq 0 (s.data.toList.drop a)
  rw [List.drop_drop] at hR
  obtain ⟨p, hp⟩ : ∃ p, p = a + skip (s.data.toList.drop a) := ⟨_, rfl⟩
  have hps : p ≤ s.size := by omega
  obtain ⟨R, hRR⟩ : ∃ R, R = said a (value 0 (s.data.toList.drop a)) := ⟨_, rfl⟩
  rw [← hRR]
  rw [hR, ← hp] at hRR
  obtain ⟨k, hk⟩ : ∃ k, k = skip (s.data.toList.drop a) := ⟨_, rfl⟩
  rw [← hk] at hRR hp
  have HRR := Lib.hid hRR
  have HP := Lib.hid hp
  have HK := Lib.hid hk
  clear hRR hp hk hR hsk
  go_enter Tryz.func43, Tryz.ntmps43
  go_wp2_with fail
  refine (skip_any s a _ (by unfold maxLen; omega) ha).mono ?_
  rintro e w1 ⟨rfl, rfl⟩
  rw [← HK.out, ← HP.out]
  have hb : Blk (w.alloc (.cells #[.int .i64 0, .int .i64 0] 61)) w.heap.size 61 #[.int .i64 0, .int .i64 0] := Blk.new w 61 #[.int .i64 0, .int .i64 0]
  have hc : Change (fun _ => False) w (w.alloc (.cells #[.int .i64 0, .int .i64 0] 61)) := (Change.refl _ w).alloc _
  generalize w.alloc (.cells #[.int .i64 0, .int .i64 0] 61) = w1 at *
  obtain ⟨c0, c1, hf⟩ := blk_agg hb
  have HB := Lib.hid hb
  have HC := Lib.hid hc
  clear hb hc
  by_cases hlt : p < s.size
  · have hd := drop_cons hlt
    have hu := u8_lt s[p]
    have e0 : ((p : Int) == s.size) = false := by rw [beq_eq_false_iff_ne]; omega
    rcases u8_is s[p] 91 91 rfl with ⟨b1, n1⟩ | ⟨b1, n1⟩
    · have HF : Hid (R = said p (0, 3)) := by
        show _ = _
        rw [HRR.out, hd]; simp only; rw [if_pos (.inl b1)]; simp only [said]; rw [HP.out]; rfl
      clear hd b1
      go_wp2
      refine post_said (b := w.heap.size) ((HB.out.set 0 _).set 1 _) rfl rfl rfl ⟨?_, ?_⟩
      · rw [HF.out]; rfl
      · (repeat (first | exact HC.out | refine Change.drewN ?_ _ | refine Change.drew ?_ | refine Change.alloc ?_ _ | refine Change.setCell ?_ (.inr (by first | (simp; done) | (simp; omega))) _))
    rcases u8_is s[p] 123 123 rfl with ⟨b2, n2⟩ | ⟨b2, n2⟩
    · have HF : Hid (R = said p (0, 3)) := by
        show _ = _
        rw [HRR.out, hd]; simp only; rw [if_pos (.inr b2)]; simp only [said]; rw [HP.out]; rfl
      clear hd b1 b2
      go_wp2
      refine post_said (b := w.heap.size) ((HB.out.set 0 _).set 1 _) rfl rfl rfl ⟨?_, ?_⟩
      · rw [HF.out]; rfl
      · (repeat (first | exact HC.out | refine Change.drewN ?_ _ | refine Change.drew ?_ | refine Change.alloc ?_ _ | refine Change.setCell ?_ (.inr (by first | (simp; done) | (simp; omega))) _))
    rcases u8_is s[p] 34 34 rfl with ⟨b3, n3⟩ | ⟨b3, n3⟩
    · have HF : Hid (R = said (p + 1) (quote 0 (s.data.toList.drop (p + 1)))) := by
        show _ = _
        rw [HRR.out, hd]; simp only; rw [if_neg (by intro h; rcases h with h | h; exact b1 h; exact b2 h), value.flat, if_pos b3, said_add, said_add, ← HP.out]
      clear hd b1 b2 b3
      go_wp2_with fail
      refine (quoteI s (p + 1) _ _ hs (by omega) (by omega)).mono ?_
      rintro e w2 ⟨rfl, hc2⟩
      have hc3 := HC.out.trans hc2 (fun i h => h.elim)
      have hb3 := HB.out.of_change hc2 (fun h => h)
      obtain ⟨g0, g1, hg⟩ := blk_agg hb3
      have HB3 := Lib.hid hb3
      have HC3 := Lib.hid hc3
      clear hb3 hc3 hc2 c0 c1 hf
      obtain ⟨rn, rs, hsd, -, -⟩ := said_open _ _
      rw [hsd]
      have HSD := Lib.hid hsd
      clear hsd
      go_wp2
      refine post_said (b := w.heap.size) ((HB3.out.set 0 _).set 1 _) rfl rfl rfl ⟨?_, ?_⟩
      · rw [HF.out, ← HSD.out]
      · (repeat (first | exact HC3.out | refine Change.drewN ?_ _ | refine Change.drew ?_ | refine Change.alloc ?_ _ | refine Change.setCell ?_ (.inr (by first | (simp; done) | (simp; omega))) _))
    rcases u8_is s[p] 45 45 rfl with ⟨b4, n4⟩ | ⟨b4, n4⟩
    · have HF : Hid (R = said p (if s[p] = 45 then add 1 (number 10 (s.data.toList.drop (p + 1))) else number 10 (s[p] :: s.data.toList.drop (p + 1)))) := by
        show _ = _
        rw [HRR.out, hd]; simp only; rw [if_neg (by intro h; rcases h with h | h; exact b1 h; exact b2 h), value.flat, if_neg b3, if_pos b4, if_pos b4, said_add, ← HP.out]
      have HN := Lib.hid (number10_any s p w1 hs hlt)
      clear hd b1 b2 b3 b4
      go_wp2_with fail
      refine (HN.out).mono ?_
      rintro e w2 ⟨rfl, hc2⟩
      have hc3 := HC.out.trans hc2 (fun i h => h.elim)
      have hb3 := HB.out.of_change hc2 (fun h => h)
      obtain ⟨g0, g1, hg⟩ := blk_agg hb3
      have HB3 := Lib.hid hb3
      have HC3 := Lib.hid hc3
      clear hb3 hc3 hc2 c0 c1 hf
      obtain ⟨rn, rs, hsd, -, -⟩ := said_open _ _
      rw [hsd]
      have HSD := Lib.hid hsd
      clear hsd
      go_wp2
      refine post_said (b := w.heap.size) ((HB3.out.set 0 _).set 1 _) rfl rfl rfl ⟨?_, ?_⟩
      · rw [HF.out, ← HSD.out]
      · (repeat (first | exact HC3.out | refine Change.drewN ?_ _ | refine Change.drew ?_ | refine Change.alloc ?_ _ | refine Change.setCell ?_ (.inr (by first | (simp; done) | (simp; omega))) _))
    cases hdg : digit s[p]
    rotate_left
    · have HF : Hid (R = said p (if s[p] = 45 then add 1 (number 10 (s.data.toList.drop (p + 1))) else number 10 (s[p] :: s.data.toList.drop (p + 1)))) := by
        show _ = _
        rw [HRR.out, hd]; simp only; rw [if_neg (by intro h; rcases h with h | h; exact b1 h; exact b2 h), value.flat, if_neg b3, if_neg b4, if_neg b4, if_pos hdg, said_add, ← HP.out]
      have HN := Lib.hid (number10_any s p w1 hs hlt)
      clear hd b1 b2 b3 b4
      go_wp2_with (go_at_call 64; refine Calls.mono (rdigitI s[p] _ _ ?_) ?_; (first | rfl | omega | (simp only [beq_iff_eq] at *; omega)); rintro e w' ⟨rfl, rfl⟩)
      refine (HN.out).mono ?_
      rintro e w2 ⟨rfl, hc2⟩
      have hc3 := HC.out.trans hc2 (fun i h => h.elim)
      have hb3 := HB.out.of_change hc2 (fun h => h)
      obtain ⟨g0, g1, hg⟩ := blk_agg hb3
      have HB3 := Lib.hid hb3
      have HC3 := Lib.hid hc3
      clear hb3 hc3 hc2 c0 c1 hf
      obtain ⟨rn, rs, hsd, -, -⟩ := said_open _ _
      rw [hsd]
      have HSD := Lib.hid hsd
      clear hsd
      go_wp2
      refine post_said (b := w.heap.size) ((HB3.out.set 0 _).set 1 _) rfl rfl rfl ⟨?_, ?_⟩
      · rw [HF.out, ← HSD.out]
      · (repeat (first | exact HC3.out | refine Change.drewN ?_ _ | refine Change.drew ?_ | refine Change.alloc ?_ _ | refine Change.setCell ?_ (.inr (by first | (simp; done) | (simp; omega))) _))
    rcases u8_is s[p] 116 116 rfl with ⟨b5, n5⟩ | ⟨b5, n5⟩
    · have HF : Hid (R = said p (word (s.data.toList.drop p) [116, 114, 117, 101])) := by
        show _ = _
        rw [HRR.out, hd]; simp only; rw [if_neg (by intro h; rcases h with h | h; exact b1 h; exact b2 h), value.flat, if_neg b3, if_neg b4, if_neg (by rw [hdg]; decide), if_pos b5, said_add, ← HP.out]
      clear hd b1 b2 b3 b4 b5
      go_wp2_with (go_at_call 64; refine Calls.mono (rdigitI s[p] _ _ ?_) ?_; (first | rfl | omega | (simp only [beq_iff_eq] at *; omega)); rintro e w' ⟨rfl, rfl⟩)
      refine (word_any s ⟨#[116, 114, 117, 101]⟩ p _ hs (by decide) (by omega)).mono ?_
      rintro e w2 ⟨rfl, hc2⟩
      have hc3 := HC.out.trans hc2 (fun i h => h.elim)
      have hb3 := HB.out.of_change hc2 (fun h => h)
      obtain ⟨g0, g1, hg⟩ := blk_agg hb3
      have HB3 := Lib.hid hb3
      have HC3 := Lib.hid hc3
      clear hb3 hc3 hc2 c0 c1 hf
      obtain ⟨rn, rs, hsd, -, -⟩ := said_open _ _
      rw [hsd]
      have HSD := Lib.hid hsd
      clear hsd
      go_wp2
      refine post_said (b := w.heap.size) ((HB3.out.set 0 _).set 1 _) rfl rfl rfl ⟨?_, ?_⟩
      · rw [HF.out, ← HSD.out]
      · (repeat (first | exact HC3.out | refine Change.drewN ?_ _ | refine Change.drew ?_ | refine Change.alloc ?_ _ | refine Change.setCell ?_ (.inr (by first | (simp; done) | (simp; omega))) _))
    rcases u8_is s[p] 102 102 rfl with ⟨b6, n6⟩ | ⟨b6, n6⟩
    · have HF : Hid (R = said p (word (s.data.toList.drop p) [102, 97, 108, 115, 101])) := by
        show _ = _
        rw [HRR.out, hd]; simp only; rw [if_neg (by intro h; rcases h with h | h; exact b1 h; exact b2 h), value.flat, if_neg b3, if_neg b4, if_neg (by rw [hdg]; decide), if_neg b5, if_pos b6, said_add, ← HP.out]
      clear hd b1 b2 b3 b4 b5 b6
      go_wp2_with (go_at_call 64; refine Calls.mono (rdigitI s[p] _ _ ?_) ?_; (first | rfl | omega | (simp only [beq_iff_eq] at *; omega)); rintro e w' ⟨rfl, rfl⟩)
      refine (word_any s ⟨#[102, 97, 108, 115, 101]⟩ p _ hs (by decide) (by omega)).mono ?_
      rintro e w2 ⟨rfl, hc2⟩
      have hc3 := HC.out.trans hc2 (fun i h => h.elim)
      have hb3 := HB.out.of_change hc2 (fun h => h)
      obtain ⟨g0, g1, hg⟩ := blk_agg hb3
      have HB3 := Lib.hid hb3
      have HC3 := Lib.hid hc3
      clear hb3 hc3 hc2 c0 c1 hf
      obtain ⟨rn, rs, hsd, -, -⟩ := said_open _ _
      rw [hsd]
      have HSD := Lib.hid hsd
      clear hsd
      go_wp2
      refine post_said (b := w.heap.size) ((HB3.out.set 0 _).set 1 _) rfl rfl rfl ⟨?_, ?_⟩
      · rw [HF.out, ← HSD.out]
      · (repeat (first | exact HC3.out | refine Change.drewN ?_ _ | refine Change.drew ?_ | refine Change.alloc ?_ _ | refine Change.setCell ?_ (.inr (by first | (simp; done) | (simp; omega))) _))
    rcases u8_is s[p] 110 110 rfl with ⟨b7, n7⟩ | ⟨b7, n7⟩
    · have HF : Hid (R = said p (word (s.data.toList.drop p) [110, 117, 108, 108])) := by
        show _ = _
        rw [HRR.out, hd]; simp only; rw [if_neg (by intro h; rcases h with h | h; exact b1 h; exact b2 h), value.flat, if_neg b3, if_neg b4, if_neg (by rw [hdg]; decide), if_neg b5, if_neg b6, if_pos b7, said_add, ← HP.out]
      clear hd b1 b2 b3 b4 b5 b6 b7
      go_wp2_with (go_at_call 64; refine Calls.mono (rdigitI s[p] _ _ ?_) ?_; (first | rfl | omega | (simp only [beq_iff_eq] at *; omega)); rintro e w' ⟨rfl, rfl⟩)
      refine (word_any s ⟨#[110, 117, 108, 108]⟩ p _ hs (by decide) (by omega)).mono ?_
      rintro e w2 ⟨rfl, hc2⟩
      have hc3 := HC.out.trans hc2 (fun i h => h.elim)
      have hb3 := HB.out.of_change hc2 (fun h => h)
      obtain ⟨g0, g1, hg⟩ := blk_agg hb3
      have HB3 := Lib.hid hb3
      have HC3 := Lib.hid hc3
      clear hb3 hc3 hc2 c0 c1 hf
      obtain ⟨rn, rs, hsd, -, -⟩ := said_open _ _
      rw [hsd]
      have HSD := Lib.hid hsd
      clear hsd
      go_wp2
      refine post_said (b := w.heap.size) ((HB3.out.set 0 _).set 1 _) rfl rfl rfl ⟨?_, ?_⟩
      · rw [HF.out, ← HSD.out]
      · (repeat (first | exact HC3.out | refine Change.drewN ?_ _ | refine Change.drew ?_ | refine Change.alloc ?_ _ | refine Change.setCell ?_ (.inr (by first | (simp; done) | (simp; omega))) _))
    have HF : Hid (R = said p (0, 0)) := by
      show _ = _
      rw [HRR.out, hd]; simp only; rw [if_neg (by intro h; rcases h with h | h; exact b1 h; exact b2 h), value.flat, if_neg b3, if_neg b4, if_neg (by rw [hdg]; decide), if_neg b5, if_neg b6, if_neg b7, said_add, ← HP.out]
    clear hd b1 b2 b3 b4 b5 b6 b7
    go_wp2_with (go_at_call 64; refine Calls.mono (rdigitI s[p] _ _ ?_) ?_; (first | rfl | omega | (simp only [beq_iff_eq] at *; omega)); rintro e w' ⟨rfl, rfl⟩)
    refine post_said (b := w.heap.size) ((HB.out.set 0 _).set 1 _) rfl rfl rfl ⟨?_, ?_⟩
    · rw [HF.out]; rfl
    · (repeat (first | exact HC.out | refine Change.drewN ?_ _ | refine Change.drew ?_ | refine Change.alloc ?_ _ | refine Change.setCell ?_ (.inr (by first | (simp; done) | (simp; omega))) _))
  · have hd := drop_end hlt
    have e0 : ((p : Int) == s.size) = true := by rw [beq_iff_eq]; omega
    have HF : Hid (R = said p (0, 1)) := by
      show _ = _
      rw [HRR.out, hd]; simp only [said]; rw [HP.out]; rfl
    have hpe : p = s.size := by omega
    have HPE := Lib.hid hpe
    clear hd hpe
    go_wp2
    refine post_said (b := w.heap.size) ((HB.out.set 0 _).set 1 _) rfl rfl rfl ⟨?_, ?_⟩
    · rw [HF.out]; rfl
    · (repeat (first | exact HC.out | refine Change.drewN ?_ _ | refine Change.drew ?_ | refine Change.alloc ?_ _ | refine Change.setCell ?_ (.inr (by first | (simp; done) | (simp; omega))) _))


set_option maxHeartbeats 16000000 in
set_option maxRecDepth 100000 in
theorem value_succ (d : Nat) (hd200 : d ≤ 1000) (hl : ListC d) : ValC (d + 1) := by
  intro s a w hs ha
  have HL := Lib.hid hl
  clear hl
  have z0 : (((d + 1 : Nat) : Int) == 0) = false := by rw [beq_eq_false_iff_ne]; omega
  have z1 : ((d : Int) + 1 == 0) = false := by rw [beq_eq_false_iff_ne]; omega
  have hsk := skip_le (s.data.toList.drop a)
  simp only [List.length_drop, Array.length_toList] at hsk
  have hsz : s.data.size = s.size := rfl
  rw [hsz] at hsk
  have hR := value_eq (d + 1) (s.data.toList.drop a)
  rw [List.drop_drop] at hR
  obtain ⟨p, hp⟩ : ∃ p, p = a + skip (s.data.toList.drop a) := ⟨_, rfl⟩
  have hps : p ≤ s.size := by omega
  obtain ⟨R, hRR⟩ : ∃ R, R = said a (value (d + 1) (s.data.toList.drop a)) := ⟨_, rfl⟩
  rw [← hRR]
  rw [hR, ← hp] at hRR
  obtain ⟨k, hk⟩ : ∃ k, k = skip (s.data.toList.drop a) := ⟨_, rfl⟩
  rw [← hk] at hRR hp
  have HRR := Lib.hid hRR
  have HP := Lib.hid hp
  have HK := Lib.hid hk
  clear hRR hp hk hR hsk
  go_enter Tryz.func43, Tryz.ntmps43
  go_wp2_with fail
  refine (skip_any s a _ (by unfold maxLen; omega) ha).mono ?_
  rintro e w1 ⟨rfl, rfl⟩
  rw [← HK.out, ← HP.out]
  have hb : Blk (w.alloc (.cells #[.int .i64 0, .int .i64 0] 61)) w.heap.size 61 #[.int .i64 0, .int .i64 0] := Blk.new w 61 #[.int .i64 0, .int .i64 0]
  have hc : Change (fun _ => False) w (w.alloc (.cells #[.int .i64 0, .int .i64 0] 61)) := (Change.refl _ w).alloc _
  generalize w.alloc (.cells #[.int .i64 0, .int .i64 0] 61) = w1 at *
  obtain ⟨c0, c1, hf⟩ := blk_agg hb
  have HB := Lib.hid hb
  have HC := Lib.hid hc
  clear hb hc
  by_cases hlt : p < s.size
  · have hd := drop_cons hlt
    have hu := u8_lt s[p]
    have e0 : ((p : Int) == s.size) = false := by rw [beq_eq_false_iff_ne]; omega
    rcases u8_is s[p] 91 91 rfl with ⟨b1, n1⟩ | ⟨b1, n1⟩
    · have HF : Hid (R = said (p + 1) (list (value d) false ((s.data.toList.drop (p + 1)).length + 1) true (s.data.toList.drop (p + 1)))) := by
        show _ = _
        rw [HRR.out, hd]; simp only; rw [if_pos (.inl b1), said_add, show (s[p] == 123) = false from by rw [b1]; rfl, ← Nat.add_assoc, ← HP.out]
      clear hd b1
      go_wp2_with fail
      refine (listI HL.out s (p + 1) false _ _ _ _ hs (by omega) (by omega) (by omega) (by first | assumption | rfl | (rw [beq_eq_false_iff_ne]; simp only [beq_iff_eq] at *; omega))).mono ?_
      rintro e w2 ⟨rfl, hc2⟩
      have hc3 := HC.out.trans hc2 (fun i h => h.elim)
      have hb3 := HB.out.of_change hc2 (fun h => h)
      obtain ⟨g0, g1, hg⟩ := blk_agg hb3
      have HB3 := Lib.hid hb3
      have HC3 := Lib.hid hc3
      clear hb3 hc3 hc2 c0 c1 hf
      obtain ⟨rn, rs, hsd, -, -⟩ := said_open _ _
      rw [hsd]
      have HSD := Lib.hid hsd
      clear hsd
      go_wp2
      refine post_said (b := w.heap.size) ((HB3.out.set 0 _).set 1 _) rfl rfl rfl ⟨?_, ?_⟩
      · rw [HF.out, ← HSD.out]
      · (repeat (first | exact HC3.out | refine Change.drewN ?_ _ | refine Change.drew ?_ | refine Change.alloc ?_ _ | refine Change.setCell ?_ (.inr (by first | (simp; done) | (simp; omega))) _))
    rcases u8_is s[p] 123 123 rfl with ⟨b2, n2⟩ | ⟨b2, n2⟩
    · have HF : Hid (R = said (p + 1) (list (value d) true ((s.data.toList.drop (p + 1)).length + 1) true (s.data.toList.drop (p + 1)))) := by
        show _ = _
        rw [HRR.out, hd]; simp only; rw [if_pos (.inr b2), said_add, show (s[p] == 123) = true from by rw [b2]; rfl, ← Nat.add_assoc, ← HP.out]
      clear hd b1 b2
      go_wp2_with fail
      refine (listI HL.out s (p + 1) true _ _ _ _ hs (by omega) (by omega) (by omega) (by first | assumption | rfl | (rw [beq_eq_false_iff_ne]; simp only [beq_iff_eq] at *; omega))).mono ?_
      rintro e w2 ⟨rfl, hc2⟩
      have hc3 := HC.out.trans hc2 (fun i h => h.elim)
      have hb3 := HB.out.of_change hc2 (fun h => h)
      obtain ⟨g0, g1, hg⟩ := blk_agg hb3
      have HB3 := Lib.hid hb3
      have HC3 := Lib.hid hc3
      clear hb3 hc3 hc2 c0 c1 hf
      obtain ⟨rn, rs, hsd, -, -⟩ := said_open _ _
      rw [hsd]
      have HSD := Lib.hid hsd
      clear hsd
      go_wp2
      refine post_said (b := w.heap.size) ((HB3.out.set 0 _).set 1 _) rfl rfl rfl ⟨?_, ?_⟩
      · rw [HF.out, ← HSD.out]
      · (repeat (first | exact HC3.out | refine Change.drewN ?_ _ | refine Change.drew ?_ | refine Change.alloc ?_ _ | refine Change.setCell ?_ (.inr (by first | (simp; done) | (simp; omega))) _))
    rcases u8_is s[p] 34 34 rfl with ⟨b3, n3⟩ | ⟨b3, n3⟩
    · have HF : Hid (R = said (p + 1) (quote 0 (s.data.toList.drop (p + 1)))) := by
        show _ = _
        rw [HRR.out, hd]; simp only; rw [if_neg (by intro h; rcases h with h | h; exact b1 h; exact b2 h), value.flat, if_pos b3, said_add, said_add, ← HP.out]
      clear hd b1 b2 b3
      go_wp2_with fail
      refine (quoteI s (p + 1) _ _ hs (by omega) (by omega)).mono ?_
      rintro e w2 ⟨rfl, hc2⟩
      have hc3 := HC.out.trans hc2 (fun i h => h.elim)
      have hb3 := HB.out.of_change hc2 (fun h => h)
      obtain ⟨g0, g1, hg⟩ := blk_agg hb3
      have HB3 := Lib.hid hb3
      have HC3 := Lib.hid hc3
      clear hb3 hc3 hc2 c0 c1 hf
      obtain ⟨rn, rs, hsd, -, -⟩ := said_open _ _
      rw [hsd]
      have HSD := Lib.hid hsd
      clear hsd
      go_wp2
      refine post_said (b := w.heap.size) ((HB3.out.set 0 _).set 1 _) rfl rfl rfl ⟨?_, ?_⟩
      · rw [HF.out, ← HSD.out]
      · (repeat (first | exact HC3.out | refine Change.drewN ?_ _ | refine Change.drew ?_ | refine Change.alloc ?_ _ | refine Change.setCell ?_ (.inr (by first | (simp; done) | (simp; omega))) _))
    rcases u8_is s[p] 45 45 rfl with ⟨b4, n4⟩ | ⟨b4, n4⟩
    · have HF : Hid (R = said p (if s[p] = 45 then add 1 (number 10 (s.data.toList.drop (p + 1))) else number 10 (s[p] :: s.data.toList.drop (p + 1)))) := by
        show _ = _
        rw [HRR.out, hd]; simp only; rw [if_neg (by intro h; rcases h with h | h; exact b1 h; exact b2 h), value.flat, if_neg b3, if_pos b4, if_pos b4, said_add, ← HP.out]
      have HN := Lib.hid (number10_any s p w1 hs hlt)
      clear hd b1 b2 b3 b4
      go_wp2_with fail
      refine (HN.out).mono ?_
      rintro e w2 ⟨rfl, hc2⟩
      have hc3 := HC.out.trans hc2 (fun i h => h.elim)
      have hb3 := HB.out.of_change hc2 (fun h => h)
      obtain ⟨g0, g1, hg⟩ := blk_agg hb3
      have HB3 := Lib.hid hb3
      have HC3 := Lib.hid hc3
      clear hb3 hc3 hc2 c0 c1 hf
      obtain ⟨rn, rs, hsd, -, -⟩ := said_open _ _
      rw [hsd]
      have HSD := Lib.hid hsd
      clear hsd
      go_wp2
      refine post_said (b := w.heap.size) ((HB3.out.set 0 _).set 1 _) rfl rfl rfl ⟨?_, ?_⟩
      · rw [HF.out, ← HSD.out]
      · (repeat (first | exact HC3.out | refine Change.drewN ?_ _ | refine Change.drew ?_ | refine Change.alloc ?_ _ | refine Change.setCell ?_ (.inr (by first | (simp; done) | (simp; omega))) _))
    cases hdg : digit s[p]
    rotate_left
    · have HF : Hid (R = said p (if s[p] = 45 then add 1 (number 10 (s.data.toList.drop (p + 1))) else number 10 (s[p] :: s.data.toList.drop (p + 1)))) := by
        show _ = _
        rw [HRR.out, hd]; simp only; rw [if_neg (by intro h; rcases h with h | h; exact b1 h; exact b2 h), value.flat, if_neg b3, if_neg b4, if_neg b4, if_pos hdg, said_add, ← HP.out]
      have HN := Lib.hid (number10_any s p w1 hs hlt)
      clear hd b1 b2 b3 b4
      go_wp2_with (go_at_call 64; refine Calls.mono (rdigitI s[p] _ _ ?_) ?_; (first | rfl | omega | (simp only [beq_iff_eq] at *; omega)); rintro e w' ⟨rfl, rfl⟩)
      refine (HN.out).mono ?_
      rintro e w2 ⟨rfl, hc2⟩
      have hc3 := HC.out.trans hc2 (fun i h => h.elim)
      have hb3 := HB.out.of_change hc2 (fun h => h)
      obtain ⟨g0, g1, hg⟩ := blk_agg hb3
      have HB3 := Lib.hid hb3
      have HC3 := Lib.hid hc3
      clear hb3 hc3 hc2 c0 c1 hf
      obtain ⟨rn, rs, hsd, -, -⟩ := said_open _ _
      rw [hsd]
      have HSD := Lib.hid hsd
      clear hsd
      go_wp2
      refine post_said (b := w.heap.size) ((HB3.out.set 0 _).set 1 _) rfl rfl rfl ⟨?_, ?_⟩
      · rw [HF.out, ← HSD.out]
      · (repeat (first | exact HC3.out | refine Change.drewN ?_ _ | refine Change.drew ?_ | refine Change.alloc ?_ _ | refine Change.setCell ?_ (.inr (by first | (simp; done) | (simp; omega))) _))
    rcases u8_is s[p] 116 116 rfl with ⟨b5, n5⟩ | ⟨b5, n5⟩
    · have HF : Hid (R = said p (word (s.data.toList.drop p) [116, 114, 117, 101])) := by
        show _ = _
        rw [HRR.out, hd]; simp only; rw [if_neg (by intro h; rcases h with h | h; exact b1 h; exact b2 h), value.flat, if_neg b3, if_neg b4, if_neg (by rw [hdg]; decide), if_pos b5, said_add, ← HP.out]
      clear hd b1 b2 b3 b4 b5
      go_wp2_with (go_at_call 64; refine Calls.mono (rdigitI s[p] _ _ ?_) ?_; (first | rfl | omega | (simp only [beq_iff_eq] at *; omega)); rintro e w' ⟨rfl, rfl⟩)
      refine (word_any s ⟨#[116, 114, 117, 101]⟩ p _ hs (by decide) (by omega)).mono ?_
      rintro e w2 ⟨rfl, hc2⟩
      have hc3 := HC.out.trans hc2 (fun i h => h.elim)
      have hb3 := HB.out.of_change hc2 (fun h => h)
      obtain ⟨g0, g1, hg⟩ := blk_agg hb3
      have HB3 := Lib.hid hb3
      have HC3 := Lib.hid hc3
      clear hb3 hc3 hc2 c0 c1 hf
      obtain ⟨rn, rs, hsd, -, -⟩ := said_open _ _
      rw [hsd]
      have HSD := Lib.hid hsd
      clear hsd
      go_wp2
      refine post_said (b := w.heap.size) ((HB3.out.set 0 _).set 1 _) rfl rfl rfl ⟨?_, ?_⟩
      · rw [HF.out, ← HSD.out]
      · (repeat (first | exact HC3.out | refine Change.drewN ?_ _ | refine Change.drew ?_ | refine Change.alloc ?_ _ | refine Change.setCell ?_ (.inr (by first | (simp; done) | (simp; omega))) _))
    rcases u8_is s[p] 102 102 rfl with ⟨b6, n6⟩ | ⟨b6, n6⟩
    · have HF : Hid (R = said p (word (s.data.toList.drop p) [102, 97, 108, 115, 101])) := by
        show _ = _
        rw [HRR.out, hd]; simp only; rw [if_neg (by intro h; rcases h with h | h; exact b1 h; exact b2 h), value.flat, if_neg b3, if_neg b4, if_neg (by rw [hdg]; decide), if_neg b5, if_pos b6, said_add, ← HP.out]
      clear hd b1 b2 b3 b4 b5 b6
      go_wp2_with (go_at_call 64; refine Calls.mono (rdigitI s[p] _ _ ?_) ?_; (first | rfl | omega | (simp only [beq_iff_eq] at *; omega)); rintro e w' ⟨rfl, rfl⟩)
      refine (word_any s ⟨#[102, 97, 108, 115, 101]⟩ p _ hs (by decide) (by omega)).mono ?_
      rintro e w2 ⟨rfl, hc2⟩
      have hc3 := HC.out.trans hc2 (fun i h => h.elim)
      have hb3 := HB.out.of_change hc2 (fun h => h)
      obtain ⟨g0, g1, hg⟩ := blk_agg hb3
      have HB3 := Lib.hid hb3
      have HC3 := Lib.hid hc3
      clear hb3 hc3 hc2 c0 c1 hf
      obtain ⟨rn, rs, hsd, -, -⟩ := said_open _ _
      rw [hsd]
      have HSD := Lib.hid hsd
      clear hsd
      go_wp2
      refine post_said (b := w.heap.size) ((HB3.out.set 0 _).set 1 _) rfl rfl rfl ⟨?_, ?_⟩
      · rw [HF.out, ← HSD.out]
      · (repeat (first | exact HC3.out | refine Change.drewN ?_ _ | refine Change.drew ?_ | refine Change.alloc ?_ _ | refine Change.setCell ?_ (.inr (by first | (simp; done) | (simp; omega))) _))
    rcases u8_is s[p] 110 110 rfl with ⟨b7, n7⟩ | ⟨b7, n7⟩
    · have HF : Hid (R = said p (word (s.data.toList.drop p) [110, 117, 108, 108])) := by
        show _ = _
        rw [HRR.out, hd]; simp only; rw [if_neg (by intro h; rcases h with h | h; exact b1 h; exact b2 h), value.flat, if_neg b3, if_neg b4, if_neg (by rw [hdg]; decide), if_neg b5, if_neg b6, if_pos b7, said_add, ← HP.out]
      clear hd b1 b2 b3 b4 b5 b6 b7
      go_wp2_with (go_at_call 64; refine Calls.mono (rdigitI s[p] _ _ ?_) ?_; (first | rfl | omega | (simp only [beq_iff_eq] at *; omega)); rintro e w' ⟨rfl, rfl⟩)
      refine (word_any s ⟨#[110, 117, 108, 108]⟩ p _ hs (by decide) (by omega)).mono ?_
      rintro e w2 ⟨rfl, hc2⟩
      have hc3 := HC.out.trans hc2 (fun i h => h.elim)
      have hb3 := HB.out.of_change hc2 (fun h => h)
      obtain ⟨g0, g1, hg⟩ := blk_agg hb3
      have HB3 := Lib.hid hb3
      have HC3 := Lib.hid hc3
      clear hb3 hc3 hc2 c0 c1 hf
      obtain ⟨rn, rs, hsd, -, -⟩ := said_open _ _
      rw [hsd]
      have HSD := Lib.hid hsd
      clear hsd
      go_wp2
      refine post_said (b := w.heap.size) ((HB3.out.set 0 _).set 1 _) rfl rfl rfl ⟨?_, ?_⟩
      · rw [HF.out, ← HSD.out]
      · (repeat (first | exact HC3.out | refine Change.drewN ?_ _ | refine Change.drew ?_ | refine Change.alloc ?_ _ | refine Change.setCell ?_ (.inr (by first | (simp; done) | (simp; omega))) _))
    have HF : Hid (R = said p (0, 0)) := by
      show _ = _
      rw [HRR.out, hd]; simp only; rw [if_neg (by intro h; rcases h with h | h; exact b1 h; exact b2 h), value.flat, if_neg b3, if_neg b4, if_neg (by rw [hdg]; decide), if_neg b5, if_neg b6, if_neg b7, said_add, ← HP.out]
    clear hd b1 b2 b3 b4 b5 b6 b7
    go_wp2_with (go_at_call 64; refine Calls.mono (rdigitI s[p] _ _ ?_) ?_; (first | rfl | omega | (simp only [beq_iff_eq] at *; omega)); rintro e w' ⟨rfl, rfl⟩)
    refine post_said (b := w.heap.size) ((HB.out.set 0 _).set 1 _) rfl rfl rfl ⟨?_, ?_⟩
    · rw [HF.out]; rfl
    · (repeat (first | exact HC.out | refine Change.drewN ?_ _ | refine Change.drew ?_ | refine Change.alloc ?_ _ | refine Change.setCell ?_ (.inr (by first | (simp; done) | (simp; omega))) _))
  · have hd := drop_end hlt
    have e0 : ((p : Int) == s.size) = true := by rw [beq_iff_eq]; omega
    have HF : Hid (R = said p (0, 1)) := by
      show _ = _
      rw [HRR.out, hd]; simp only [said]; rw [HP.out]; rfl
    have hpe : p = s.size := by omega
    have HPE := Lib.hid hpe
    clear hd hpe
    go_wp2
    refine post_said (b := w.heap.size) ((HB.out.set 0 _).set 1 _) rfl rfl rfl ⟨?_, ?_⟩
    · rw [HF.out]; rfl
    · (repeat (first | exact HC.out | refine Change.drewN ?_ _ | refine Change.drew ?_ | refine Change.alloc ?_ _ | refine Change.setCell ?_ (.inr (by first | (simp; done) | (simp; omega))) _))

end Go.Proofs.YtgnefbngkhjfcaaGreatDoor
/-
  The reference for JSON: arrays and objects.
-/
set_option linter.unusedSimpArgs false
set_option linter.unusedVariables false
namespace Go.Proofs.YtgnefbngkhjfcaaGreatDoor
open Go.RowKit Go.Tg Tg.Json

/-- an element, and what comes behind it -/
def elem (val : List UInt8 → Nat × Nat) (o : Bool) (next : List UInt8 → Nat × Nat) (l : List UInt8) : Nat × Nat :=
  if (val l).2 ≠ 4 then val l else add (val l).1 (behindElem o next (l.drop (val l).1))
theorem list_eq (val : List UInt8 → Nat × Nat) (o one : Bool) (g : Nat) (l : List UInt8) : list val o (g + 1) one l =
    match l.drop (skip l) with
    | [] => (skip l, 1)
    | b :: r =>
      if one ∧ b = close o then (skip l + 1, 4)
      else add (skip l)
        (if (named o (b :: r)).2 ≠ 4 then named o (b :: r)
         else add (named o (b :: r)).1 (elem val o (list val o g false) ((b :: r).drop (named o (b :: r)).1))) := rfl
theorem valI {d : Nat} (h : ValC d) (s : ByteArray) (a : Nat) (x : Int) (w : World) (hs : s.size ≤ 1048576) (ha : a ≤ s.size) (hx : x = a) :
  Calls Tryz.prog 43 #[.string s, .int .i64 x, .int .i64 d] w fun e w' => e = .returned (said a (value d (s.data.toList.drop a))) ∧ Change (fun _ => False) w w' := by
  subst hx; exact h s a w hs ha
theorem skipI (s : ByteArray) (a : Nat) (x : Int) (w : World) (hs : s.size ≤ 1048576) (ha : a ≤ s.size) (hx : x = a) :
    Calls Tryz.prog 44 #[.string s, .int .i64 x] w fun e w' => (∃ p : Nat, e = .returned (.int .i64 p) ∧ p ≤ s.size ∧ Hid (p = a + skip (s.data.toList.drop a))) ∧ w = w' := by
  subst hx
  have hsk := skip_le (s.data.toList.drop a)
  simp only [List.length_drop, Array.length_toList] at hsk
  have hsz : s.data.size = s.size := rfl
  refine (skip_any s a w (by unfold maxLen; omega) ha).mono ?_
  rintro e w' ⟨rfl, rfl⟩
  exact ⟨⟨_, rfl, by omega, rfl⟩, rfl⟩
theorem value_le (d : Nat) (l : List UInt8) (h : (value d l).2 = 4) : (value d l).1 ≤ l.length := by
  rcases value_goes d d [] (by simp) (M.start d) l rfl rfl rfl (.inl rfl) with ⟨_, h, _⟩ | ⟨h1, _⟩ | ⟨h1, _⟩
  · exact h
  · omega
  · omega
theorem quote_le (l : List UInt8) (h : (quote 0 l).2 = 4) : (quote 0 l).1 ≤ l.length := by
  rcases quote_goes l 0 { M.start 0 with pos := 6 } rfl rfl (by intro h; omega) (by omega) with ⟨_, h, _⟩ | ⟨h1, _⟩ | ⟨h1, _⟩
  · exact h
  · omega
  · omega
theorem behind_at (o : Bool) (next : List UInt8 → Nat × Nat) (s : ByteArray) (q t : Nat) (ht : t = q + skip (s.data.toList.drop q)) :
    said q (behindElem o next (s.data.toList.drop q)) = (match s.data.toList.drop t with
      | [] => said t (0, 1)
      | c :: r => if c = close o then said (t + 1) (0, 4) else if c ≠ 44 then said t (0, 0) else said (t + 1) (next r)) := by
  subst ht
  unfold behindElem
  rw [List.drop_drop]
  generalize s.data.toList.drop (q + skip (s.data.toList.drop q)) = m
  cases m with
  | nil => rfl
  | cons c r =>
    simp only
    by_cases h1 : c = close o
    · rw [if_pos h1, if_pos h1]; simp only [said]; rfl
    · rw [if_neg h1, if_neg h1]
      by_cases h2 : c ≠ 44
      · rw [if_pos h2, if_pos h2]; rfl
      · rw [if_neg h2, if_neg h2, said_add]; rfl


set_option maxHeartbeats 16000000 in
set_option maxRecDepth 100000 in
theorem list_arr (d : Nat) (hd1000 : d ≤ 1000) (hv : ValC d) (s : ByteArray) (a : Nat) (w : World) (hs : s.size ≤ 1048576) (ha : a ≤ s.size) :
  Calls Tryz.prog 62 #[.string s, .int .i64 a, .int .i64 d, .bool false] w fun e w' => e = .returned (said a (list (value d) false ((s.data.toList.drop a).length + 1) true (s.data.toList.drop a))) ∧ Change (fun _ => False) w w' := by
  obtain ⟨R, hR⟩ : ∃ R, R = said a (list (value d) false ((s.data.toList.drop a).length + 1) true (s.data.toList.drop a)) := ⟨_, rfl⟩
  rw [← hR]
  have HR := Lib.hid hR
  have HV := Lib.hid hv
  clear hR hv
  go_enter Tryz.func62, Tryz.ntmps62
  go_wp2
  go_loopw [1, 10] (fun i n wr => ∃ k nn f : Nat, k ≤ s.size ∧ nn ≤ k ∧ i = .int .i64 k ∧ n = .int .i64 nn ∧ s.size - k < f ∧ Hid (said k (list (value d) false f (nn == 0) (s.data.toList.drop k)) = R) ∧ Blk wr w.heap.size 61 #[.int .i64 0, .int .i64 0] ∧ Change (fun _ => False) w wr) (fun i _ _ => s.size - (intOf i).toNat)
  case atStart =>
    refine ⟨a, 0, _, ha, Nat.zero_le _, rfl, rfl, ?_, HR.out.symm, Blk.new _ _ _, (Change.refl _ w).alloc _⟩
    have hsz : s.data.size = s.size := rfl
    simp only [List.length_drop, Array.length_toList]; omega
  case round =>
    obtain ⟨k, nn, f, hk, hnk, rfl, rfl, hfl, hF, hb, hc⟩ := hrel
    obtain ⟨g, rfl⟩ : ∃ g, f = g + 1 := ⟨f - 1, by omega⟩
    obtain ⟨c0, c1, hf⟩ := blk_agg hb
    have HB := Lib.hid hb
    have HC := Lib.hid hc
    clear hb hc
    go_wp2_with fail
    refine (skipI s k _ _ hs hk rfl).mono ?_
    rintro e w1 ⟨⟨p, rfl, hps, hP⟩, rfl⟩
    have hkp : k ≤ p := by have := hP.out; omega
    by_cases hlt : p < s.size
    · have hd := Lib.hid (drop_cons hlt)
      have e0 : ((p : Int) == s.size) = false := by rw [beq_eq_false_iff_ne]; omega
      have HL : Hid (R = if (nn == 0) = true ∧ s[p] = close false then said (p + 1) (0, 4) else said p (if (named false (s[p] :: s.data.toList.drop (p + 1))).2 ≠ 4 then named false (s[p] :: s.data.toList.drop (p + 1)) else add (named false (s[p] :: s.data.toList.drop (p + 1))).1 (elem (value d) false (list (value d) false g false) ((s[p] :: s.data.toList.drop (p + 1)).drop (named false (s[p] :: s.data.toList.drop (p + 1))).1)))) := by
        show _ = _
        rw [← hF.out, list_eq, List.drop_drop, ← hP.out, hd.out]; simp only
        split
        · simp only [said]; rw [hP.out]; rfl
        · rw [said_add, ← hP.out]
      go_upto_region 9 with (fail)
      go_cut [33] from 14 to 103 (fun v wx => (Blk wx w.heap.size 61 #[.int .i64 0, .int .i64 0] ∧ Change (fun _ => False) w wx) ∧ ∃ pt : Bool, v = .bool pt ∧ Hid (pt = true ↔ ((nn == 0) = true ∧ s[p] = close false)))
      case first =>
        by_cases hn : nn = 0
        · subst hn
          rcases u8_is s[p] 93 93 rfl with ⟨b1, n1⟩ | ⟨b1, n1⟩
          · have B1 := Lib.hid b1
            clear b1
            go_wp2
            go_meet
            exact ⟨⟨HB.out, HC.out⟩, true, rfl, ⟨fun _ => ⟨rfl, B1.out⟩, fun _ => rfl⟩⟩
          · have B1 := Lib.hid b1
            clear b1
            go_wp2
            go_meet
            exact ⟨⟨HB.out, HC.out⟩, false, rfl, ⟨fun h => by simp at h, fun h => absurd h.2 B1.out⟩⟩
        · have n0 : ((nn : Int) == 0) = false := by rw [beq_eq_false_iff_ne]; omega
          have n0' : (nn == 0) = false := by rw [beq_eq_false_iff_ne]; exact hn
          have N0 := Lib.hid n0'
          clear n0'
          go_wp2
          go_meet
          exact ⟨⟨HB.out, HC.out⟩, false, rfl, ⟨fun h => by simp at h, fun h => by rw [N0.out] at h; simp at h⟩⟩
      case rest =>
      obtain ⟨⟨hb, hc⟩, pt, rfl, hpt⟩ := hcut
      clear c0 c1 hf
      obtain ⟨c0, c1, hf⟩ := blk_agg hb
      have HB := Lib.hid hb
      have HC := Lib.hid hc
      clear hb hc
      cases pt
      rotate_left
      · have HF : Hid (R = said (p + 1) (0, 4)) := by
          show _ = _
          rw [HL.out, if_pos (hpt.out.1 rfl)]
        go_wp2
        refine post_said (b := w.heap.size) (((HB.out.set 0 _).set 1 _)) rfl rfl rfl ⟨?_, ?_⟩
        · rw [HF.out]; rfl
        · (repeat (first | exact HC.out | refine Change.drewN ?_ _ | refine Change.drew ?_ | refine Change.alloc ?_ _ | refine Change.setCell ?_ (.inr (by first | (simp; done) | (simp; omega) | omega)) _))

      have HL2 : Hid (R = said p (if (named false (s[p] :: s.data.toList.drop (p + 1))).2 ≠ 4 then named false (s[p] :: s.data.toList.drop (p + 1)) else add (named false (s[p] :: s.data.toList.drop (p + 1))).1 (elem (value d) false (list (value d) false g false) ((s[p] :: s.data.toList.drop (p + 1)).drop (named false (s[p] :: s.data.toList.drop (p + 1))).1)))) := by
        show _ = _
        rw [HL.out, if_neg (fun h => by have := hpt.out.2 h; simp at this)]
      have HE : Hid (R = said p (elem (value d) false (list (value d) false g false) (s.data.toList.drop p))) := by
        show _ = _
        rw [HL2.out, hd.out]; rfl
      go_wp2_with fail
      refine (valI HV.out s (p) _ _ hs (by omega) (by omega)).mono ?_
      rintro e w2 ⟨rfl, hc2⟩
      have hc3 := (HC.out).trans hc2 (fun i h => h.elim)
      have hb3 := (HB.out).of_change hc2 (fun h => h)
      clear c0 c1 hf
      obtain ⟨c0, c1, hf⟩ := blk_agg hb3
      have HB3 := Lib.hid hb3
      have HC3 := Lib.hid hc3
      have hlt2 := hb3.lt
      clear hb3 hc3 hc2
      obtain ⟨rn, rs, hsd, hrn, hrs⟩ := said_open (p) (value d (s.data.toList.drop (p)))
      have hvl := value_le d (s.data.toList.drop (p))
      simp only [List.length_drop, Array.length_toList] at hvl
      have hsz : s.data.size = s.size := rfl
      rw [hsz] at hvl
      have HE2 : Hid (R = said (p) (elem (value d) false (list (value d) false g false) (s.data.toList.drop (p)))) := HE
      rw [hsd]
      by_cases h4 : (value d (s.data.toList.drop (p))).2 = 4
      · obtain ⟨q, hq⟩ : ∃ q, q = (p) + (value d (s.data.toList.drop (p))).1 := ⟨_, rfl⟩
        have hqs : q ≤ s.size := by have := hvl h4; omega
        have HQ : Hid (R = said q (behindElem false (list (value d) false g false) (s.data.toList.drop q))) := by
          show _ = _
          rw [HE2.out, elem, if_neg (by simp [h4]), said_add, List.drop_drop, ← hq]
        have e4 : rs = -1 := by rw [hrs, h4]; rfl
        have eq : rn = q := by rw [hrn, hq]
        have hqat : (p) ≤ q := by omega
        subst e4 eq
        clear hsd hrs hrn hq h4 hvl hsz
        go_wp2_with fail
        refine (skipI s q _ _ hs hqs (by first | rfl | omega)).mono ?_
        rintro e w3 ⟨⟨t, rfl, hts, hT⟩, rfl⟩
        have htq : q ≤ t := by have := hT.out; omega
        have HBH := Lib.hid (behind_at false (list (value d) false g false) s q t hT.out)
        by_cases hlt3 : t < s.size
        · have hd3 := Lib.hid (drop_cons hlt3)
          have e5 : ((t : Int) == s.size) = false := by rw [beq_eq_false_iff_ne]; omega
          rcases u8_is s[t] 93 93 rfl with ⟨b1, n1⟩ | ⟨b1, n1⟩
          · have B1 := Lib.hid b1
            clear b1
            have HF : Hid (R = said (t + 1) (0, 4)) := by
              show _ = _
              rw [HQ.out, HBH.out, hd3.out]; simp only; rw [if_pos (by rw [B1.out]; rfl)]
            go_wp2
            refine post_said (b := w.heap.size) (((HB3.out.set 0 _).set 1 _).alloc _) rfl rfl rfl ⟨?_, ?_⟩
            · rw [HF.out]; rfl
            · (repeat (first | exact HC3.out | refine Change.drewN ?_ _ | refine Change.drew ?_ | refine Change.alloc ?_ _ | refine Change.setCell ?_ (.inr (by first | (simp; done) | (simp; omega) | omega)) _))

          · have B1 := Lib.hid b1
            clear b1
            rcases u8_is s[t] 44 44 rfl with ⟨b2, n2⟩ | ⟨b2, n2⟩
            · have n2' : ((s[t].toNat : Int) != 44) = false := by simp only [bne, n2]; rfl
              have B2 := Lib.hid b2
              clear b2 n2
              have HF : Hid (R = said (t + 1) (list (value d) false g false (s.data.toList.drop (t + 1)))) := by
                show _ = _
                rw [HQ.out, HBH.out, hd3.out]; simp only; rw [if_neg (show ¬ s[t] = close false from B1.out), if_neg (by simp [B2.out])]
              go_wp2
              refine ⟨⟨t + 1, nn + 1, g, by omega, by omega, by go_num, by go_num, by omega, ?_, ?_, ?_⟩, by simp [intOf]; omega⟩
              · show _ = _
                rw [HF.out]; rfl
              · repeat (first | exact HB3.out | refine Blk.alloc ?_ _)
              · (repeat (first | exact HC3.out | refine Change.drewN ?_ _ | refine Change.drew ?_ | refine Change.alloc ?_ _ | refine Change.setCell ?_ (.inr (by first | (simp; done) | (simp; omega) | omega)) _))
            · have n2' : ((s[t].toNat : Int) != 44) = true := by simp only [bne, n2]; rfl
              have B2 := Lib.hid b2
              clear b2 n2
              have HF : Hid (R = said t (0, 0)) := by
                show _ = _
                rw [HQ.out, HBH.out, hd3.out]; simp only; rw [if_neg (show ¬ s[t] = close false from B1.out), if_pos B2.out]
              go_wp2
              refine post_said (b := w.heap.size) (((HB3.out.set 0 _).set 1 _).alloc _) rfl rfl rfl ⟨?_, ?_⟩
              · rw [HF.out]; rfl
              · (repeat (first | exact HC3.out | refine Change.drewN ?_ _ | refine Change.drew ?_ | refine Change.alloc ?_ _ | refine Change.setCell ?_ (.inr (by first | (simp; done) | (simp; omega) | omega)) _))

        · have hd3 := Lib.hid (drop_end hlt3)
          have e5 : ((t : Int) == s.size) = true := by rw [beq_iff_eq]; omega
          have HF : Hid (R = said t (0, 1)) := by
            show _ = _
            rw [HQ.out, HBH.out, hd3.out]
          go_wp2
          refine post_said (b := w.heap.size) (((HB3.out.set 0 _).set 1 _).alloc _) rfl rfl rfl ⟨?_, ?_⟩
          · rw [HF.out]; rfl
          · (repeat (first | exact HC3.out | refine Change.drewN ?_ _ | refine Change.drew ?_ | refine Change.alloc ?_ _ | refine Change.setCell ?_ (.inr (by first | (simp; done) | (simp; omega) | omega)) _))

      · have HQ : Hid (R = .agg #[.int .i64 rn, .int .i64 rs]) := by
          show _ = _
          rw [HE2.out, elem, if_pos h4, hsd]
        have e4 : (rs != -1) = true := by rw [bne_iff_ne, hrs]; exact fun h => h4 ((stv_four _).1 h)
        clear hsd hrs hrn h4 hvl hsz
        go_wp2
        refine post_said (b := w.heap.size) (((HB3.out.set 0 _).set 1 _).alloc _) rfl rfl rfl ⟨?_, ?_⟩
        · rw [HQ.out]
        · (repeat (first | exact HC3.out | refine Change.drewN ?_ _ | refine Change.drew ?_ | refine Change.alloc ?_ _ | refine Change.setCell ?_ (.inr (by first | (simp; done) | (simp; omega) | omega)) _))

    · have hd := Lib.hid (drop_end hlt)
      have e0 : ((p : Int) == s.size) = true := by rw [beq_iff_eq]; omega
      have HF : Hid (R = said p (0, 1)) := by
        show _ = _
        rw [← hF.out, list_eq, List.drop_drop, ← hP.out, hd.out]; simp only [said]; rw [hP.out]; rfl
      go_wp2
      refine post_said (b := w.heap.size) (((HB.out.set 0 _).set 1 _)) rfl rfl rfl ⟨?_, ?_⟩
      · rw [HF.out]; rfl
      · (repeat (first | exact HC.out | refine Change.drewN ?_ _ | refine Change.drew ?_ | refine Change.alloc ?_ _ | refine Change.setCell ?_ (.inr (by first | (simp; done) | (simp; omega) | omega)) _))


end Go.Proofs.YtgnefbngkhjfcaaGreatDoor
