/-
  Texts joined, part 5: Facts, LgApp, LgQui, LgMore, LgNum, StBase, PgS, PgT, LgCut, StRune, StAny, StBld, StRows, StFld, StLib, StEnv, LgObj, StBldW, UrCode, UrCodeB, UrCodeC, ScSplit, UrSplit, UrDots, NuPlain, NuParts, UrNum.
-/
import Derived.Test.YthgcgjpbhbikaaaGreatDoorRows
import Derived.Test.YthgcgjpbhbikaaaGreatDoorM4
import Derived.Test.YthgcgjpbhbikaaaGreatDoorM1
import Derived.Laws.Runes
import Derived.Test.YthgcgjpbhbikaaaGreatDoorM3
import Derived.Lib.SlTrimSet
set_option linter.unusedSimpArgs false
namespace Go.Proofs.YthgcgjpbhbikaaaGreatDoor
open Go.Lg
attribute [simp] Tryz.underlying0
@[simp] theorem sz0 : sz Tryz.prog 0 = some 1 := by kernel_rfl
@[simp] theorem zr0 : zr Tryz.prog 0 = some (.tuple #[]) := by kernel_rfl
@[simp] theorem lesz0 : lesz Tryz.prog 0 = some 1 := by kernel_rfl
attribute [simp] Tryz.underlying1
attribute [simp] Tryz.underlying2
@[simp] theorem sz2 : sz Tryz.prog 2 = some 1 := by kernel_rfl
@[simp] theorem agg2 : aggB Tryz.prog 2 = some false := by kernel_rfl
@[simp] theorem zr2 : zr Tryz.prog 2 = some (.int .i64 0) := by kernel_rfl
@[simp] theorem lesz2 : lesz Tryz.prog 2 = some 1 := by kernel_rfl
attribute [simp] Tryz.underlying3
@[simp] theorem sz3 : sz Tryz.prog 3 = some 1 := by kernel_rfl
@[simp] theorem agg3 : aggB Tryz.prog 3 = some false := by kernel_rfl
@[simp] theorem zr3 : zr Tryz.prog 3 = some (.int .i64 0) := by kernel_rfl
@[simp] theorem lesz3 : lesz Tryz.prog 3 = some 1 := by kernel_rfl
attribute [simp] Tryz.underlying4
@[simp] theorem sz4 : sz Tryz.prog 4 = some 1 := by kernel_rfl
@[simp] theorem agg4 : aggB Tryz.prog 4 = some false := by kernel_rfl
@[simp] theorem zr4 : zr Tryz.prog 4 = some (.bool false) := by kernel_rfl
@[simp] theorem lesz4 : lesz Tryz.prog 4 = some 1 := by kernel_rfl
attribute [simp] Tryz.underlying5
@[simp] theorem sz5 : sz Tryz.prog 5 = some 1 := by kernel_rfl
@[simp] theorem agg5 : aggB Tryz.prog 5 = some false := by kernel_rfl
@[simp] theorem zr5 : zr Tryz.prog 5 = some (.int .u8 0) := by kernel_rfl
@[simp] theorem lesz5 : lesz Tryz.prog 5 = some 1 := by kernel_rfl
attribute [simp] Tryz.underlying6
@[simp] theorem sz6 : sz Tryz.prog 6 = some 1 := by kernel_rfl
@[simp] theorem agg6 : aggB Tryz.prog 6 = some false := by kernel_rfl
@[simp] theorem zr6 : zr Tryz.prog 6 = some (.int .u8 0) := by kernel_rfl
@[simp] theorem lesz6 : lesz Tryz.prog 6 = some 1 := by kernel_rfl
@[simp] theorem plc7 : plcB Tryz.prog 7 = true := by kernel_rfl
@[simp] theorem fld7_0 : fldi Tryz.prog 7 0 = some (0, 1, false) := by kernel_rfl
@[simp] theorem fld7_1 : fldi Tryz.prog 7 1 = some (1, 1, false) := by kernel_rfl
@[simp] theorem fld7_2 : fldi Tryz.prog 7 2 = some (2, 1, false) := by kernel_rfl
@[simp] theorem fld7_3 : fldi Tryz.prog 7 3 = some (3, 1, false) := by kernel_rfl
@[simp] theorem sz7 : sz Tryz.prog 7 = some 4 := by kernel_rfl
@[simp] theorem agg7 : aggB Tryz.prog 7 = some true := by kernel_rfl
@[simp] theorem zr7 : zr Tryz.prog 7 = some (.agg #[.int .i64 0, .int .i64 0, .bool false, .int .u8 0]) := by kernel_rfl
@[simp] theorem lesz7 : lesz Tryz.prog 7 = some 4 := by kernel_rfl
@[simp] theorem plc8 : plcB Tryz.prog 8 = true := by kernel_rfl
@[simp] theorem fld8_0 : fldi Tryz.prog 8 0 = some (0, 1, false) := by kernel_rfl
@[simp] theorem fld8_1 : fldi Tryz.prog 8 1 = some (1, 1, false) := by kernel_rfl
@[simp] theorem fld8_2 : fldi Tryz.prog 8 2 = some (2, 1, false) := by kernel_rfl
@[simp] theorem fld8_3 : fldi Tryz.prog 8 3 = some (3, 1, false) := by kernel_rfl
@[simp] theorem sz8 : sz Tryz.prog 8 = some 4 := by kernel_rfl
@[simp] theorem agg8 : aggB Tryz.prog 8 = some true := by kernel_rfl
@[simp] theorem zr8 : zr Tryz.prog 8 = some (.agg #[.int .i64 0, .int .i64 0, .bool false, .int .u8 0]) := by kernel_rfl
@[simp] theorem lesz8 : lesz Tryz.prog 8 = some 4 := by kernel_rfl
attribute [simp] Tryz.underlying9
@[simp] theorem sz9 : sz Tryz.prog 9 = some 1 := by kernel_rfl
@[simp] theorem agg9 : aggB Tryz.prog 9 = some false := by kernel_rfl
@[simp] theorem zr9 : zr Tryz.prog 9 = some (.string ⟨#[]⟩) := by kernel_rfl
@[simp] theorem lesz9 : lesz Tryz.prog 9 = some 1 := by kernel_rfl
attribute [simp] Tryz.underlying10
@[simp] theorem sz10 : sz Tryz.prog 10 = some 1 := by kernel_rfl
@[simp] theorem agg10 : aggB Tryz.prog 10 = some false := by kernel_rfl
@[simp] theorem zr10 : zr Tryz.prog 10 = some (.string ⟨#[]⟩) := by kernel_rfl
@[simp] theorem lesz10 : lesz Tryz.prog 10 = some 1 := by kernel_rfl
attribute [simp] Tryz.underlying11
@[simp] theorem sz11 : sz Tryz.prog 11 = some 1 := by kernel_rfl
@[simp] theorem agg11 : aggB Tryz.prog 11 = some false := by kernel_rfl
@[simp] theorem zr11 : zr Tryz.prog 11 = some (.string ⟨#[]⟩) := by kernel_rfl
@[simp] theorem lesz11 : lesz Tryz.prog 11 = some 1 := by kernel_rfl
attribute [simp] Tryz.underlying12
@[simp] theorem sz12 : sz Tryz.prog 12 = some 1 := by kernel_rfl
@[simp] theorem agg12 : aggB Tryz.prog 12 = some false := by kernel_rfl
@[simp] theorem zr12 : zr Tryz.prog 12 = some (.int .u64 0) := by kernel_rfl
@[simp] theorem lesz12 : lesz Tryz.prog 12 = some 1 := by kernel_rfl
@[simp] theorem plc13 : plcB Tryz.prog 13 = true := by kernel_rfl
@[simp] theorem fld13_0 : fldi Tryz.prog 13 0 = some (0, 1, false) := by kernel_rfl
@[simp] theorem fld13_1 : fldi Tryz.prog 13 1 = some (1, 1, false) := by kernel_rfl
@[simp] theorem sz13 : sz Tryz.prog 13 = some 2 := by kernel_rfl
@[simp] theorem agg13 : aggB Tryz.prog 13 = some true := by kernel_rfl
@[simp] theorem zr13 : zr Tryz.prog 13 = some (.agg #[.string ⟨#[]⟩, .int .u64 0]) := by kernel_rfl
@[simp] theorem lesz13 : lesz Tryz.prog 13 = some 2 := by kernel_rfl
@[simp] theorem plc14 : plcB Tryz.prog 14 = true := by kernel_rfl
@[simp] theorem fld14_0 : fldi Tryz.prog 14 0 = some (0, 1, false) := by kernel_rfl
@[simp] theorem fld14_1 : fldi Tryz.prog 14 1 = some (1, 1, false) := by kernel_rfl
@[simp] theorem sz14 : sz Tryz.prog 14 = some 2 := by kernel_rfl
@[simp] theorem agg14 : aggB Tryz.prog 14 = some true := by kernel_rfl
@[simp] theorem zr14 : zr Tryz.prog 14 = some (.agg #[.string ⟨#[]⟩, .int .u64 0]) := by kernel_rfl
@[simp] theorem lesz14 : lesz Tryz.prog 14 = some 2 := by kernel_rfl
attribute [simp] Tryz.underlying15
@[simp] theorem sz15 : sz Tryz.prog 15 = some 1 := by kernel_rfl
@[simp] theorem agg15 : aggB Tryz.prog 15 = some false := by kernel_rfl
@[simp] theorem zr15 : zr Tryz.prog 15 = some (.pointer none) := by kernel_rfl
@[simp] theorem lesz15 : lesz Tryz.prog 15 = some 1 := by kernel_rfl
attribute [simp] Tryz.underlying16
@[simp] theorem sz16 : sz Tryz.prog 16 = some 1 := by kernel_rfl
@[simp] theorem agg16 : aggB Tryz.prog 16 = some false := by kernel_rfl
@[simp] theorem zr16 : zr Tryz.prog 16 = some (.pointer none) := by kernel_rfl
@[simp] theorem lesz16 : lesz Tryz.prog 16 = some 1 := by kernel_rfl
attribute [simp] Tryz.underlying17
@[simp] theorem sz17 : sz Tryz.prog 17 = some 1 := by kernel_rfl
@[simp] theorem agg17 : aggB Tryz.prog 17 = some false := by kernel_rfl
@[simp] theorem zr17 : zr Tryz.prog 17 = some (.pointer none) := by kernel_rfl
@[simp] theorem lesz17 : lesz Tryz.prog 17 = some 1 := by kernel_rfl
@[simp] theorem plc18 : plcB Tryz.prog 18 = true := by kernel_rfl
@[simp] theorem fld18_0 : fldi Tryz.prog 18 0 = some (0, 1, false) := by kernel_rfl
@[simp] theorem sz18 : sz Tryz.prog 18 = some 1 := by kernel_rfl
@[simp] theorem agg18 : aggB Tryz.prog 18 = some true := by kernel_rfl
@[simp] theorem zr18 : zr Tryz.prog 18 = some (.agg #[.pointer none]) := by kernel_rfl
@[simp] theorem lesz18 : lesz Tryz.prog 18 = some 1 := by kernel_rfl
@[simp] theorem plc19 : plcB Tryz.prog 19 = true := by kernel_rfl
@[simp] theorem fld19_0 : fldi Tryz.prog 19 0 = some (0, 1, false) := by kernel_rfl
@[simp] theorem sz19 : sz Tryz.prog 19 = some 1 := by kernel_rfl
@[simp] theorem agg19 : aggB Tryz.prog 19 = some true := by kernel_rfl
@[simp] theorem zr19 : zr Tryz.prog 19 = some (.agg #[.pointer none]) := by kernel_rfl
@[simp] theorem lesz19 : lesz Tryz.prog 19 = some 1 := by kernel_rfl
attribute [simp] Tryz.underlying20
attribute [simp] Tryz.underlying21
@[simp] theorem sz21 : sz Tryz.prog 21 = some 1 := by kernel_rfl
@[simp] theorem agg21 : aggB Tryz.prog 21 = some false := by kernel_rfl
@[simp] theorem zr21 : zr Tryz.prog 21 = some (.int .i32 0) := by kernel_rfl
@[simp] theorem lesz21 : lesz Tryz.prog 21 = some 1 := by kernel_rfl
attribute [simp] Tryz.underlying22
@[simp] theorem plc23 : plcB Tryz.prog 23 = true := by kernel_rfl
@[simp] theorem fld23_0 : fldi Tryz.prog 23 0 = some (0, 1, false) := by kernel_rfl
@[simp] theorem fld23_1 : fldi Tryz.prog 23 1 = some (1, 1, false) := by kernel_rfl
@[simp] theorem fld23_2 : fldi Tryz.prog 23 2 = some (2, 1, false) := by kernel_rfl
@[simp] theorem sz23 : sz Tryz.prog 23 = some 3 := by kernel_rfl
@[simp] theorem agg23 : aggB Tryz.prog 23 = some true := by kernel_rfl
@[simp] theorem zr23 : zr Tryz.prog 23 = some (.agg #[.bool false, .int .i64 0, .int .i64 0]) := by kernel_rfl
@[simp] theorem lesz23 : lesz Tryz.prog 23 = some 3 := by kernel_rfl
@[simp] theorem plc24 : plcB Tryz.prog 24 = true := by kernel_rfl
@[simp] theorem fld24_0 : fldi Tryz.prog 24 0 = some (0, 1, false) := by kernel_rfl
@[simp] theorem fld24_1 : fldi Tryz.prog 24 1 = some (1, 1, false) := by kernel_rfl
@[simp] theorem fld24_2 : fldi Tryz.prog 24 2 = some (2, 1, false) := by kernel_rfl
@[simp] theorem sz24 : sz Tryz.prog 24 = some 3 := by kernel_rfl
@[simp] theorem agg24 : aggB Tryz.prog 24 = some true := by kernel_rfl
@[simp] theorem zr24 : zr Tryz.prog 24 = some (.agg #[.bool false, .int .i64 0, .int .i64 0]) := by kernel_rfl
@[simp] theorem lesz24 : lesz Tryz.prog 24 = some 3 := by kernel_rfl
@[simp] theorem plc25 : plcB Tryz.prog 25 = true := by kernel_rfl
@[simp] theorem fld25_0 : fldi Tryz.prog 25 0 = some (0, 3, true) := by kernel_rfl
@[simp] theorem fld25_1 : fldi Tryz.prog 25 1 = some (3, 1, false) := by kernel_rfl
@[simp] theorem fld25_2 : fldi Tryz.prog 25 2 = some (4, 1, false) := by kernel_rfl
@[simp] theorem sz25 : sz Tryz.prog 25 = some 5 := by kernel_rfl
@[simp] theorem agg25 : aggB Tryz.prog 25 = some true := by kernel_rfl
@[simp] theorem zr25 : zr Tryz.prog 25 = some (.agg #[.bool false, .int .i64 0, .int .i64 0, .int .i64 0, .int .i64 0]) := by kernel_rfl
@[simp] theorem lesz25 : lesz Tryz.prog 25 = some 5 := by kernel_rfl
@[simp] theorem plc26 : plcB Tryz.prog 26 = true := by kernel_rfl
@[simp] theorem fld26_0 : fldi Tryz.prog 26 0 = some (0, 3, true) := by kernel_rfl
@[simp] theorem fld26_1 : fldi Tryz.prog 26 1 = some (3, 1, false) := by kernel_rfl
@[simp] theorem fld26_2 : fldi Tryz.prog 26 2 = some (4, 1, false) := by kernel_rfl
@[simp] theorem sz26 : sz Tryz.prog 26 = some 5 := by kernel_rfl
@[simp] theorem agg26 : aggB Tryz.prog 26 = some true := by kernel_rfl
@[simp] theorem zr26 : zr Tryz.prog 26 = some (.agg #[.bool false, .int .i64 0, .int .i64 0, .int .i64 0, .int .i64 0]) := by kernel_rfl
@[simp] theorem lesz26 : lesz Tryz.prog 26 = some 5 := by kernel_rfl
attribute [simp] Tryz.underlying27
@[simp] theorem sz27 : sz Tryz.prog 27 = some 1 := by kernel_rfl
@[simp] theorem agg27 : aggB Tryz.prog 27 = some false := by kernel_rfl
@[simp] theorem zr27 : zr Tryz.prog 27 = some (.slice none 0 0) := by kernel_rfl
@[simp] theorem lesz27 : lesz Tryz.prog 27 = some 1 := by kernel_rfl
attribute [simp] Tryz.underlying28
@[simp] theorem sz28 : sz Tryz.prog 28 = some 1 := by kernel_rfl
@[simp] theorem agg28 : aggB Tryz.prog 28 = some false := by kernel_rfl
@[simp] theorem zr28 : zr Tryz.prog 28 = some (.int .i64 0) := by kernel_rfl
@[simp] theorem lesz28 : lesz Tryz.prog 28 = some 1 := by kernel_rfl
attribute [simp] Tryz.underlying29
@[simp] theorem sz29 : sz Tryz.prog 29 = some 1 := by kernel_rfl
@[simp] theorem zr29 : zr Tryz.prog 29 = some (.tuple #[.agg #[.bool false, .int .i64 0, .int .i64 0, .int .i64 0, .int .i64 0], .slice none 0 0, .int .i64 0, .int .i64 0]) := by kernel_rfl
@[simp] theorem lesz29 : lesz Tryz.prog 29 = some 1 := by kernel_rfl
attribute [simp] Tryz.underlying30
attribute [simp] Tryz.underlying31
attribute [simp] Tryz.underlying32
@[simp] theorem sz32 : sz Tryz.prog 32 = some 1 := by kernel_rfl
@[simp] theorem agg32 : aggB Tryz.prog 32 = some false := by kernel_rfl
@[simp] theorem zr32 : zr Tryz.prog 32 = some (.slice none 0 0) := by kernel_rfl
@[simp] theorem lesz32 : lesz Tryz.prog 32 = some 1 := by kernel_rfl
@[simp] theorem plc33 : plcB Tryz.prog 33 = true := by kernel_rfl
@[simp] theorem fld33_0 : fldi Tryz.prog 33 0 = some (0, 1, false) := by kernel_rfl
@[simp] theorem fld33_1 : fldi Tryz.prog 33 1 = some (1, 1, false) := by kernel_rfl
@[simp] theorem sz33 : sz Tryz.prog 33 = some 2 := by kernel_rfl
@[simp] theorem agg33 : aggB Tryz.prog 33 = some true := by kernel_rfl
@[simp] theorem zr33 : zr Tryz.prog 33 = some (.agg #[.int .i64 0, .slice none 0 0]) := by kernel_rfl
@[simp] theorem lesz33 : lesz Tryz.prog 33 = some 2 := by kernel_rfl
@[simp] theorem plc34 : plcB Tryz.prog 34 = true := by kernel_rfl
@[simp] theorem fld34_0 : fldi Tryz.prog 34 0 = some (0, 1, false) := by kernel_rfl
@[simp] theorem fld34_1 : fldi Tryz.prog 34 1 = some (1, 1, false) := by kernel_rfl
@[simp] theorem sz34 : sz Tryz.prog 34 = some 2 := by kernel_rfl
@[simp] theorem agg34 : aggB Tryz.prog 34 = some true := by kernel_rfl
@[simp] theorem zr34 : zr Tryz.prog 34 = some (.agg #[.int .i64 0, .slice none 0 0]) := by kernel_rfl
@[simp] theorem lesz34 : lesz Tryz.prog 34 = some 2 := by kernel_rfl
@[simp] theorem plc35 : plcB Tryz.prog 35 = true := by kernel_rfl
@[simp] theorem fld35_0 : fldi Tryz.prog 35 0 = some (0, 1, false) := by kernel_rfl
@[simp] theorem fld35_1 : fldi Tryz.prog 35 1 = some (1, 1, false) := by kernel_rfl
@[simp] theorem fld35_2 : fldi Tryz.prog 35 2 = some (2, 1, false) := by kernel_rfl
@[simp] theorem fld35_3 : fldi Tryz.prog 35 3 = some (3, 1, false) := by kernel_rfl
@[simp] theorem fld35_4 : fldi Tryz.prog 35 4 = some (4, 1, false) := by kernel_rfl
@[simp] theorem fld35_5 : fldi Tryz.prog 35 5 = some (5, 1, false) := by kernel_rfl
@[simp] theorem fld35_6 : fldi Tryz.prog 35 6 = some (6, 2, true) := by kernel_rfl
@[simp] theorem fld35_7 : fldi Tryz.prog 35 7 = some (8, 1, false) := by kernel_rfl
@[simp] theorem sz35 : sz Tryz.prog 35 = some 9 := by kernel_rfl
@[simp] theorem agg35 : aggB Tryz.prog 35 = some true := by kernel_rfl
@[simp] theorem zr35 : zr Tryz.prog 35 = some (.agg #[.int .i64 0, .int .i64 0, .string ⟨#[]⟩, .string ⟨#[]⟩, .string ⟨#[]⟩, .int .i64 0, .int .i64 0, .slice none 0 0, .string ⟨#[]⟩]) := by kernel_rfl
@[simp] theorem lesz35 : lesz Tryz.prog 35 = some 9 := by kernel_rfl
@[simp] theorem plc36 : plcB Tryz.prog 36 = true := by kernel_rfl
@[simp] theorem fld36_0 : fldi Tryz.prog 36 0 = some (0, 1, false) := by kernel_rfl
@[simp] theorem fld36_1 : fldi Tryz.prog 36 1 = some (1, 1, false) := by kernel_rfl
@[simp] theorem fld36_2 : fldi Tryz.prog 36 2 = some (2, 1, false) := by kernel_rfl
@[simp] theorem fld36_3 : fldi Tryz.prog 36 3 = some (3, 1, false) := by kernel_rfl
@[simp] theorem fld36_4 : fldi Tryz.prog 36 4 = some (4, 1, false) := by kernel_rfl
@[simp] theorem fld36_5 : fldi Tryz.prog 36 5 = some (5, 1, false) := by kernel_rfl
@[simp] theorem fld36_6 : fldi Tryz.prog 36 6 = some (6, 2, true) := by kernel_rfl
@[simp] theorem fld36_7 : fldi Tryz.prog 36 7 = some (8, 1, false) := by kernel_rfl
@[simp] theorem sz36 : sz Tryz.prog 36 = some 9 := by kernel_rfl
@[simp] theorem agg36 : aggB Tryz.prog 36 = some true := by kernel_rfl
@[simp] theorem zr36 : zr Tryz.prog 36 = some (.agg #[.int .i64 0, .int .i64 0, .string ⟨#[]⟩, .string ⟨#[]⟩, .string ⟨#[]⟩, .int .i64 0, .int .i64 0, .slice none 0 0, .string ⟨#[]⟩]) := by kernel_rfl
@[simp] theorem lesz36 : lesz Tryz.prog 36 = some 9 := by kernel_rfl
attribute [simp] Tryz.underlying37
attribute [simp] Tryz.underlying38
attribute [simp] Tryz.underlying39
attribute [simp] Tryz.underlying40
@[simp] theorem sz40 : sz Tryz.prog 40 = some 1 := by kernel_rfl
@[simp] theorem agg40 : aggB Tryz.prog 40 = some false := by kernel_rfl
@[simp] theorem zr40 : zr Tryz.prog 40 = some (.slice none 0 0) := by kernel_rfl
@[simp] theorem lesz40 : lesz Tryz.prog 40 = some 1 := by kernel_rfl
attribute [simp] Tryz.underlying41
attribute [simp] Tryz.underlying42
attribute [simp] Tryz.underlying43
@[simp] theorem sz43 : sz Tryz.prog 43 = some 1 := by kernel_rfl
@[simp] theorem zr43 : zr Tryz.prog 43 = some (.tuple #[.string ⟨#[]⟩, .bool false]) := by kernel_rfl
@[simp] theorem lesz43 : lesz Tryz.prog 43 = some 1 := by kernel_rfl
attribute [simp] Tryz.underlying44
attribute [simp] Tryz.underlying45
attribute [simp] Tryz.underlying46
attribute [simp] Tryz.underlying47
attribute [simp] Tryz.underlying48
@[simp] theorem sz48 : sz Tryz.prog 48 = some 1 := by kernel_rfl
@[simp] theorem zr48 : zr Tryz.prog 48 = some (.tuple #[.slice none 0 0, .int .i64 0]) := by kernel_rfl
@[simp] theorem lesz48 : lesz Tryz.prog 48 = some 1 := by kernel_rfl
attribute [simp] Tryz.underlying49
attribute [simp] Tryz.underlying50
attribute [simp] Tryz.underlying51
attribute [simp] Tryz.underlying52
attribute [simp] Tryz.underlying53
@[simp] theorem plc54 : plcB Tryz.prog 54 = true := by kernel_rfl
@[simp] theorem fld54_0 : fldi Tryz.prog 54 0 = some (0, 1, false) := by kernel_rfl
@[simp] theorem fld54_1 : fldi Tryz.prog 54 1 = some (1, 1, false) := by kernel_rfl
@[simp] theorem fld54_2 : fldi Tryz.prog 54 2 = some (2, 1, false) := by kernel_rfl
@[simp] theorem fld54_3 : fldi Tryz.prog 54 3 = some (3, 1, false) := by kernel_rfl
@[simp] theorem fld54_4 : fldi Tryz.prog 54 4 = some (4, 1, false) := by kernel_rfl
@[simp] theorem fld54_5 : fldi Tryz.prog 54 5 = some (5, 1, false) := by kernel_rfl
@[simp] theorem sz54 : sz Tryz.prog 54 = some 6 := by kernel_rfl
@[simp] theorem agg54 : aggB Tryz.prog 54 = some true := by kernel_rfl
@[simp] theorem zr54 : zr Tryz.prog 54 = some (.agg #[.int .i64 0, .int .i64 0, .int .i64 0, .slice none 0 0, .string ⟨#[]⟩, .string ⟨#[]⟩]) := by kernel_rfl
@[simp] theorem lesz54 : lesz Tryz.prog 54 = some 6 := by kernel_rfl
@[simp] theorem plc55 : plcB Tryz.prog 55 = true := by kernel_rfl
@[simp] theorem fld55_0 : fldi Tryz.prog 55 0 = some (0, 1, false) := by kernel_rfl
@[simp] theorem fld55_1 : fldi Tryz.prog 55 1 = some (1, 1, false) := by kernel_rfl
@[simp] theorem fld55_2 : fldi Tryz.prog 55 2 = some (2, 1, false) := by kernel_rfl
@[simp] theorem fld55_3 : fldi Tryz.prog 55 3 = some (3, 1, false) := by kernel_rfl
@[simp] theorem fld55_4 : fldi Tryz.prog 55 4 = some (4, 1, false) := by kernel_rfl
@[simp] theorem fld55_5 : fldi Tryz.prog 55 5 = some (5, 1, false) := by kernel_rfl
@[simp] theorem sz55 : sz Tryz.prog 55 = some 6 := by kernel_rfl
@[simp] theorem agg55 : aggB Tryz.prog 55 = some true := by kernel_rfl
@[simp] theorem zr55 : zr Tryz.prog 55 = some (.agg #[.int .i64 0, .int .i64 0, .int .i64 0, .slice none 0 0, .string ⟨#[]⟩, .string ⟨#[]⟩]) := by kernel_rfl
@[simp] theorem lesz55 : lesz Tryz.prog 55 = some 6 := by kernel_rfl
attribute [simp] Tryz.underlying56
attribute [simp] Tryz.underlying57
attribute [simp] Tryz.underlying58
attribute [simp] Tryz.underlying59
@[simp] theorem sz59 : sz Tryz.prog 59 = some 1 := by kernel_rfl
@[simp] theorem agg59 : aggB Tryz.prog 59 = some false := by kernel_rfl
@[simp] theorem zr59 : zr Tryz.prog 59 = some (.slice none 0 0) := by kernel_rfl
@[simp] theorem lesz59 : lesz Tryz.prog 59 = some 1 := by kernel_rfl
attribute [simp] Tryz.underlying60
@[simp] theorem sz60 : sz Tryz.prog 60 = some 1 := by kernel_rfl
@[simp] theorem zr60 : zr Tryz.prog 60 = some (.tuple #[.string ⟨#[]⟩, .int .i64 0, .int .i64 0]) := by kernel_rfl
@[simp] theorem lesz60 : lesz Tryz.prog 60 = some 1 := by kernel_rfl
attribute [simp] Tryz.underlying61
attribute [simp] Tryz.underlying62
attribute [simp] Tryz.underlying63
@[simp] theorem sz63 : sz Tryz.prog 63 = some 1 := by kernel_rfl
@[simp] theorem zr63 : zr Tryz.prog 63 = some (.tuple #[.string ⟨#[]⟩, .int .i64 0]) := by kernel_rfl
@[simp] theorem lesz63 : lesz Tryz.prog 63 = some 1 := by kernel_rfl
attribute [simp] Tryz.underlying64
attribute [simp] Tryz.underlying65
attribute [simp] Tryz.underlying66
attribute [simp] Tryz.underlying67
attribute [simp] Tryz.underlying68
@[simp] theorem sz68 : sz Tryz.prog 68 = some 1 := by kernel_rfl
@[simp] theorem zr68 : zr Tryz.prog 68 = some (.tuple #[.agg #[.bool false, .int .i64 0, .int .i64 0, .int .i64 0, .int .i64 0], .bool false]) := by kernel_rfl
@[simp] theorem lesz68 : lesz Tryz.prog 68 = some 1 := by kernel_rfl
attribute [simp] Tryz.underlying69
attribute [simp] Tryz.underlying70
@[simp] theorem sz70 : sz Tryz.prog 70 = some 1 := by kernel_rfl
@[simp] theorem zr70 : zr Tryz.prog 70 = some (.tuple #[.agg #[.int .i64 0, .int .i64 0, .string ⟨#[]⟩, .string ⟨#[]⟩, .string ⟨#[]⟩, .int .i64 0, .int .i64 0, .slice none 0 0, .string ⟨#[]⟩], .int .i64 0, .bool false]) := by kernel_rfl
@[simp] theorem lesz70 : lesz Tryz.prog 70 = some 1 := by kernel_rfl
attribute [simp] Tryz.underlying71
attribute [simp] Tryz.underlying72
attribute [simp] Tryz.underlying73
attribute [simp] Tryz.underlying74
attribute [simp] Tryz.underlying75
attribute [simp] Tryz.underlying76
@[simp] theorem plc77 : plcB Tryz.prog 77 = true := by kernel_rfl
@[simp] theorem fld77_0 : fldi Tryz.prog 77 0 = some (0, 1, false) := by kernel_rfl
@[simp] theorem fld77_1 : fldi Tryz.prog 77 1 = some (1, 1, false) := by kernel_rfl
@[simp] theorem sz77 : sz Tryz.prog 77 = some 2 := by kernel_rfl
@[simp] theorem agg77 : aggB Tryz.prog 77 = some true := by kernel_rfl
@[simp] theorem zr77 : zr Tryz.prog 77 = some (.agg #[.string ⟨#[]⟩, .string ⟨#[]⟩]) := by kernel_rfl
@[simp] theorem lesz77 : lesz Tryz.prog 77 = some 2 := by kernel_rfl
@[simp] theorem plc78 : plcB Tryz.prog 78 = true := by kernel_rfl
@[simp] theorem fld78_0 : fldi Tryz.prog 78 0 = some (0, 1, false) := by kernel_rfl
@[simp] theorem fld78_1 : fldi Tryz.prog 78 1 = some (1, 1, false) := by kernel_rfl
@[simp] theorem sz78 : sz Tryz.prog 78 = some 2 := by kernel_rfl
@[simp] theorem agg78 : aggB Tryz.prog 78 = some true := by kernel_rfl
@[simp] theorem zr78 : zr Tryz.prog 78 = some (.agg #[.string ⟨#[]⟩, .string ⟨#[]⟩]) := by kernel_rfl
@[simp] theorem lesz78 : lesz Tryz.prog 78 = some 2 := by kernel_rfl
attribute [simp] Tryz.underlying79
attribute [simp] Tryz.underlying80
attribute [simp] Tryz.underlying81
attribute [simp] Tryz.underlying82
@[simp] theorem sz82 : sz Tryz.prog 82 = some 1 := by kernel_rfl
@[simp] theorem agg82 : aggB Tryz.prog 82 = some false := by kernel_rfl
@[simp] theorem zr82 : zr Tryz.prog 82 = some (.pointer none) := by kernel_rfl
@[simp] theorem lesz82 : lesz Tryz.prog 82 = some 1 := by kernel_rfl
@[simp] theorem plc83 : plcB Tryz.prog 83 = true := by kernel_rfl
@[simp] theorem fld83_0 : fldi Tryz.prog 83 0 = some (0, 1, false) := by kernel_rfl
@[simp] theorem fld83_1 : fldi Tryz.prog 83 1 = some (1, 1, false) := by kernel_rfl
@[simp] theorem sz83 : sz Tryz.prog 83 = some 2 := by kernel_rfl
@[simp] theorem agg83 : aggB Tryz.prog 83 = some true := by kernel_rfl
@[simp] theorem zr83 : zr Tryz.prog 83 = some (.agg #[.pointer none, .slice none 0 0]) := by kernel_rfl
@[simp] theorem lesz83 : lesz Tryz.prog 83 = some 2 := by kernel_rfl
@[simp] theorem plc84 : plcB Tryz.prog 84 = true := by kernel_rfl
@[simp] theorem fld84_0 : fldi Tryz.prog 84 0 = some (0, 1, false) := by kernel_rfl
@[simp] theorem fld84_1 : fldi Tryz.prog 84 1 = some (1, 1, false) := by kernel_rfl
@[simp] theorem sz84 : sz Tryz.prog 84 = some 2 := by kernel_rfl
@[simp] theorem agg84 : aggB Tryz.prog 84 = some true := by kernel_rfl
@[simp] theorem zr84 : zr Tryz.prog 84 = some (.agg #[.pointer none, .slice none 0 0]) := by kernel_rfl
@[simp] theorem lesz84 : lesz Tryz.prog 84 = some 2 := by kernel_rfl
attribute [simp] Tryz.underlying85
attribute [simp] Tryz.underlying86
@[simp] theorem sz86 : sz Tryz.prog 86 = some 1 := by kernel_rfl
@[simp] theorem agg86 : aggB Tryz.prog 86 = some false := by kernel_rfl
@[simp] theorem zr86 : zr Tryz.prog 86 = some (.nilIface) := by kernel_rfl
@[simp] theorem lesz86 : lesz Tryz.prog 86 = some 1 := by kernel_rfl
attribute [simp] Tryz.underlying87
@[simp] theorem sz87 : sz Tryz.prog 87 = some 1 := by kernel_rfl
@[simp] theorem zr87 : zr Tryz.prog 87 = some (.tuple #[.int .i64 0, .nilIface]) := by kernel_rfl
@[simp] theorem lesz87 : lesz Tryz.prog 87 = some 1 := by kernel_rfl
attribute [simp] Tryz.underlying88
attribute [simp] Tryz.underlying89
attribute [simp] Tryz.underlying90
attribute [simp] Tryz.underlying91
@[simp] theorem sz91 : sz Tryz.prog 91 = some 1 := by kernel_rfl
@[simp] theorem agg91 : aggB Tryz.prog 91 = some false := by kernel_rfl
@[simp] theorem zr91 : zr Tryz.prog 91 = some (.pointer none) := by kernel_rfl
@[simp] theorem lesz91 : lesz Tryz.prog 91 = some 1 := by kernel_rfl
@[simp] theorem plc92 : plcB Tryz.prog 92 = true := by kernel_rfl
@[simp] theorem fld92_0 : fldi Tryz.prog 92 0 = some (0, 1, false) := by kernel_rfl
@[simp] theorem sz92 : sz Tryz.prog 92 = some 1 := by kernel_rfl
@[simp] theorem agg92 : aggB Tryz.prog 92 = some true := by kernel_rfl
@[simp] theorem zr92 : zr Tryz.prog 92 = some (.agg #[.slice none 0 0]) := by kernel_rfl
@[simp] theorem lesz92 : lesz Tryz.prog 92 = some 1 := by kernel_rfl
@[simp] theorem plc93 : plcB Tryz.prog 93 = true := by kernel_rfl
@[simp] theorem fld93_0 : fldi Tryz.prog 93 0 = some (0, 1, false) := by kernel_rfl
@[simp] theorem sz93 : sz Tryz.prog 93 = some 1 := by kernel_rfl
@[simp] theorem agg93 : aggB Tryz.prog 93 = some true := by kernel_rfl
@[simp] theorem zr93 : zr Tryz.prog 93 = some (.agg #[.slice none 0 0]) := by kernel_rfl
@[simp] theorem lesz93 : lesz Tryz.prog 93 = some 1 := by kernel_rfl
attribute [simp] Tryz.underlying94
attribute [simp] Tryz.underlying95
@[simp] theorem sz95 : sz Tryz.prog 95 = some 1 := by kernel_rfl
@[simp] theorem zr95 : zr Tryz.prog 95 = some (.tuple #[.agg #[.int .i64 0, .int .i64 0, .string ⟨#[]⟩, .string ⟨#[]⟩, .string ⟨#[]⟩, .int .i64 0, .int .i64 0, .slice none 0 0, .string ⟨#[]⟩], .int .i64 0]) := by kernel_rfl
@[simp] theorem lesz95 : lesz Tryz.prog 95 = some 1 := by kernel_rfl
attribute [simp] Tryz.underlying96
attribute [simp] Tryz.underlying97
@[simp] theorem sz97 : sz Tryz.prog 97 = some 1 := by kernel_rfl
@[simp] theorem zr97 : zr Tryz.prog 97 = some (.tuple #[.string ⟨#[]⟩, .string ⟨#[]⟩, .bool false]) := by kernel_rfl
@[simp] theorem lesz97 : lesz Tryz.prog 97 = some 1 := by kernel_rfl
attribute [simp] Tryz.underlying98
attribute [simp] Tryz.underlying99
attribute [simp] Tryz.underlying100
attribute [simp] Tryz.underlying101
attribute [simp] Tryz.underlying102
@[simp] theorem sz102 : sz Tryz.prog 102 = some 1 := by kernel_rfl
@[simp] theorem zr102 : zr Tryz.prog 102 = some (.tuple #[.int .i64 0, .bool false]) := by kernel_rfl
@[simp] theorem lesz102 : lesz Tryz.prog 102 = some 1 := by kernel_rfl
attribute [simp] Tryz.underlying103
attribute [simp] Tryz.underlying104
@[simp] theorem sz104 : sz Tryz.prog 104 = some 1 := by kernel_rfl
@[simp] theorem agg104 : aggB Tryz.prog 104 = some false := by kernel_rfl
@[simp] theorem zr104 : zr Tryz.prog 104 = some (.int .u64 0) := by kernel_rfl
@[simp] theorem lesz104 : lesz Tryz.prog 104 = some 1 := by kernel_rfl
attribute [simp] Tryz.underlying105
attribute [simp] Tryz.underlying106
attribute [simp] Tryz.underlying107
attribute [simp] Tryz.underlying108
@[simp] theorem sz108 : sz Tryz.prog 108 = some 1 := by kernel_rfl
@[simp] theorem agg108 : aggB Tryz.prog 108 = some false := by kernel_rfl
@[simp] theorem zr108 : zr Tryz.prog 108 = some (.int .u64 0) := by kernel_rfl
@[simp] theorem lesz108 : lesz Tryz.prog 108 = some 1 := by kernel_rfl
attribute [simp] Tryz.underlying109
attribute [simp] Tryz.underlying110
@[simp] theorem sz110 : sz Tryz.prog 110 = some 1 := by kernel_rfl
@[simp] theorem agg110 : aggB Tryz.prog 110 = some false := by kernel_rfl
@[simp] theorem zr110 : zr Tryz.prog 110 = some (.pointer none) := by kernel_rfl
@[simp] theorem lesz110 : lesz Tryz.prog 110 = some 1 := by kernel_rfl
attribute [simp] Tryz.underlying111
attribute [simp] Tryz.underlying112
attribute [simp] Tryz.underlying113
@[simp] theorem sz113 : sz Tryz.prog 113 = some 1 := by kernel_rfl
@[simp] theorem zr113 : zr Tryz.prog 113 = some (.tuple #[.int .i64 0, .int .i64 0]) := by kernel_rfl
@[simp] theorem lesz113 : lesz Tryz.prog 113 = some 1 := by kernel_rfl
attribute [simp] Tryz.underlying114
attribute [simp] Tryz.underlying115
attribute [simp] Tryz.underlying116
attribute [simp] Tryz.underlying117
attribute [simp] Tryz.underlying118
@[simp] theorem sz118 : sz Tryz.prog 118 = some 256 := by kernel_rfl
@[simp] theorem agg118 : aggB Tryz.prog 118 = some true := by kernel_rfl
@[simp] theorem zr118 : zr Tryz.prog 118 = some (.agg #[.int .u8 0, .int .u8 0, .int .u8 0, .int .u8 0, .int .u8 0, .int .u8 0, .int .u8 0, .int .u8 0, .int .u8 0, .int .u8 0, .int .u8 0, .int .u8 0, .int .u8 0, .int .u8 0, .int .u8 0, .int .u8 0, .int .u8 0, .int .u8 0, .int .u8 0, .int .u8 0, .int .u8 0, .int .u8 0, .int .u8 0, .int .u8 0, .int .u8 0, .int .u8 0, .int .u8 0, .int .u8 0, .int .u8 0, .int .u8 0, .int .u8 0, .int .u8 0, .int .u8 0, .int .u8 0, .int .u8 0, .int .u8 0, .int .u8 0, .int .u8 0, .int .u8 0, .int .u8 0, .int .u8 0, .int .u8 0, .int .u8 0, .int .u8 0, .int .u8 0, .int .u8 0, .int .u8 0, .int .u8 0, .int .u8 0, .int .u8 0, .int .u8 0, .int .u8 0, .int .u8 0, .int .u8 0, .int .u8 0, .int .u8 0, .int .u8 0, .int .u8 0, .int .u8 0, .int .u8 0, .int .u8 0, .int .u8 0, .int .u8 0, .int .u8 0, .int .u8 0, .int .u8 0, .int .u8 0, .int .u8 0, .int .u8 0, .int .u8 0, .int .u8 0, .int .u8 0, .int .u8 0, .int .u8 0, .int .u8 0, .int .u8 0, .int .u8 0, .int .u8 0, .int .u8 0, .int .u8 0, .int .u8 0, .int .u8 0, .int .u8 0, .int .u8 0, .int .u8 0, .int .u8 0, .int .u8 0, .int .u8 0, .int .u8 0, .int .u8 0, .int .u8 0, .int .u8 0, .int .u8 0, .int .u8 0, .int .u8 0, .int .u8 0, .int .u8 0, .int .u8 0, .int .u8 0, .int .u8 0, .int .u8 0, .int .u8 0, .int .u8 0, .int .u8 0, .int .u8 0, .int .u8 0, .int .u8 0, .int .u8 0, .int .u8 0, .int .u8 0, .int .u8 0, .int .u8 0, .int .u8 0, .int .u8 0, .int .u8 0, .int .u8 0, .int .u8 0, .int .u8 0, .int .u8 0, .int .u8 0, .int .u8 0, .int .u8 0, .int .u8 0, .int .u8 0, .int .u8 0, .int .u8 0, .int .u8 0, .int .u8 0, .int .u8 0, .int .u8 0, .int .u8 0, .int .u8 0, .int .u8 0, .int .u8 0, .int .u8 0, .int .u8 0, .int .u8 0, .int .u8 0, .int .u8 0, .int .u8 0, .int .u8 0, .int .u8 0, .int .u8 0, .int .u8 0, .int .u8 0, .int .u8 0, .int .u8 0, .int .u8 0, .int .u8 0, .int .u8 0, .int .u8 0, .int .u8 0, .int .u8 0, .int .u8 0, .int .u8 0, .int .u8 0, .int .u8 0, .int .u8 0, .int .u8 0, .int .u8 0, .int .u8 0, .int .u8 0, .int .u8 0, .int .u8 0, .int .u8 0, .int .u8 0, .int .u8 0, .int .u8 0, .int .u8 0, .int .u8 0, .int .u8 0, .int .u8 0, .int .u8 0, .int .u8 0, .int .u8 0, .int .u8 0, .int .u8 0, .int .u8 0, .int .u8 0, .int .u8 0, .int .u8 0, .int .u8 0, .int .u8 0, .int .u8 0, .int .u8 0, .int .u8 0, .int .u8 0, .int .u8 0, .int .u8 0, .int .u8 0, .int .u8 0, .int .u8 0, .int .u8 0, .int .u8 0, .int .u8 0, .int .u8 0, .int .u8 0, .int .u8 0, .int .u8 0, .int .u8 0, .int .u8 0, .int .u8 0, .int .u8 0, .int .u8 0, .int .u8 0, .int .u8 0, .int .u8 0, .int .u8 0, .int .u8 0, .int .u8 0, .int .u8 0, .int .u8 0, .int .u8 0, .int .u8 0, .int .u8 0, .int .u8 0, .int .u8 0, .int .u8 0, .int .u8 0, .int .u8 0, .int .u8 0, .int .u8 0, .int .u8 0, .int .u8 0, .int .u8 0, .int .u8 0, .int .u8 0, .int .u8 0, .int .u8 0, .int .u8 0, .int .u8 0, .int .u8 0, .int .u8 0, .int .u8 0, .int .u8 0, .int .u8 0, .int .u8 0, .int .u8 0, .int .u8 0, .int .u8 0, .int .u8 0, .int .u8 0, .int .u8 0, .int .u8 0, .int .u8 0, .int .u8 0, .int .u8 0, .int .u8 0, .int .u8 0, .int .u8 0, .int .u8 0, .int .u8 0, .int .u8 0, .int .u8 0, .int .u8 0, .int .u8 0]) := by kernel_rfl
@[simp] theorem lesz118 : lesz Tryz.prog 118 = some 256 := by kernel_rfl
attribute [simp] Tryz.underlying119
attribute [simp] Tryz.underlying120
attribute [simp] Tryz.underlying121
attribute [simp] Tryz.underlying122
attribute [simp] Tryz.underlying123
attribute [simp] Tryz.underlying124
attribute [simp] Tryz.underlying125
@[simp] theorem sz125 : sz Tryz.prog 125 = some 1 := by kernel_rfl
@[simp] theorem zr125 : zr Tryz.prog 125 = some (.tuple #[.int .i32 0, .int .i64 0]) := by kernel_rfl
@[simp] theorem lesz125 : lesz Tryz.prog 125 = some 1 := by kernel_rfl
attribute [simp] Tryz.underlying126
attribute [simp] Tryz.underlying127
attribute [simp] Tryz.underlying128
attribute [simp] Tryz.underlying129
@[simp] theorem sz129 : sz Tryz.prog 129 = some 1 := by kernel_rfl
@[simp] theorem agg129 : aggB Tryz.prog 129 = some false := by kernel_rfl
@[simp] theorem zr129 : zr Tryz.prog 129 = some (.slice none 0 0) := by kernel_rfl
@[simp] theorem lesz129 : lesz Tryz.prog 129 = some 1 := by kernel_rfl
@[simp] theorem plc130 : plcB Tryz.prog 130 = true := by kernel_rfl
@[simp] theorem fld130_0 : fldi Tryz.prog 130 0 = some (0, 1, false) := by kernel_rfl
@[simp] theorem fld130_1 : fldi Tryz.prog 130 1 = some (1, 1, false) := by kernel_rfl
@[simp] theorem sz130 : sz Tryz.prog 130 = some 2 := by kernel_rfl
@[simp] theorem agg130 : aggB Tryz.prog 130 = some true := by kernel_rfl
@[simp] theorem zr130 : zr Tryz.prog 130 = some (.agg #[.int .i64 0, .int .i64 0]) := by kernel_rfl
@[simp] theorem lesz130 : lesz Tryz.prog 130 = some 2 := by kernel_rfl
@[simp] theorem plc131 : plcB Tryz.prog 131 = true := by kernel_rfl
@[simp] theorem fld131_0 : fldi Tryz.prog 131 0 = some (0, 1, false) := by kernel_rfl
@[simp] theorem fld131_1 : fldi Tryz.prog 131 1 = some (1, 1, false) := by kernel_rfl
@[simp] theorem sz131 : sz Tryz.prog 131 = some 2 := by kernel_rfl
@[simp] theorem agg131 : aggB Tryz.prog 131 = some true := by kernel_rfl
@[simp] theorem zr131 : zr Tryz.prog 131 = some (.agg #[.int .i64 0, .int .i64 0]) := by kernel_rfl
@[simp] theorem lesz131 : lesz Tryz.prog 131 = some 2 := by kernel_rfl
attribute [simp] Tryz.underlying132
@[simp] theorem sz132 : sz Tryz.prog 132 = some 1 := by kernel_rfl
@[simp] theorem agg132 : aggB Tryz.prog 132 = some false := by kernel_rfl
@[simp] theorem zr132 : zr Tryz.prog 132 = some (.int .u32 0) := by kernel_rfl
@[simp] theorem lesz132 : lesz Tryz.prog 132 = some 1 := by kernel_rfl
attribute [simp] Tryz.underlying133
attribute [simp] Tryz.underlying134
@[simp] theorem sz134 : sz Tryz.prog 134 = some 1 := by kernel_rfl
@[simp] theorem agg134 : aggB Tryz.prog 134 = some false := by kernel_rfl
@[simp] theorem zr134 : zr Tryz.prog 134 = some (.pointer none) := by kernel_rfl
@[simp] theorem lesz134 : lesz Tryz.prog 134 = some 1 := by kernel_rfl
attribute [simp] Tryz.underlying135
attribute [simp] Tryz.underlying136
attribute [simp] Tryz.underlying137
attribute [simp] Tryz.underlying138
attribute [simp] Tryz.underlying139
@[simp] theorem sz139 : sz Tryz.prog 139 = some 1 := by kernel_rfl
@[simp] theorem agg139 : aggB Tryz.prog 139 = some false := by kernel_rfl
@[simp] theorem zr139 : zr Tryz.prog 139 = some (.slice none 0 0) := by kernel_rfl
@[simp] theorem lesz139 : lesz Tryz.prog 139 = some 1 := by kernel_rfl
attribute [simp] Tryz.underlying140
@[simp] theorem sz140 : sz Tryz.prog 140 = some 1 := by kernel_rfl
@[simp] theorem agg140 : aggB Tryz.prog 140 = some false := by kernel_rfl
@[simp] theorem zr140 : zr Tryz.prog 140 = some (.slice none 0 0) := by kernel_rfl
@[simp] theorem lesz140 : lesz Tryz.prog 140 = some 1 := by kernel_rfl
@[simp] theorem plc141 : plcB Tryz.prog 141 = true := by kernel_rfl
@[simp] theorem fld141_0 : fldi Tryz.prog 141 0 = some (0, 1, false) := by kernel_rfl
@[simp] theorem fld141_1 : fldi Tryz.prog 141 1 = some (1, 1, false) := by kernel_rfl
@[simp] theorem fld141_2 : fldi Tryz.prog 141 2 = some (2, 1, false) := by kernel_rfl
@[simp] theorem sz141 : sz Tryz.prog 141 = some 3 := by kernel_rfl
@[simp] theorem agg141 : aggB Tryz.prog 141 = some true := by kernel_rfl
@[simp] theorem zr141 : zr Tryz.prog 141 = some (.agg #[.slice none 0 0, .slice none 0 0, .int .i64 0]) := by kernel_rfl
@[simp] theorem lesz141 : lesz Tryz.prog 141 = some 3 := by kernel_rfl
@[simp] theorem plc142 : plcB Tryz.prog 142 = true := by kernel_rfl
@[simp] theorem fld142_0 : fldi Tryz.prog 142 0 = some (0, 1, false) := by kernel_rfl
@[simp] theorem fld142_1 : fldi Tryz.prog 142 1 = some (1, 1, false) := by kernel_rfl
@[simp] theorem fld142_2 : fldi Tryz.prog 142 2 = some (2, 1, false) := by kernel_rfl
@[simp] theorem sz142 : sz Tryz.prog 142 = some 3 := by kernel_rfl
@[simp] theorem agg142 : aggB Tryz.prog 142 = some true := by kernel_rfl
@[simp] theorem zr142 : zr Tryz.prog 142 = some (.agg #[.slice none 0 0, .slice none 0 0, .int .i64 0]) := by kernel_rfl
@[simp] theorem lesz142 : lesz Tryz.prog 142 = some 3 := by kernel_rfl
attribute [simp] Tryz.underlying143
@[simp] theorem sz143 : sz Tryz.prog 143 = some 1 := by kernel_rfl
@[simp] theorem agg143 : aggB Tryz.prog 143 = some false := by kernel_rfl
@[simp] theorem zr143 : zr Tryz.prog 143 = some (.int .u16 0) := by kernel_rfl
@[simp] theorem lesz143 : lesz Tryz.prog 143 = some 1 := by kernel_rfl
@[simp] theorem plc144 : plcB Tryz.prog 144 = true := by kernel_rfl
@[simp] theorem fld144_0 : fldi Tryz.prog 144 0 = some (0, 1, false) := by kernel_rfl
@[simp] theorem fld144_1 : fldi Tryz.prog 144 1 = some (1, 1, false) := by kernel_rfl
@[simp] theorem fld144_2 : fldi Tryz.prog 144 2 = some (2, 1, false) := by kernel_rfl
@[simp] theorem sz144 : sz Tryz.prog 144 = some 3 := by kernel_rfl
@[simp] theorem agg144 : aggB Tryz.prog 144 = some true := by kernel_rfl
@[simp] theorem zr144 : zr Tryz.prog 144 = some (.agg #[.int .u16 0, .int .u16 0, .int .u16 0]) := by kernel_rfl
@[simp] theorem lesz144 : lesz Tryz.prog 144 = some 3 := by kernel_rfl
@[simp] theorem plc145 : plcB Tryz.prog 145 = true := by kernel_rfl
@[simp] theorem fld145_0 : fldi Tryz.prog 145 0 = some (0, 1, false) := by kernel_rfl
@[simp] theorem fld145_1 : fldi Tryz.prog 145 1 = some (1, 1, false) := by kernel_rfl
@[simp] theorem fld145_2 : fldi Tryz.prog 145 2 = some (2, 1, false) := by kernel_rfl
@[simp] theorem sz145 : sz Tryz.prog 145 = some 3 := by kernel_rfl
@[simp] theorem agg145 : aggB Tryz.prog 145 = some true := by kernel_rfl
@[simp] theorem zr145 : zr Tryz.prog 145 = some (.agg #[.int .u16 0, .int .u16 0, .int .u16 0]) := by kernel_rfl
@[simp] theorem lesz145 : lesz Tryz.prog 145 = some 3 := by kernel_rfl
attribute [simp] Tryz.underlying146
@[simp] theorem plc147 : plcB Tryz.prog 147 = true := by kernel_rfl
@[simp] theorem fld147_0 : fldi Tryz.prog 147 0 = some (0, 1, false) := by kernel_rfl
@[simp] theorem fld147_1 : fldi Tryz.prog 147 1 = some (1, 1, false) := by kernel_rfl
@[simp] theorem fld147_2 : fldi Tryz.prog 147 2 = some (2, 1, false) := by kernel_rfl
@[simp] theorem sz147 : sz Tryz.prog 147 = some 3 := by kernel_rfl
@[simp] theorem agg147 : aggB Tryz.prog 147 = some true := by kernel_rfl
@[simp] theorem zr147 : zr Tryz.prog 147 = some (.agg #[.int .u32 0, .int .u32 0, .int .u32 0]) := by kernel_rfl
@[simp] theorem lesz147 : lesz Tryz.prog 147 = some 3 := by kernel_rfl
@[simp] theorem plc148 : plcB Tryz.prog 148 = true := by kernel_rfl
@[simp] theorem fld148_0 : fldi Tryz.prog 148 0 = some (0, 1, false) := by kernel_rfl
@[simp] theorem fld148_1 : fldi Tryz.prog 148 1 = some (1, 1, false) := by kernel_rfl
@[simp] theorem fld148_2 : fldi Tryz.prog 148 2 = some (2, 1, false) := by kernel_rfl
@[simp] theorem sz148 : sz Tryz.prog 148 = some 3 := by kernel_rfl
@[simp] theorem agg148 : aggB Tryz.prog 148 = some true := by kernel_rfl
@[simp] theorem zr148 : zr Tryz.prog 148 = some (.agg #[.int .u32 0, .int .u32 0, .int .u32 0]) := by kernel_rfl
@[simp] theorem lesz148 : lesz Tryz.prog 148 = some 3 := by kernel_rfl
attribute [simp] Tryz.underlying149
attribute [simp] Tryz.underlying150
@[simp] theorem sz150 : sz Tryz.prog 150 = some 24 := by kernel_rfl
@[simp] theorem agg150 : aggB Tryz.prog 150 = some true := by kernel_rfl
@[simp] theorem zr150 : zr Tryz.prog 150 = some (.agg #[.int .u8 0, .int .u8 0, .int .u8 0, .int .u8 0, .int .u8 0, .int .u8 0, .int .u8 0, .int .u8 0, .int .u8 0, .int .u8 0, .int .u8 0, .int .u8 0, .int .u8 0, .int .u8 0, .int .u8 0, .int .u8 0, .int .u8 0, .int .u8 0, .int .u8 0, .int .u8 0, .int .u8 0, .int .u8 0, .int .u8 0, .int .u8 0]) := by kernel_rfl
@[simp] theorem lesz150 : lesz Tryz.prog 150 = some 24 := by kernel_rfl
attribute [simp] Tryz.underlying151
attribute [simp] Tryz.underlying152
attribute [simp] Tryz.underlying153
@[simp] theorem sz153 : sz Tryz.prog 153 = some 1 := by kernel_rfl
@[simp] theorem zr153 : zr Tryz.prog 153 = some (.tuple #[.slice none 0 0, .string ⟨#[]⟩]) := by kernel_rfl
@[simp] theorem lesz153 : lesz Tryz.prog 153 = some 1 := by kernel_rfl
attribute [simp] Tryz.underlying154
attribute [simp] Tryz.underlying155
@[simp] theorem plc156 : plcB Tryz.prog 156 = true := by kernel_rfl
@[simp] theorem fld156_0 : fldi Tryz.prog 156 0 = some (0, 1, false) := by kernel_rfl
@[simp] theorem fld156_1 : fldi Tryz.prog 156 1 = some (1, 1, false) := by kernel_rfl
@[simp] theorem sz156 : sz Tryz.prog 156 = some 2 := by kernel_rfl
@[simp] theorem agg156 : aggB Tryz.prog 156 = some true := by kernel_rfl
@[simp] theorem zr156 : zr Tryz.prog 156 = some (.agg #[.int .u8 0, .int .u8 0]) := by kernel_rfl
@[simp] theorem lesz156 : lesz Tryz.prog 156 = some 2 := by kernel_rfl
@[simp] theorem plc157 : plcB Tryz.prog 157 = true := by kernel_rfl
@[simp] theorem fld157_0 : fldi Tryz.prog 157 0 = some (0, 1, false) := by kernel_rfl
@[simp] theorem fld157_1 : fldi Tryz.prog 157 1 = some (1, 1, false) := by kernel_rfl
@[simp] theorem sz157 : sz Tryz.prog 157 = some 2 := by kernel_rfl
@[simp] theorem agg157 : aggB Tryz.prog 157 = some true := by kernel_rfl
@[simp] theorem zr157 : zr Tryz.prog 157 = some (.agg #[.int .u8 0, .int .u8 0]) := by kernel_rfl
@[simp] theorem lesz157 : lesz Tryz.prog 157 = some 2 := by kernel_rfl
attribute [simp] Tryz.underlying158
@[simp] theorem sz158 : sz Tryz.prog 158 = some 32 := by kernel_rfl
@[simp] theorem agg158 : aggB Tryz.prog 158 = some true := by kernel_rfl
@[simp] theorem zr158 : zr Tryz.prog 158 = some (.agg #[.int .u8 0, .int .u8 0, .int .u8 0, .int .u8 0, .int .u8 0, .int .u8 0, .int .u8 0, .int .u8 0, .int .u8 0, .int .u8 0, .int .u8 0, .int .u8 0, .int .u8 0, .int .u8 0, .int .u8 0, .int .u8 0, .int .u8 0, .int .u8 0, .int .u8 0, .int .u8 0, .int .u8 0, .int .u8 0, .int .u8 0, .int .u8 0, .int .u8 0, .int .u8 0, .int .u8 0, .int .u8 0, .int .u8 0, .int .u8 0, .int .u8 0, .int .u8 0]) := by kernel_rfl
@[simp] theorem lesz158 : lesz Tryz.prog 158 = some 32 := by kernel_rfl
attribute [simp] Tryz.underlying159
@[simp] theorem sz159 : sz Tryz.prog 159 = some 1 := by kernel_rfl
@[simp] theorem zr159 : zr Tryz.prog 159 = some (.tuple #[.int .u32 0, .int .u32 0]) := by kernel_rfl
@[simp] theorem lesz159 : lesz Tryz.prog 159 = some 1 := by kernel_rfl
attribute [simp] Tryz.underlying160
attribute [simp] Tryz.underlying161
attribute [simp] Tryz.underlying162
attribute [simp] Tryz.underlying163
@[simp] theorem sz163 : sz Tryz.prog 163 = some 1 := by kernel_rfl
@[simp] theorem agg163 : aggB Tryz.prog 163 = some false := by kernel_rfl
@[simp] theorem zr163 : zr Tryz.prog 163 = some (.pointer none) := by kernel_rfl
@[simp] theorem lesz163 : lesz Tryz.prog 163 = some 1 := by kernel_rfl
attribute [simp] Tryz.underlying164
@[simp] theorem sz164 : sz Tryz.prog 164 = some 1 := by kernel_rfl
@[simp] theorem agg164 : aggB Tryz.prog 164 = some false := by kernel_rfl
@[simp] theorem zr164 : zr Tryz.prog 164 = some (.pointer none) := by kernel_rfl
@[simp] theorem lesz164 : lesz Tryz.prog 164 = some 1 := by kernel_rfl
attribute [simp] Tryz.underlying165
attribute [simp] Tryz.underlying166
@[simp] theorem sz166 : sz Tryz.prog 166 = some 20 := by kernel_rfl
@[simp] theorem agg166 : aggB Tryz.prog 166 = some true := by kernel_rfl
@[simp] theorem zr166 : zr Tryz.prog 166 = some (.agg #[.int .u64 0, .int .u64 0, .int .u64 0, .int .u64 0, .int .u64 0, .int .u64 0, .int .u64 0, .int .u64 0, .int .u64 0, .int .u64 0, .int .u64 0, .int .u64 0, .int .u64 0, .int .u64 0, .int .u64 0, .int .u64 0, .int .u64 0, .int .u64 0, .int .u64 0, .int .u64 0]) := by kernel_rfl
@[simp] theorem lesz166 : lesz Tryz.prog 166 = some 20 := by kernel_rfl
attribute [simp] Tryz.underlying167
@[simp] theorem sz167 : sz Tryz.prog 167 = some 65 := by kernel_rfl
@[simp] theorem agg167 : aggB Tryz.prog 167 = some true := by kernel_rfl
@[simp] theorem zr167 : zr Tryz.prog 167 = some (.agg #[.int .u8 0, .int .u8 0, .int .u8 0, .int .u8 0, .int .u8 0, .int .u8 0, .int .u8 0, .int .u8 0, .int .u8 0, .int .u8 0, .int .u8 0, .int .u8 0, .int .u8 0, .int .u8 0, .int .u8 0, .int .u8 0, .int .u8 0, .int .u8 0, .int .u8 0, .int .u8 0, .int .u8 0, .int .u8 0, .int .u8 0, .int .u8 0, .int .u8 0, .int .u8 0, .int .u8 0, .int .u8 0, .int .u8 0, .int .u8 0, .int .u8 0, .int .u8 0, .int .u8 0, .int .u8 0, .int .u8 0, .int .u8 0, .int .u8 0, .int .u8 0, .int .u8 0, .int .u8 0, .int .u8 0, .int .u8 0, .int .u8 0, .int .u8 0, .int .u8 0, .int .u8 0, .int .u8 0, .int .u8 0, .int .u8 0, .int .u8 0, .int .u8 0, .int .u8 0, .int .u8 0, .int .u8 0, .int .u8 0, .int .u8 0, .int .u8 0, .int .u8 0, .int .u8 0, .int .u8 0, .int .u8 0, .int .u8 0, .int .u8 0, .int .u8 0, .int .u8 0]) := by kernel_rfl
@[simp] theorem lesz167 : lesz Tryz.prog 167 = some 65 := by kernel_rfl
attribute [simp] Tryz.underlying168
attribute [simp] Tryz.underlying169
attribute [simp] Tryz.underlying170
attribute [simp] Tryz.underlying171
attribute [simp] Tryz.underlying172
attribute [simp] Tryz.underlying173
@[simp] theorem sz173 : sz Tryz.prog 173 = some 256 := by kernel_rfl
@[simp] theorem agg173 : aggB Tryz.prog 173 = some true := by kernel_rfl
@[simp] theorem zr173 : zr Tryz.prog 173 = some (.agg #[.bool false, .bool false, .bool false, .bool false, .bool false, .bool false, .bool false, .bool false, .bool false, .bool false, .bool false, .bool false, .bool false, .bool false, .bool false, .bool false, .bool false, .bool false, .bool false, .bool false, .bool false, .bool false, .bool false, .bool false, .bool false, .bool false, .bool false, .bool false, .bool false, .bool false, .bool false, .bool false, .bool false, .bool false, .bool false, .bool false, .bool false, .bool false, .bool false, .bool false, .bool false, .bool false, .bool false, .bool false, .bool false, .bool false, .bool false, .bool false, .bool false, .bool false, .bool false, .bool false, .bool false, .bool false, .bool false, .bool false, .bool false, .bool false, .bool false, .bool false, .bool false, .bool false, .bool false, .bool false, .bool false, .bool false, .bool false, .bool false, .bool false, .bool false, .bool false, .bool false, .bool false, .bool false, .bool false, .bool false, .bool false, .bool false, .bool false, .bool false, .bool false, .bool false, .bool false, .bool false, .bool false, .bool false, .bool false, .bool false, .bool false, .bool false, .bool false, .bool false, .bool false, .bool false, .bool false, .bool false, .bool false, .bool false, .bool false, .bool false, .bool false, .bool false, .bool false, .bool false, .bool false, .bool false, .bool false, .bool false, .bool false, .bool false, .bool false, .bool false, .bool false, .bool false, .bool false, .bool false, .bool false, .bool false, .bool false, .bool false, .bool false, .bool false, .bool false, .bool false, .bool false, .bool false, .bool false, .bool false, .bool false, .bool false, .bool false, .bool false, .bool false, .bool false, .bool false, .bool false, .bool false, .bool false, .bool false, .bool false, .bool false, .bool false, .bool false, .bool false, .bool false, .bool false, .bool false, .bool false, .bool false, .bool false, .bool false, .bool false, .bool false, .bool false, .bool false, .bool false, .bool false, .bool false, .bool false, .bool false, .bool false, .bool false, .bool false, .bool false, .bool false, .bool false, .bool false, .bool false, .bool false, .bool false, .bool false, .bool false, .bool false, .bool false, .bool false, .bool false, .bool false, .bool false, .bool false, .bool false, .bool false, .bool false, .bool false, .bool false, .bool false, .bool false, .bool false, .bool false, .bool false, .bool false, .bool false, .bool false, .bool false, .bool false, .bool false, .bool false, .bool false, .bool false, .bool false, .bool false, .bool false, .bool false, .bool false, .bool false, .bool false, .bool false, .bool false, .bool false, .bool false, .bool false, .bool false, .bool false, .bool false, .bool false, .bool false, .bool false, .bool false, .bool false, .bool false, .bool false, .bool false, .bool false, .bool false, .bool false, .bool false, .bool false, .bool false, .bool false, .bool false, .bool false, .bool false, .bool false, .bool false, .bool false, .bool false, .bool false, .bool false, .bool false, .bool false, .bool false, .bool false, .bool false, .bool false, .bool false, .bool false, .bool false, .bool false, .bool false, .bool false, .bool false, .bool false, .bool false, .bool false, .bool false, .bool false, .bool false]) := by kernel_rfl
@[simp] theorem lesz173 : lesz Tryz.prog 173 = some 256 := by kernel_rfl
attribute [simp] Tryz.underlying174
@[simp] theorem sz174 : sz Tryz.prog 174 = some 256 := by kernel_rfl
@[simp] theorem agg174 : aggB Tryz.prog 174 = some true := by kernel_rfl
@[simp] theorem zr174 : zr Tryz.prog 174 = some (.agg #[.bool false, .bool false, .bool false, .bool false, .bool false, .bool false, .bool false, .bool false, .bool false, .bool false, .bool false, .bool false, .bool false, .bool false, .bool false, .bool false, .bool false, .bool false, .bool false, .bool false, .bool false, .bool false, .bool false, .bool false, .bool false, .bool false, .bool false, .bool false, .bool false, .bool false, .bool false, .bool false, .bool false, .bool false, .bool false, .bool false, .bool false, .bool false, .bool false, .bool false, .bool false, .bool false, .bool false, .bool false, .bool false, .bool false, .bool false, .bool false, .bool false, .bool false, .bool false, .bool false, .bool false, .bool false, .bool false, .bool false, .bool false, .bool false, .bool false, .bool false, .bool false, .bool false, .bool false, .bool false, .bool false, .bool false, .bool false, .bool false, .bool false, .bool false, .bool false, .bool false, .bool false, .bool false, .bool false, .bool false, .bool false, .bool false, .bool false, .bool false, .bool false, .bool false, .bool false, .bool false, .bool false, .bool false, .bool false, .bool false, .bool false, .bool false, .bool false, .bool false, .bool false, .bool false, .bool false, .bool false, .bool false, .bool false, .bool false, .bool false, .bool false, .bool false, .bool false, .bool false, .bool false, .bool false, .bool false, .bool false, .bool false, .bool false, .bool false, .bool false, .bool false, .bool false, .bool false, .bool false, .bool false, .bool false, .bool false, .bool false, .bool false, .bool false, .bool false, .bool false, .bool false, .bool false, .bool false, .bool false, .bool false, .bool false, .bool false, .bool false, .bool false, .bool false, .bool false, .bool false, .bool false, .bool false, .bool false, .bool false, .bool false, .bool false, .bool false, .bool false, .bool false, .bool false, .bool false, .bool false, .bool false, .bool false, .bool false, .bool false, .bool false, .bool false, .bool false, .bool false, .bool false, .bool false, .bool false, .bool false, .bool false, .bool false, .bool false, .bool false, .bool false, .bool false, .bool false, .bool false, .bool false, .bool false, .bool false, .bool false, .bool false, .bool false, .bool false, .bool false, .bool false, .bool false, .bool false, .bool false, .bool false, .bool false, .bool false, .bool false, .bool false, .bool false, .bool false, .bool false, .bool false, .bool false, .bool false, .bool false, .bool false, .bool false, .bool false, .bool false, .bool false, .bool false, .bool false, .bool false, .bool false, .bool false, .bool false, .bool false, .bool false, .bool false, .bool false, .bool false, .bool false, .bool false, .bool false, .bool false, .bool false, .bool false, .bool false, .bool false, .bool false, .bool false, .bool false, .bool false, .bool false, .bool false, .bool false, .bool false, .bool false, .bool false, .bool false, .bool false, .bool false, .bool false, .bool false, .bool false, .bool false, .bool false, .bool false, .bool false, .bool false, .bool false, .bool false, .bool false, .bool false, .bool false, .bool false, .bool false, .bool false, .bool false, .bool false, .bool false, .bool false, .bool false, .bool false, .bool false, .bool false, .bool false, .bool false, .bool false]) := by kernel_rfl
@[simp] theorem lesz174 : lesz Tryz.prog 174 = some 256 := by kernel_rfl
attribute [simp] Tryz.underlying175
@[simp] theorem sz175 : sz Tryz.prog 175 = some 1 := by kernel_rfl
@[simp] theorem zr175 : zr Tryz.prog 175 = some (.tuple #[.agg #[.bool false, .bool false, .bool false, .bool false, .bool false, .bool false, .bool false, .bool false, .bool false, .bool false, .bool false, .bool false, .bool false, .bool false, .bool false, .bool false, .bool false, .bool false, .bool false, .bool false, .bool false, .bool false, .bool false, .bool false, .bool false, .bool false, .bool false, .bool false, .bool false, .bool false, .bool false, .bool false, .bool false, .bool false, .bool false, .bool false, .bool false, .bool false, .bool false, .bool false, .bool false, .bool false, .bool false, .bool false, .bool false, .bool false, .bool false, .bool false, .bool false, .bool false, .bool false, .bool false, .bool false, .bool false, .bool false, .bool false, .bool false, .bool false, .bool false, .bool false, .bool false, .bool false, .bool false, .bool false, .bool false, .bool false, .bool false, .bool false, .bool false, .bool false, .bool false, .bool false, .bool false, .bool false, .bool false, .bool false, .bool false, .bool false, .bool false, .bool false, .bool false, .bool false, .bool false, .bool false, .bool false, .bool false, .bool false, .bool false, .bool false, .bool false, .bool false, .bool false, .bool false, .bool false, .bool false, .bool false, .bool false, .bool false, .bool false, .bool false, .bool false, .bool false, .bool false, .bool false, .bool false, .bool false, .bool false, .bool false, .bool false, .bool false, .bool false, .bool false, .bool false, .bool false, .bool false, .bool false, .bool false, .bool false, .bool false, .bool false, .bool false, .bool false, .bool false, .bool false, .bool false, .bool false, .bool false, .bool false, .bool false, .bool false, .bool false, .bool false, .bool false, .bool false, .bool false, .bool false, .bool false, .bool false, .bool false, .bool false, .bool false, .bool false, .bool false, .bool false, .bool false, .bool false, .bool false, .bool false, .bool false, .bool false, .bool false, .bool false, .bool false, .bool false, .bool false, .bool false, .bool false, .bool false, .bool false, .bool false, .bool false, .bool false, .bool false, .bool false, .bool false, .bool false, .bool false, .bool false, .bool false, .bool false, .bool false, .bool false, .bool false, .bool false, .bool false, .bool false, .bool false, .bool false, .bool false, .bool false, .bool false, .bool false, .bool false, .bool false, .bool false, .bool false, .bool false, .bool false, .bool false, .bool false, .bool false, .bool false, .bool false, .bool false, .bool false, .bool false, .bool false, .bool false, .bool false, .bool false, .bool false, .bool false, .bool false, .bool false, .bool false, .bool false, .bool false, .bool false, .bool false, .bool false, .bool false, .bool false, .bool false, .bool false, .bool false, .bool false, .bool false, .bool false, .bool false, .bool false, .bool false, .bool false, .bool false, .bool false, .bool false, .bool false, .bool false, .bool false, .bool false, .bool false, .bool false, .bool false, .bool false, .bool false, .bool false, .bool false, .bool false, .bool false, .bool false, .bool false, .bool false, .bool false, .bool false, .bool false, .bool false, .bool false, .bool false, .bool false, .bool false, .bool false, .bool false, .bool false, .bool false, .bool false, .bool false, .bool false], .bool false]) := by kernel_rfl
@[simp] theorem lesz175 : lesz Tryz.prog 175 = some 1 := by kernel_rfl
attribute [simp] Tryz.underlying176
attribute [simp] Tryz.underlying177
@[simp] theorem sz177 : sz Tryz.prog 177 = some 32 := by kernel_rfl
@[simp] theorem agg177 : aggB Tryz.prog 177 = some true := by kernel_rfl
@[simp] theorem zr177 : zr Tryz.prog 177 = some (.agg #[.int .u8 0, .int .u8 0, .int .u8 0, .int .u8 0, .int .u8 0, .int .u8 0, .int .u8 0, .int .u8 0, .int .u8 0, .int .u8 0, .int .u8 0, .int .u8 0, .int .u8 0, .int .u8 0, .int .u8 0, .int .u8 0, .int .u8 0, .int .u8 0, .int .u8 0, .int .u8 0, .int .u8 0, .int .u8 0, .int .u8 0, .int .u8 0, .int .u8 0, .int .u8 0, .int .u8 0, .int .u8 0, .int .u8 0, .int .u8 0, .int .u8 0, .int .u8 0]) := by kernel_rfl
@[simp] theorem lesz177 : lesz Tryz.prog 177 = some 32 := by kernel_rfl
attribute [simp] Tryz.underlying178
@[simp] theorem sz178 : sz Tryz.prog 178 = some 64 := by kernel_rfl
@[simp] theorem agg178 : aggB Tryz.prog 178 = some true := by kernel_rfl
@[simp] theorem zr178 : zr Tryz.prog 178 = some (.agg #[.int .u8 0, .int .u8 0, .int .u8 0, .int .u8 0, .int .u8 0, .int .u8 0, .int .u8 0, .int .u8 0, .int .u8 0, .int .u8 0, .int .u8 0, .int .u8 0, .int .u8 0, .int .u8 0, .int .u8 0, .int .u8 0, .int .u8 0, .int .u8 0, .int .u8 0, .int .u8 0, .int .u8 0, .int .u8 0, .int .u8 0, .int .u8 0, .int .u8 0, .int .u8 0, .int .u8 0, .int .u8 0, .int .u8 0, .int .u8 0, .int .u8 0, .int .u8 0, .int .u8 0, .int .u8 0, .int .u8 0, .int .u8 0, .int .u8 0, .int .u8 0, .int .u8 0, .int .u8 0, .int .u8 0, .int .u8 0, .int .u8 0, .int .u8 0, .int .u8 0, .int .u8 0, .int .u8 0, .int .u8 0, .int .u8 0, .int .u8 0, .int .u8 0, .int .u8 0, .int .u8 0, .int .u8 0, .int .u8 0, .int .u8 0, .int .u8 0, .int .u8 0, .int .u8 0, .int .u8 0, .int .u8 0, .int .u8 0, .int .u8 0, .int .u8 0]) := by kernel_rfl
@[simp] theorem lesz178 : lesz Tryz.prog 178 = some 64 := by kernel_rfl
attribute [simp] Tryz.underlying179
@[simp] theorem sz179 : sz Tryz.prog 179 = some 1 := by kernel_rfl
@[simp] theorem agg179 : aggB Tryz.prog 179 = some false := by kernel_rfl
@[simp] theorem zr179 : zr Tryz.prog 179 = some (.pointer none) := by kernel_rfl
@[simp] theorem lesz179 : lesz Tryz.prog 179 = some 1 := by kernel_rfl
@[simp] theorem plc180 : plcB Tryz.prog 180 = true := by kernel_rfl
@[simp] theorem fld180_0 : fldi Tryz.prog 180 0 = some (0, 1, false) := by kernel_rfl
@[simp] theorem fld180_1 : fldi Tryz.prog 180 1 = some (1, 1, false) := by kernel_rfl
@[simp] theorem fld180_2 : fldi Tryz.prog 180 2 = some (2, 1, false) := by kernel_rfl
@[simp] theorem fld180_3 : fldi Tryz.prog 180 3 = some (3, 1, false) := by kernel_rfl
@[simp] theorem sz180 : sz Tryz.prog 180 = some 4 := by kernel_rfl
@[simp] theorem agg180 : aggB Tryz.prog 180 = some true := by kernel_rfl
@[simp] theorem zr180 : zr Tryz.prog 180 = some (.agg #[.pointer none, .pointer none, .pointer none, .string ⟨#[]⟩]) := by kernel_rfl
@[simp] theorem lesz180 : lesz Tryz.prog 180 = some 4 := by kernel_rfl
@[simp] theorem plc181 : plcB Tryz.prog 181 = true := by kernel_rfl
@[simp] theorem fld181_0 : fldi Tryz.prog 181 0 = some (0, 1, false) := by kernel_rfl
@[simp] theorem fld181_1 : fldi Tryz.prog 181 1 = some (1, 1, false) := by kernel_rfl
@[simp] theorem fld181_2 : fldi Tryz.prog 181 2 = some (2, 1, false) := by kernel_rfl
@[simp] theorem fld181_3 : fldi Tryz.prog 181 3 = some (3, 1, false) := by kernel_rfl
@[simp] theorem sz181 : sz Tryz.prog 181 = some 4 := by kernel_rfl
@[simp] theorem agg181 : aggB Tryz.prog 181 = some true := by kernel_rfl
@[simp] theorem zr181 : zr Tryz.prog 181 = some (.agg #[.pointer none, .pointer none, .pointer none, .string ⟨#[]⟩]) := by kernel_rfl
@[simp] theorem lesz181 : lesz Tryz.prog 181 = some 4 := by kernel_rfl
attribute [simp] Tryz.underlying182
@[simp] theorem sz182 : sz Tryz.prog 182 = some 0 := by kernel_rfl
@[simp] theorem agg182 : aggB Tryz.prog 182 = some true := by kernel_rfl
@[simp] theorem zr182 : zr Tryz.prog 182 = some (.agg #[]) := by kernel_rfl
@[simp] theorem plc183 : plcB Tryz.prog 183 = true := by kernel_rfl
@[simp] theorem fld183_0 : fldi Tryz.prog 183 0 = some (0, 0, true) := by kernel_rfl
@[simp] theorem sz183 : sz Tryz.prog 183 = some 0 := by kernel_rfl
@[simp] theorem agg183 : aggB Tryz.prog 183 = some true := by kernel_rfl
@[simp] theorem zr183 : zr Tryz.prog 183 = some (.agg #[]) := by kernel_rfl
@[simp] theorem plc184 : plcB Tryz.prog 184 = true := by kernel_rfl
@[simp] theorem fld184_0 : fldi Tryz.prog 184 0 = some (0, 0, true) := by kernel_rfl
@[simp] theorem sz184 : sz Tryz.prog 184 = some 0 := by kernel_rfl
@[simp] theorem agg184 : aggB Tryz.prog 184 = some true := by kernel_rfl
@[simp] theorem zr184 : zr Tryz.prog 184 = some (.agg #[]) := by kernel_rfl
attribute [simp] Tryz.underlying185
@[simp] theorem sz185 : sz Tryz.prog 185 = some 1 := by kernel_rfl
@[simp] theorem agg185 : aggB Tryz.prog 185 = some false := by kernel_rfl
@[simp] theorem zr185 : zr Tryz.prog 185 = some (.int .u8 0) := by kernel_rfl
@[simp] theorem lesz185 : lesz Tryz.prog 185 = some 1 := by kernel_rfl
attribute [simp] Tryz.underlying186
@[simp] theorem sz186 : sz Tryz.prog 186 = some 1 := by kernel_rfl
@[simp] theorem agg186 : aggB Tryz.prog 186 = some false := by kernel_rfl
@[simp] theorem zr186 : zr Tryz.prog 186 = some (.int .u8 0) := by kernel_rfl
@[simp] theorem lesz186 : lesz Tryz.prog 186 = some 1 := by kernel_rfl
attribute [simp] Tryz.underlying187
attribute [simp] Tryz.underlying188
@[simp] theorem sz188 : sz Tryz.prog 188 = some 1 := by kernel_rfl
@[simp] theorem agg188 : aggB Tryz.prog 188 = some false := by kernel_rfl
@[simp] theorem zr188 : zr Tryz.prog 188 = some (.int .i32 0) := by kernel_rfl
@[simp] theorem lesz188 : lesz Tryz.prog 188 = some 1 := by kernel_rfl
attribute [simp] Tryz.underlying189
@[simp] theorem sz189 : sz Tryz.prog 189 = some 1 := by kernel_rfl
@[simp] theorem agg189 : aggB Tryz.prog 189 = some false := by kernel_rfl
@[simp] theorem zr189 : zr Tryz.prog 189 = some (.int .i32 0) := by kernel_rfl
@[simp] theorem lesz189 : lesz Tryz.prog 189 = some 1 := by kernel_rfl
@[simp] theorem plc190 : plcB Tryz.prog 190 = true := by kernel_rfl
@[simp] theorem fld190_0 : fldi Tryz.prog 190 0 = some (0, 1, false) := by kernel_rfl
@[simp] theorem fld190_1 : fldi Tryz.prog 190 1 = some (1, 1, false) := by kernel_rfl
@[simp] theorem fld190_2 : fldi Tryz.prog 190 2 = some (2, 1, false) := by kernel_rfl
@[simp] theorem fld190_3 : fldi Tryz.prog 190 3 = some (3, 1, false) := by kernel_rfl
@[simp] theorem fld190_4 : fldi Tryz.prog 190 4 = some (4, 1, false) := by kernel_rfl
@[simp] theorem fld190_5 : fldi Tryz.prog 190 5 = some (5, 1, false) := by kernel_rfl
@[simp] theorem fld190_6 : fldi Tryz.prog 190 6 = some (6, 1, false) := by kernel_rfl
@[simp] theorem fld190_7 : fldi Tryz.prog 190 7 = some (7, 1, false) := by kernel_rfl
@[simp] theorem fld190_8 : fldi Tryz.prog 190 8 = some (8, 1, false) := by kernel_rfl
@[simp] theorem fld190_9 : fldi Tryz.prog 190 9 = some (9, 1, false) := by kernel_rfl
@[simp] theorem fld190_10 : fldi Tryz.prog 190 10 = some (10, 1, false) := by kernel_rfl
@[simp] theorem sz190 : sz Tryz.prog 190 = some 11 := by kernel_rfl
@[simp] theorem agg190 : aggB Tryz.prog 190 = some true := by kernel_rfl
@[simp] theorem zr190 : zr Tryz.prog 190 = some (.agg #[.int .u64 0, .int .u64 0, .int .u32 0, .int .u8 0, .int .u8 0, .int .u8 0, .int .u8 0, .nilFunc, .pointer none, .int .i32 0, .int .i32 0]) := by kernel_rfl
@[simp] theorem lesz190 : lesz Tryz.prog 190 = some 11 := by kernel_rfl
@[simp] theorem plc191 : plcB Tryz.prog 191 = true := by kernel_rfl
@[simp] theorem fld191_0 : fldi Tryz.prog 191 0 = some (0, 1, false) := by kernel_rfl
@[simp] theorem fld191_1 : fldi Tryz.prog 191 1 = some (1, 1, false) := by kernel_rfl
@[simp] theorem fld191_2 : fldi Tryz.prog 191 2 = some (2, 1, false) := by kernel_rfl
@[simp] theorem fld191_3 : fldi Tryz.prog 191 3 = some (3, 1, false) := by kernel_rfl
@[simp] theorem fld191_4 : fldi Tryz.prog 191 4 = some (4, 1, false) := by kernel_rfl
@[simp] theorem fld191_5 : fldi Tryz.prog 191 5 = some (5, 1, false) := by kernel_rfl
@[simp] theorem fld191_6 : fldi Tryz.prog 191 6 = some (6, 1, false) := by kernel_rfl
@[simp] theorem fld191_7 : fldi Tryz.prog 191 7 = some (7, 1, false) := by kernel_rfl
@[simp] theorem fld191_8 : fldi Tryz.prog 191 8 = some (8, 1, false) := by kernel_rfl
@[simp] theorem fld191_9 : fldi Tryz.prog 191 9 = some (9, 1, false) := by kernel_rfl
@[simp] theorem fld191_10 : fldi Tryz.prog 191 10 = some (10, 1, false) := by kernel_rfl
@[simp] theorem sz191 : sz Tryz.prog 191 = some 11 := by kernel_rfl
@[simp] theorem agg191 : aggB Tryz.prog 191 = some true := by kernel_rfl
@[simp] theorem zr191 : zr Tryz.prog 191 = some (.agg #[.int .u64 0, .int .u64 0, .int .u32 0, .int .u8 0, .int .u8 0, .int .u8 0, .int .u8 0, .nilFunc, .pointer none, .int .i32 0, .int .i32 0]) := by kernel_rfl
@[simp] theorem lesz191 : lesz Tryz.prog 191 = some 11 := by kernel_rfl
set_option linter.all false
attribute [simp] Tryz.results0 Tryz.ntmps0
attribute [simp] Tryz.results1 Tryz.ntmps1
attribute [simp] Tryz.results2 Tryz.ntmps2
attribute [simp] Tryz.results3 Tryz.ntmps3
attribute [simp] Tryz.results4 Tryz.ntmps4
attribute [simp] Tryz.results5 Tryz.ntmps5
attribute [simp] Tryz.results6 Tryz.ntmps6
attribute [simp] Tryz.results7 Tryz.ntmps7
attribute [simp] Tryz.results8 Tryz.ntmps8
attribute [simp] Tryz.results9 Tryz.ntmps9
attribute [simp] Tryz.results10 Tryz.ntmps10
attribute [simp] Tryz.results11 Tryz.ntmps11
attribute [simp] Tryz.results12 Tryz.ntmps12
attribute [simp] Tryz.results13 Tryz.ntmps13
attribute [simp] Tryz.results14 Tryz.ntmps14
attribute [simp] Tryz.results15 Tryz.ntmps15
attribute [simp] Tryz.results16 Tryz.ntmps16
attribute [simp] Tryz.results17 Tryz.ntmps17
attribute [simp] Tryz.results18 Tryz.ntmps18
attribute [simp] Tryz.results19 Tryz.ntmps19
attribute [simp] Tryz.results20 Tryz.ntmps20
attribute [simp] Tryz.results21 Tryz.ntmps21
attribute [simp] Tryz.results22 Tryz.ntmps22
attribute [simp] Tryz.results23 Tryz.ntmps23
attribute [simp] Tryz.results24 Tryz.ntmps24
attribute [simp] Tryz.results25 Tryz.ntmps25
attribute [simp] Tryz.results26 Tryz.ntmps26
attribute [simp] Tryz.results27 Tryz.ntmps27
attribute [simp] Tryz.results28 Tryz.ntmps28
attribute [simp] Tryz.results29 Tryz.ntmps29
attribute [simp] Tryz.results30 Tryz.ntmps30
attribute [simp] Tryz.results31 Tryz.ntmps31
attribute [simp] Tryz.results32 Tryz.ntmps32
attribute [simp] Tryz.results33 Tryz.ntmps33
attribute [simp] Tryz.results34 Tryz.ntmps34
attribute [simp] Tryz.results35 Tryz.ntmps35
attribute [simp] Tryz.results36 Tryz.ntmps36
attribute [simp] Tryz.results37 Tryz.ntmps37
attribute [simp] Tryz.results38 Tryz.ntmps38
attribute [simp] Tryz.results39 Tryz.ntmps39
attribute [simp] Tryz.results40 Tryz.ntmps40
attribute [simp] Tryz.results41 Tryz.ntmps41
attribute [simp] Tryz.results42 Tryz.ntmps42
attribute [simp] Tryz.results43 Tryz.ntmps43
attribute [simp] Tryz.results44 Tryz.ntmps44
attribute [simp] Tryz.results45 Tryz.ntmps45
attribute [simp] Tryz.results46 Tryz.ntmps46
attribute [simp] Tryz.results47 Tryz.ntmps47
attribute [simp] Tryz.results48 Tryz.ntmps48
attribute [simp] Tryz.results49 Tryz.ntmps49
attribute [simp] Tryz.results50 Tryz.ntmps50
attribute [simp] Tryz.results51 Tryz.ntmps51
attribute [simp] Tryz.results52 Tryz.ntmps52
attribute [simp] Tryz.results53 Tryz.ntmps53
attribute [simp] Tryz.results54 Tryz.ntmps54
attribute [simp] Tryz.results55 Tryz.ntmps55
attribute [simp] Tryz.results56 Tryz.ntmps56
attribute [simp] Tryz.results57 Tryz.ntmps57
attribute [simp] Tryz.results58 Tryz.ntmps58
attribute [simp] Tryz.results59 Tryz.ntmps59
attribute [simp] Tryz.results60 Tryz.ntmps60
attribute [simp] Tryz.results61 Tryz.ntmps61
attribute [simp] Tryz.results62 Tryz.ntmps62
attribute [simp] Tryz.results63 Tryz.ntmps63
attribute [simp] Tryz.results64 Tryz.ntmps64
attribute [simp] Tryz.results65 Tryz.ntmps65
attribute [simp] Tryz.results66 Tryz.ntmps66
attribute [simp] Tryz.results67 Tryz.ntmps67
attribute [simp] Tryz.results68 Tryz.ntmps68
attribute [simp] Tryz.results69 Tryz.ntmps69
attribute [simp] Tryz.results70 Tryz.ntmps70
attribute [simp] Tryz.results71 Tryz.ntmps71
attribute [simp] Tryz.results72 Tryz.ntmps72
attribute [simp] Tryz.results73 Tryz.ntmps73
attribute [simp] Tryz.results74 Tryz.ntmps74
attribute [simp] Tryz.results75 Tryz.ntmps75
attribute [simp] Tryz.results76 Tryz.ntmps76
attribute [simp] Tryz.results77 Tryz.ntmps77
attribute [simp] Tryz.results78 Tryz.ntmps78
attribute [simp] Tryz.results79 Tryz.ntmps79
attribute [simp] Tryz.results80 Tryz.ntmps80
attribute [simp] Tryz.results81 Tryz.ntmps81
attribute [simp] Tryz.results82 Tryz.ntmps82
attribute [simp] Tryz.results83 Tryz.ntmps83
attribute [simp] Tryz.results84 Tryz.ntmps84
attribute [simp] Tryz.results85 Tryz.ntmps85
attribute [simp] Tryz.results86 Tryz.ntmps86
attribute [simp] Tryz.results87 Tryz.ntmps87
attribute [simp] Tryz.results88 Tryz.ntmps88
attribute [simp] Tryz.results89 Tryz.ntmps89
attribute [simp] Tryz.results90 Tryz.ntmps90
attribute [simp] Tryz.results91 Tryz.ntmps91
attribute [simp] Tryz.results92 Tryz.ntmps92
attribute [simp] Tryz.results93 Tryz.ntmps93
attribute [simp] Tryz.results94 Tryz.ntmps94
attribute [simp] Tryz.results95 Tryz.ntmps95
attribute [simp] Tryz.results96 Tryz.ntmps96
attribute [simp] Tryz.results97 Tryz.ntmps97
attribute [simp] Tryz.results98 Tryz.ntmps98
attribute [simp] Tryz.results99 Tryz.ntmps99
attribute [simp] Tryz.results100 Tryz.ntmps100
attribute [simp] Tryz.results101 Tryz.ntmps101
attribute [simp] Tryz.results102 Tryz.ntmps102
attribute [simp] Tryz.results103 Tryz.ntmps103
attribute [simp] Tryz.results104 Tryz.ntmps104
attribute [simp] Tryz.results105 Tryz.ntmps105
attribute [simp] Tryz.results106 Tryz.ntmps106
attribute [simp] Tryz.results107 Tryz.ntmps107
attribute [simp] Tryz.results108 Tryz.ntmps108
attribute [simp] Tryz.results109 Tryz.ntmps109
attribute [simp] Tryz.results110 Tryz.ntmps110
attribute [simp] Tryz.results111 Tryz.ntmps111
attribute [simp] Tryz.results112 Tryz.ntmps112
attribute [simp] Tryz.results113 Tryz.ntmps113
attribute [simp] Tryz.results114 Tryz.ntmps114
attribute [simp] Tryz.results115 Tryz.ntmps115
attribute [simp] Tryz.results116 Tryz.ntmps116
attribute [simp] Tryz.results117 Tryz.ntmps117
attribute [simp] Tryz.results118 Tryz.ntmps118
attribute [simp] Tryz.results119 Tryz.ntmps119
attribute [simp] Tryz.results120 Tryz.ntmps120
attribute [simp] Tryz.results121 Tryz.ntmps121
attribute [simp] Tryz.results122 Tryz.ntmps122
attribute [simp] Tryz.results123 Tryz.ntmps123
attribute [simp] Tryz.results124 Tryz.ntmps124
attribute [simp] Tryz.results125 Tryz.ntmps125
attribute [simp] Tryz.results126 Tryz.ntmps126
attribute [simp] Tryz.results127 Tryz.ntmps127
attribute [simp] Tryz.results128 Tryz.ntmps128
attribute [simp] Tryz.results129 Tryz.ntmps129
attribute [simp] Tryz.results130 Tryz.ntmps130
attribute [simp] Tryz.results131 Tryz.ntmps131
attribute [simp] Tryz.results132 Tryz.ntmps132
attribute [simp] Tryz.results133 Tryz.ntmps133
attribute [simp] Tryz.results134 Tryz.ntmps134
attribute [simp] Tryz.results135 Tryz.ntmps135
attribute [simp] Tryz.results136 Tryz.ntmps136
attribute [simp] Tryz.results137 Tryz.ntmps137
attribute [simp] Tryz.results138 Tryz.ntmps138
attribute [simp] Tryz.results139 Tryz.ntmps139
attribute [simp] Tryz.results140 Tryz.ntmps140
attribute [simp] Tryz.results141 Tryz.ntmps141
attribute [simp] Tryz.results142 Tryz.ntmps142
attribute [simp] Tryz.results143 Tryz.ntmps143
attribute [simp] Tryz.results144 Tryz.ntmps144
attribute [simp] Tryz.results145 Tryz.ntmps145
attribute [simp] Tryz.results146 Tryz.ntmps146
attribute [simp] Tryz.results147 Tryz.ntmps147
attribute [simp] Tryz.results148 Tryz.ntmps148
attribute [simp] Tryz.results149 Tryz.ntmps149
attribute [simp] Tryz.results150 Tryz.ntmps150
attribute [simp] Tryz.results151 Tryz.ntmps151
attribute [simp] Tryz.results152 Tryz.ntmps152
attribute [simp] Tryz.results153 Tryz.ntmps153
attribute [simp] Tryz.results154 Tryz.ntmps154
attribute [simp] Tryz.results155 Tryz.ntmps155
attribute [simp] Tryz.results156 Tryz.ntmps156
attribute [simp] Tryz.results157 Tryz.ntmps157
attribute [simp] Tryz.results158 Tryz.ntmps158
attribute [simp] Tryz.results159 Tryz.ntmps159
attribute [simp] Tryz.results160 Tryz.ntmps160
attribute [simp] Tryz.results161 Tryz.ntmps161
attribute [simp] Tryz.results162 Tryz.ntmps162
attribute [simp] Tryz.results163 Tryz.ntmps163
attribute [simp] Tryz.results164 Tryz.ntmps164
attribute [simp] Tryz.results165 Tryz.ntmps165
attribute [simp] Tryz.results166 Tryz.ntmps166
attribute [simp] Tryz.results167 Tryz.ntmps167
attribute [simp] Tryz.results168 Tryz.ntmps168
attribute [simp] Tryz.results169 Tryz.ntmps169
attribute [simp] Tryz.results170 Tryz.ntmps170
attribute [simp] Tryz.results171 Tryz.ntmps171
attribute [simp] Tryz.results172 Tryz.ntmps172
attribute [simp] Tryz.results173 Tryz.ntmps173
attribute [simp] Tryz.results174 Tryz.ntmps174
attribute [simp] Tryz.results175 Tryz.ntmps175
attribute [simp] Tryz.results176 Tryz.ntmps176
attribute [simp] Tryz.results177 Tryz.ntmps177
attribute [simp] Tryz.results178 Tryz.ntmps178
attribute [simp] Tryz.results179 Tryz.ntmps179
attribute [simp] Tryz.results180 Tryz.ntmps180
attribute [simp] Tryz.results181 Tryz.ntmps181
attribute [simp] Tryz.results182 Tryz.ntmps182
attribute [simp] Tryz.results183 Tryz.ntmps183
attribute [simp] Tryz.results184 Tryz.ntmps184
attribute [simp] Tryz.results185 Tryz.ntmps185
attribute [simp] Tryz.results186 Tryz.ntmps186
attribute [simp] Tryz.results187 Tryz.ntmps187
theorem mixed : Tryz.prog.follows .mixedOrders = true := by kernel_rfl
end Go.Proofs.YthgcgjpbhbikaaaGreatDoor

set_option linter.unusedSimpArgs false
set_option linter.unusedVariables false
namespace Go.Lg
open Go.Tg Go.RowKit

section
variable {P : Program} {H H' : LH} {v x : Value} {xs new : List Value} {e t : TypeId} {N n m s : Nat} {b : LB}
def RowN (N : Nat) (H : LH) (e : TypeId) (s : Nat) (v : Value) (n : Nat) (xs : List Value) : Prop :=
  xs.length = n * s ∧ ((v = .slice none 0 0 ∧ n = 0) ∨ ∃ k c rest, v = sl k n c ∧ N ≤ k ∧ k < H.n ∧ H.get k = some ⟨xs ++ rest, e, true⟩ ∧ n ≤ c ∧ (xs ++ rest).length = c * s)
theorem RowN.nil : RowN N H e s (.slice none 0 0) 0 [] := ⟨by simp, .inl ⟨rfl, rfl⟩⟩
theorem RowN.lt (h : RowN N H e s v n xs) : xs.length = n * s := h.1
theorem RowN.len (h : RowN N H e s v n xs) (hu : P.underlying t = some (.slice e)) : lbuiltin P .len [t] [v] H' = some (.int .i64 n, H') := by
  rcases h.2 with ⟨rfl, rfl⟩ | ⟨k, c, rest, rfl, _⟩
  · exact lbuiltin_len_slice hu
  · exact lbuiltin_len_slice hu
theorem RowN.cell (h : RowN N H e s v n xs) : cellB v = true := by
  rcases h.2 with ⟨rfl, rfl⟩ | ⟨k, c, rest, rfl, _⟩ <;> simp
theorem RowN.keep (h : RowN N H e s v n xs) (hn : H.n ≤ H'.n) (hk : ∀ k, N ≤ k → ¬ offRow v k → k < H.n → H'.get k = H.get k) : RowN N H' e s v n xs := by
  refine ⟨h.1, ?_⟩
  rcases h.2 with ⟨rfl, rfl⟩ | ⟨k, c, rest, rfl, h1, h2, h3, h4, h5⟩
  · exact .inl ⟨rfl, rfl⟩
  · exact .inr ⟨k, c, rest, rfl, h1, by omega, by rw [hk k h1 (fun h => h _ _ rfl) h2]; exact h3, h4, h5⟩
theorem RowN.off_of_elem (h : RowN N H e s v n xs) {l : Nat} (hl : H.get l = some b) (hne : b.elem ≠ e) : offRow v l := by
  rcases h.2 with ⟨rfl, rfl⟩ | ⟨k, c, rest, rfl, _, _, h2, _⟩
  · exact off_nil
  · intro n c h
    injection h with h
    injection h with h
    injection h with h
    subst h
    rw [h2] at hl
    injection hl with hl
    subst hl
    exact hne rfl
theorem RowN.off_ge (h : RowN N H e s v n xs) {l : Nat} (hl : H.n ≤ l) : offRow v l := by
  rcases h.2 with ⟨rfl, rfl⟩ | ⟨k, c, rest, rfl, _, h1, _⟩
  · exact off_nil
  · intro n c h
    injection h with h
    injection h with h
    injection h with h
    omega
theorem RowN.off_lt (h : RowN N H e s v n xs) {l : Nat} (hl : l < N) : offRow v l := by
  rcases h.2 with ⟨rfl, rfl⟩ | ⟨k, c, rest, rfl, h1, _⟩
  · exact off_nil
  · intro n c h
    injection h with h
    injection h with h
    injection h with h
    omega
def Full (v : Value) : Prop := ∀ k n c, v = sl k n c → c = n
theorem full_new {k n : Nat} : Full (sl k n n) := fun k' n' c' h => by
  injection h with _ h1 h2
  omega
structure Kept (H H' : LH) (v v' : Value) : Prop where
  le : H.n ≤ H'.n
  get : ∀ k, k < H.n → offRow v k → H'.get k = H.get k
  off : ∀ k, k < H.n → offRow v k → offRow v' k
  base : H'.base = H.base
  ng : H'.ng = H.ng
theorem RowN.app (h : RowN N H e s v n xs) (hu : P.underlying t = some (.slice e)) (hs : lesz P e = some s) (hc : new.all cellB = true) (hl : new.length = m * s) (hm : n + m ≤ maxElems) (hN : N ≤ H.n) (hf : m ≤ 1 ∨ Full v) :
    ∃ v' H', lapp P t v (some (m, new)) H = some (v', H') ∧ RowN N H' e s v' (n + m) (xs ++ new) ∧ Kept H H' v v' ∧ (Full v → Full v') := by
  have hlen : (xs ++ new).length = (n + m) * s := by rw [List.length_append, h.1, hl, Nat.add_mul]
  by_cases h0 : m = 0
  · subst h0
    have hn0 : new = [] := List.eq_nil_of_length_eq_zero (by rw [hl, Nat.zero_mul])
    subst hn0
    refine ⟨v, H, ?_, by simpa using h, ⟨Nat.le_refl _, fun _ _ _ => rfl, fun _ _ h => h, rfl, rfl⟩, fun h => h⟩
    rcases h.2 with ⟨rfl, rfl⟩ | ⟨k, c, rest, rfl, _, _, h2, h3, h4⟩
    · exact lapp_nil0 hu hs
    · simp only [lapp, hu, hs, hc, h2, if_true]
      rw [if_pos ⟨trivial, trivial, trivial, h4, h3⟩]
  rcases h.2 with ⟨rfl, rfl⟩ | ⟨k, c, rest, rfl, h1, h2, h3, h4, h5⟩
  · have hx : xs = [] := List.eq_nil_of_length_eq_zero (by rw [h.1, Nat.zero_mul])
    subst hx
    refine ⟨_, _, lapp_nil hu hs hc h0 (by omega), ⟨hlen, .inr ⟨H.n, m, [], by simp, hN, by simp, by simp, by omega, by simpa using hl⟩⟩, ⟨by simp, fun k hk _ => get_new_ne (by omega), fun k hk _ n c h => ?_, rfl, rfl⟩, fun _ => full_new⟩
    injection h with h
    injection h with h
    injection h with h
    omega
  · rcases Nat.lt_or_ge c (n + m) with hroom | hroom
    · by_cases hnc : n = c
      · subst hnc
        have hr : rest = [] := List.eq_nil_of_length_eq_zero (by rw [List.length_append, h.1] at h5; omega)
        subst hr
        rw [List.append_nil] at h3
        have ha := lapp_grow (P := P) (H := H) (t := t) (m := m) (new := new) (n := n) (s := s) hu hs hc h0 hm h3 rfl rfl h.1
        refine ⟨_, _, ha, ⟨hlen, .inr ⟨H.n, n + m, [], by simp, hN, by simp, ?_, Nat.le_refl _, by simpa using hlen⟩⟩, ⟨by simp, fun j hj ho => ?_, fun j hj ho n c h => ?_, rfl, rfl⟩, fun _ => full_new⟩
        · rw [show H.n = (H.kill k).n from rfl, get_new]; simp
        · have hjk : j ≠ k := fun e => ho _ _ (by rw [e])
          rw [get_new_ne (by simp; omega), get_kill_ne hjk]
        · injection h with h
          injection h with h
          injection h with h
          omega
      · exfalso
        rcases hf with hf | hf
        · omega
        · exact hnc (hf k n c rfl).symm
    · have ha := lapp_in (P := P) (H := H) (t := t) (m := m) (new := new) (n := n) (cp := c) (s := s) hu hs hc h0 h3 rfl rfl h5 hroom
      have hrest : rest.length = (c - n) * s := by
        rw [List.length_append, h.1] at h5
        rw [Nat.sub_mul]; omega
      have hmr : m * s ≤ (c - n) * s := Nat.mul_le_mul_right _ (by omega)
      refine ⟨_, _, ha, ⟨hlen, .inr ⟨k, c, rest.drop (m * s), rfl, h1, h2, ?_, hroom, ?_⟩⟩, ⟨Nat.le_refl _, fun j hj ho => ?_, fun j hj ho n c' h => ?_, rfl, rfl⟩, fun hf => absurd (hf k n c rfl) (by omega)⟩
      · rw [get_set]
        congr 2
        simp only [splice]
        rw [← h.1, List.take_left', List.drop_append, hl]
        · simp [List.drop_eq_nil_of_le]
        · rfl
      · rw [List.length_append, hlen, List.length_drop, hrest, ← Nat.sub_mul, ← Nat.add_mul]
        congr 1; omega
      · have hjk : j ≠ k := fun e => ho _ _ (by rw [e])
        rw [get_set_ne hjk]
      · injection h with h
        injection h with h
        injection h with h
        subst h
        exact ho _ _ rfl
end
end Go.Lg

set_option linter.unusedSimpArgs false
set_option linter.unusedVariables false
namespace Go.Lg
open Go.Tg Go.RowKit
section
variable {P : Program} {fr : Fr} {H H0 : LH} {T : Callee} {L : Loud} {t s : TypeId} {x y i c : Operand}
@[simp ↓] theorem lmixx_move : lmixx P T (.move x) fr H0 H = lopx P T (.move x) fr H := rfl
@[simp ↓] theorem loud_move : loudOp L (.move x) = false := rfl
@[simp ↓] theorem lmixx_assign : lmixx P T (.assign x) fr H0 H = lopx P T (.assign x) fr H := rfl
@[simp ↓] theorem loud_assign : loudOp L (.assign x) = false := rfl
@[simp ↓] theorem lmixx_pick : lmixx P T (.pick c x y) fr H0 H = lopx P T (.pick c x y) fr H := rfl
@[simp ↓] theorem loud_pick : loudOp L (.pick c x y) = false := rfl
@[simp ↓] theorem lmixx_box : lmixx P T (.box t x) fr H0 H = lopx P T (.box t x) fr H := rfl
@[simp ↓] theorem loud_box : loudOp L (.box t x) = false := rfl
@[simp ↓] theorem lmixx_alloc : lmixx P T (.alloc t) fr H0 H = lopx P T (.alloc t) fr H := rfl
@[simp ↓] theorem loud_alloc : loudOp L (.alloc t) = false := rfl
@[simp ↓] theorem lmixx_load : lmixx P T (.load t x) fr H0 H = lopx P T (.load t x) fr H := rfl
@[simp ↓] theorem loud_load : loudOp L (.load t x) = false := rfl
@[simp ↓] theorem lmixx_nilCheck : lmixx P T (.nilCheck x) fr H0 H = lopx P T (.nilCheck x) fr H := rfl
@[simp ↓] theorem loud_nilCheck : loudOp L (.nilCheck x) = false := rfl
@[simp ↓] theorem lmixx_fieldAddr {f : Nat} : lmixx P T (.fieldAddr t x f) fr H0 H = lopx P T (.fieldAddr t x f) fr H := rfl
@[simp ↓] theorem loud_fieldAddr {f : Nat} : loudOp L (.fieldAddr t x f) = false := rfl
@[simp ↓] theorem lmixx_indexAddr : lmixx P T (.indexAddr t x i) fr H0 H = lopx P T (.indexAddr t x i) fr H := rfl
@[simp ↓] theorem loud_indexAddr : loudOp L (.indexAddr t x i) = false := rfl
@[simp ↓] theorem lmixx_slice {lo hi mx : Option Operand} : lmixx P T (.slice t x lo hi mx) fr H0 H = lopx P T (.slice t x lo hi mx) fr H := rfl
@[simp ↓] theorem loud_slice {lo hi mx : Option Operand} : loudOp L (.slice t x lo hi mx) = false := rfl
@[simp ↓] theorem lmixx_field {f : Nat} : lmixx P T (.field t x f) fr H0 H = lopx P T (.field t x f) fr H := rfl
@[simp ↓] theorem loud_field {f : Nat} : loudOp L (.field t x f) = false := rfl
@[simp ↓] theorem lmixx_extract {f : Nat} : lmixx P T (.extract x f) fr H0 H = lopx P T (.extract x f) fr H := rfl
@[simp ↓] theorem loud_extract {f : Nat} : loudOp L (.extract x f) = false := rfl
@[simp ↓] theorem lmixx_build {ps : Array (Nat × Operand)} : lmixx P T (.build t ps) fr H0 H = lopx P T (.build t ps) fr H := rfl
@[simp ↓] theorem loud_build {ps : Array (Nat × Operand)} : loudOp L (.build t ps) = false := rfl
@[simp ↓] theorem lmixx_buildSlice {f : Nat} {ps : Array (Nat × Operand)} : lmixx P T (.buildSlice t f ps) fr H0 H = lopx P T (.buildSlice t f ps) fr H := rfl
@[simp ↓] theorem loud_buildSlice {f : Nat} {ps : Array (Nat × Operand)} : loudOp L (.buildSlice t f ps) = false := rfl
@[simp ↓] theorem lmixx_binOp {op : BinOp} : lmixx P T (.binOp op t x y s) fr H0 H = lopx P T (.binOp op t x y s) fr H := rfl
@[simp ↓] theorem loud_binOp {op : BinOp} : loudOp L (.binOp op t x y s) = false := rfl
@[simp ↓] theorem lmixx_unOp {uop : UnOp} : lmixx P T (.unOp uop t x) fr H0 H = lopx P T (.unOp uop t x) fr H := rfl
@[simp ↓] theorem loud_unOp {uop : UnOp} : loudOp L (.unOp uop t x) = false := rfl
def lcvQ (P : Program) (s d : TypeId) (v : Value) (H : LH) : Option (Value × LH) := match lbytes P s d v H with
  | some r => some r
  | none => withH (lconv P s d v H) H
@[simp ↓] theorem lmixx_convert : lmixx P T (.convert s t x) fr H0 H = lcvQ P s t (ev fr x) H := by
  show (match lbytes P s t (ev fr x) H with | some r => some r | none => lopx P T (.convert s t x) fr H) = _
  rw [lopx_conv]; rfl
theorem lcvQ_no {v : Value} (h : ∀ bs, v ≠ .string bs) : lcvQ P s t v H = withH (lconv P s t v H) H := by
  unfold lcvQ; rw [lbytes_no h]
@[simp] theorem lcvQ_int {kd : IntKind} {n : Int} : lcvQ P s t (.int kd n) H = withH (lconv P s t (.int kd n) H) H := lcvQ_no (fun _ h => by cases h)
@[simp] theorem lcvQ_float {kd : FloatKind} {n : Nat} : lcvQ P s t (.float kd n) H = withH (lconv P s t (.float kd n) H) H := lcvQ_no (fun _ h => by cases h)
@[simp] theorem lcvQ_slice {a : Option Addr} {n c : Nat} : lcvQ P s t (.slice a n c) H = withH (lconv P s t (.slice a n c) H) H := lcvQ_no (fun _ h => by cases h)
@[simp] theorem lcvQ_undef : lcvQ P s t undef H = withH (lconv P s t undef H) H := lcvQ_no (fun _ h => by cases h)
theorem lcvQ_str {l : List UInt8} : lcvQ P s t (str l) H = lcvB P s t (str l) H := by
  have e2 : lmark P s t (str l) H = none := by
    unfold lmark
    split
    · rename_i h; cases h
    · rfl
  unfold lcvQ lcvB lbytesM
  rw [e2]
  cases lbytes P s t (str l) H <;> rfl
@[simp] theorem lcvQ_bytes {e : TypeId} {l : List UInt8} (hs : P.underlying s = some .string) (hd : P.underlying t = some (.slice e)) (he : P.underlying e = some (.int .u8)) (hz : sz P e = some 1) : lcvQ P s t (str l) H = some (.slice (some ⟨H.n, 0, none⟩) l.length l.length, H.new ⟨l.map fun b => Value.int .u8 b.toNat, MK P e, decide (l.length ≤ maxLen)⟩) := by
  rw [lcvQ_str]; exact lcvB_bytes hs hd he hz
@[simp] theorem lcvQ_strs {l : List UInt8} (hd : P.underlying t = some .string) : lcvQ P s t (str l) H = withH (lconv P s t (str l) H) H := by
  rw [lcvQ_str]; exact lcvB_strs hd
@[simp ↓] theorem lmixx_makeSlice : lmixx P T (.makeSlice t x y) fr H0 H = lopx P T (.makeSlice t x y) fr H := rfl
@[simp ↓] theorem loud_convert : loudOp L (.convert s t x) = false := rfl
@[simp ↓] theorem lmixx_index : lmixx P T (.index t x i) fr H0 H = lopx P T (.index t x i) fr H := rfl
@[simp ↓] theorem loud_index : loudOp L (.index t x i) = false := rfl
@[simp ↓] theorem lmixx_makeFunc {g : Fn} {c1 c2 : Array Operand} : lmixx P T (.makeFunc g c1 c2) fr H0 H = lopx P T (.makeFunc g c1 c2) fr H := rfl
@[simp ↓] theorem loud_makeFunc {g : Fn} {c1 c2 : Array Operand} : loudOp L (.makeFunc g c1 c2) = false := rfl
@[simp ↓] theorem loud_store : loudOp L (.store t x y) = true := rfl
@[simp ↓] theorem loud_append {args : Array Operand} {ts : Array TypeId} : loudOp L (.call ⟨.builtin .append, args, ts⟩) = true := rfl
@[simp ↓] theorem loud_len {args : Array Operand} {ts : Array TypeId} : loudOp L (.call ⟨.builtin .len, args, ts⟩) = false := rfl
@[simp ↓] theorem loud_min {args : Array Operand} {ts : Array TypeId} : loudOp L (.call ⟨.builtin .min, args, ts⟩) = false := rfl
@[simp ↓] theorem loud_max {args : Array Operand} {ts : Array TypeId} : loudOp L (.call ⟨.builtin .max, args, ts⟩) = false := rfl
@[simp ↓] theorem loud_call {g : FuncId} {args : Array Operand} {ts : Array TypeId} : loudOp L (.call ⟨.value (.func g), args, ts⟩) = L g := rfl
@[simp ↓] theorem loud_callt {g : Tmp} {args : Array Operand} {ts : Array TypeId} : loudOp L (.call ⟨.value (.tmp g), args, ts⟩) = false := rfl
def sameH (x : Option (Value × LH)) (H : LH) : Option (Value × LH) := x.map fun r => (r.1, H)
@[simp] theorem sameH_some {v : Value} {H1 : LH} : sameH (some (v, H1)) H = some (v, H) := rfl
@[simp] theorem sameH_none : sameH none H = none := rfl
@[simp ↓] theorem lmixx_len {args : List Operand} {ts : List TypeId} : lmixx P T (.call ⟨.builtin .len, ⟨args⟩, ⟨ts⟩⟩) fr H0 H = sameH (lbuiltin P .len ts (args.map (ev fr)) H) H := rfl
@[simp ↓] theorem lmixx_min {args : List Operand} {ts : List TypeId} : lmixx P T (.call ⟨.builtin .min, ⟨args⟩, ⟨ts⟩⟩) fr H0 H = sameH (lbuiltin P .min ts (args.map (ev fr)) H) H := rfl
@[simp ↓] theorem lmixx_max {args : List Operand} {ts : List TypeId} : lmixx P T (.call ⟨.builtin .max, ⟨args⟩, ⟨ts⟩⟩) fr H0 H = sameH (lbuiltin P .max ts (args.map (ev fr)) H) H := rfl
def mcall (b : Bool) (x : Option (Value × LH)) (H : LH) : Option (Value × LH) := match b, x with | true, some (v, _) => if flatB v then some (v, H) else none | _, _ => none
@[simp] theorem mcall_some {v : Value} {H1 : LH} (h : flatB v = true) : mcall true (some (v, H1)) H = some (v, H) := by simp [mcall, h]
@[simp] theorem mcall_none {b : Bool} : mcall b none H = none := by cases b <;> rfl
@[congr] theorem mcall_congr {b b' : Bool} {x x' : Option (Value × LH)} (h1 : b = b') (h2 : x = x') : mcall b x H = mcall b' x' H := by rw [h1, h2]
def flatL : List Value → Bool
  | [] => true
  | v :: l => flatB v && flatL l
@[simp] theorem flatL_nil : flatL [] = true := rfl
@[simp] theorem flatL_cons {v : Value} {l : List Value} : flatL (v :: l) = (flatB v && flatL l) := rfl
theorem flatL_eq : ∀ l : List Value, l.all flatB = flatL l
  | [] => rfl
  | v :: l => by simp only [List.all_cons, flatL, flatL_eq l]
def lowH (H0 H : LH) (f : Value) (args : List Value) : Bool := H.n == H0.n || (flatB f && flatL args)
@[simp] theorem lowH_same {f : Value} {args : List Value} : lowH H H f args = true := by simp [lowH]
@[simp] theorem lowH_flat {f : Value} {args : List Value} (h1 : flatB f = true) (h2 : flatL args = true) : lowH H0 H f args = true := by simp [lowH, h1, h2]
@[simp] theorem flat_fn {g : FuncId} : flatB (.func (.func g) #[] #[]) = true := rfl
@[simp ↓] theorem lmixx_call {f : Operand} {args : List Operand} {ts : Array TypeId} : lmixx P T (.call ⟨.value f, ⟨args⟩, ts⟩) fr H0 H = mcall (lowH H0 H (ev fr f) (args.map (ev fr))) (lcallee P T (ev fr f) (args.map (ev fr)) H0.ro) H := by
  show (if (H.n == H0.n || (flatB (ev fr f) && (args.map (ev fr)).all flatB)) = true then (match lcallee P T (ev fr f) (args.map (ev fr)) H0.ro with | some (v, _) => if flatB v then some v else none | none => none).map (fun v => (v, H)) else none) = _
  rw [flatL_eq]
  unfold lowH mcall
  cases (H.n == H0.n || (flatB (ev fr f) && flatL (args.map (ev fr)))) with
  | false => rfl
  | true =>
    rw [if_pos rfl]
    cases lcallee P T (ev fr f) (args.map (ev fr)) H0.ro with
    | none => rfl
    | some x =>
      obtain ⟨v, H1⟩ := x
      simp only
      split <;> rfl
end
end Go.Lg

set_option linter.unusedSimpArgs false
set_option linter.unusedVariables false
namespace Go.Lg
open Go.Tg Go.RowKit
section
variable {P : Program} {H : LH} {t : TypeId} {a b : Bool}
theorem pureVal_equal_b (hu : P.underlying t = some .bool) : pureVal P (Op.equal t (.bool a) (.bool b)) = some (a == b) := by
  unfold Op.equal
  show pureVal P (Op.equalIn (9999 + 1) t (.bool a) (.bool b)) = _
  unfold Op.equalIn
  simp only [pureVal_bind, pureVal_und, hu, Option.bind_some, pureVal_pure]
@[simp] theorem lbin_beq (hu : P.underlying t = some .bool) : lbin P .eql t (.bool a) (.bool b) = some (.bool (a == b)) := lbin_bb (by simp only [binOp, pureVal_bind, pureVal_equal_b hu, Option.bind_some, pureVal_pure]) rfl
@[simp] theorem lbin_bne (hu : P.underlying t = some .bool) : lbin P .neq t (.bool a) (.bool b) = some (.bool (a != b)) := lbin_bb (by simp only [binOp, pureVal_bind, pureVal_equal_b hu, Option.bind_some, pureVal_pure]; rfl) rfl
@[simp ↓] theorem ev_str0 {fr : Fr} : ev fr (.const (.string ⟨#[]⟩)) = str [] := rfl
@[simp ↓] theorem ev_str1 {fr : Fr} : ev fr (.const (.string ByteArray.empty)) = str [] := rfl
@[simp] theorem ev_strc {fr : Fr} {l : List UInt8} : ev fr (.const (str l)) = str l := by
  show (if flatB (str l) then str l else unk) = _
  rw [if_pos flat_str]
@[simp] theorem get_new_eq {H : LH} {b : LB} {l : Nat} (h : l = H.n) : (H.new b).get l = some b := by subst h; exact get_new
@[simp] theorem new_set_eq {H : LH} {b c : LB} {l : Nat} (h : l = H.n) : (H.new b).set l c = H.new c := by subst h; exact new_set
@[simp ↓] theorem lopx_makeSlice {T : Callee} {fr : Fr} {x y : Operand} : lopx P T (.makeSlice t x y) fr H = lmake P t (ev fr x) (ev fr y) H := rfl
@[simp] theorem lmake_one {e : TypeId} {z : Value} {l c : Int} {k k' : IntKind} (hu : P.underlying t = some (.slice e)) (hs : lesz P e = some 1) (hz : zr P e = some z) (hf : flatB z = true) (hc : cellB z = true) (h0 : 0 ≤ l) (h1 : l ≤ c) (h2 : c ≤ 1048576) :
    lmake P t (.int k l) (.int k' c) H = some (.slice (some ⟨H.n, 0, none⟩) l.toNat c.toNat, H.new ⟨List.replicate c.toNat z, e, true⟩) := by
  unfold lesz at hs
  unfold zr at hz
  unfold lmake
  simp only [hu]
  cases hi : P.info? e with
  | none => simp [hi] at hs
  | some i =>
    simp only [hi, Option.bind_some] at hs hz
    rw [hz] at hs
    simp only at hs
    split at hs
    · rename_i hh
      simp only [Option.some.injEq] at hs
      simp only [hz]
      have hcs : z.cells = #[z] := cells_one hc
      rw [if_pos (by
        simp only [Bool.and_eq_true, decide_eq_true_eq, beq_iff_eq]
        refine ⟨⟨⟨⟨⟨⟨hf, by omega⟩, h0⟩, h1⟩, by rw [hs]; omega⟩, hh.2.2⟩, by rw [hcs, hs]; rfl⟩)]
      congr 3
      rw [hcs, hs, Nat.mul_one]
      congr 1
      apply List.ext_getElem
      · simp
      · intro i h1 h2
        simp [Nat.mod_one]
    · cases hs
end
end Go.Lg

set_option linter.unusedSimpArgs false
set_option linter.unusedVariables false
namespace Go.Lg
open Go.Tg Go.RowKit
section
variable {P : Program} {H : LH} {t c : TypeId} {kd kd' : IntKind} {a b : Int} {k : FloatKind} {x y r : Nat}
def bAnd (kd : IntKind) (a b : Int) : Int := kd.wrap ((BitVec.ofInt kd.bits a &&& BitVec.ofInt kd.bits b).toNat)
def bOr (kd : IntKind) (a b : Int) : Int := kd.wrap ((BitVec.ofInt kd.bits a ||| BitVec.ofInt kd.bits b).toNat)
def bXor (kd : IntKind) (a b : Int) : Int := kd.wrap ((BitVec.ofInt kd.bits a ^^^ BitVec.ofInt kd.bits b).toNat)
def bNot (kd : IntKind) (a b : Int) : Int := kd.wrap ((BitVec.ofInt kd.bits a &&& ~~~ BitVec.ofInt kd.bits b).toNat)
@[simp] theorem lbin_and : lbin P .and t (.int kd a) (.int kd b) = some (.int kd (bAnd kd a b)) := lbin_ii (by simp [binOp, Op.intBits, bAnd]) rfl
@[simp] theorem lbin_or : lbin P .or t (.int kd a) (.int kd b) = some (.int kd (bOr kd a b)) := lbin_ii (by simp [binOp, Op.intBits, bOr]) rfl
@[simp] theorem lbin_xor : lbin P .xor t (.int kd a) (.int kd b) = some (.int kd (bXor kd a b)) := lbin_ii (by simp [binOp, Op.intBits, bXor]) rfl
@[simp] theorem lbin_andNot : lbin P .andNot t (.int kd a) (.int kd b) = some (.int kd (bNot kd a b)) := lbin_ii (by simp [binOp, Op.intBits, bNot]) rfl
theorem lbin_sh {op : BinOp} {v : Value} (h : pureVal P (binOp op t (.int kd a) (.int kd' b)) = some v) (hv : flatB v = true) : lbin P op t (.int kd a) (.int kd' b) = some v := by
  have e : pureVal P (do eqGuard op t (.tmp 0) (.tmp 0) (.int kd a) (.int kd' b); binOp op t (.int kd a) (.int kd' b) : Sem Value) = some v := by
    rw [← h]; cases op <;> rfl
  show pureFlat P (do eqGuard op t (.tmp 0) (.tmp 0) _ _; binOp op t _ _) = some v
  unfold pureFlat
  rw [e]
  simp only [hv, if_true]
@[simp] theorem lbin_shl (h : 0 ≤ b) : lbin P .shl t (.int kd a) (.int kd' b) = some (.int kd (kd.wrap (a * 2 ^ (min b.toNat kd.bits)))) := lbin_sh (by
  have : ¬ b < 0 := by omega
  simp [binOp, Op.shift, this]) rfl
@[simp] theorem lbin_shr (h : 0 ≤ b) : lbin P .shr t (.int kd a) (.int kd' b) = some (.int kd (a.fdiv (2 ^ (min b.toNat kd.bits)))) := lbin_sh (by
  have : ¬ b < 0 := by omega
  simp [binOp, Op.shift, this]) rfl
@[simp ↓] theorem ev_float {fr : Fr} : ev fr (.const (.float k x)) = .float k x := rfl
@[simp] theorem flat_float : flatB (.float k x) = true := by simp [flatB, flat1B, atomB]
@[simp] theorem cell_float : cellB (.float k x) = true := by simp only [cellB]
theorem lbin_ff {op : BinOp} {v : Value} (h : pureVal P (binOp op t (.float k x) (.float k y)) = some v) (hv : flatB v = true) : lbin P op t (.float k x) (.float k y) = some v := by
  have e : pureVal P (do eqGuard op t (.tmp 0) (.tmp 0) (.float k x) (.float k y); binOp op t (.float k x) (.float k y) : Sem Value) = some v := by
    rw [← h]; cases op <;> rfl
  show pureFlat P (do eqGuard op t (.tmp 0) (.tmp 0) _ _; binOp op t _ _) = some v
  unfold pureFlat
  rw [e]
  simp only [hv, if_true]
theorem lbin_feq : lbin P .eql t (.float k x) (.float k y) = some (.bool (k.format.order x y == some .eq)) := lbin_ff (by
  simp only [binOp, Op.floatCmp, ne_eq, not_true_eq_false, if_false, pureVal_pure]) rfl
theorem lbin_fne : lbin P .neq t (.float k x) (.float k y) = some (.bool (k.format.order x y != some .eq)) := lbin_ff (by
  simp only [binOp, Op.floatCmp, ne_eq, not_true_eq_false, if_false, pureVal_pure]) rfl
theorem lbin_flt : lbin P .lss t (.float k x) (.float k y) = some (.bool (k.format.order x y == some .lt)) := lbin_ff (by
  simp only [binOp, Op.floatCmp, ne_eq, not_true_eq_false, if_false, pureVal_pure]) rfl
theorem lbin_fgt : lbin P .gtr t (.float k x) (.float k y) = some (.bool (k.format.order x y == some .gt)) := lbin_ff (by
  simp only [binOp, Op.floatCmp, ne_eq, not_true_eq_false, if_false, pureVal_pure]) rfl
theorem lconv_if {n : Int} (h1 : P.underlying t = some (.int kd)) (h2 : P.underlying c = some (.float k)) : lconv P t c (.int kd n) H = some (.float k (k.nearest n)) := by
  have e : pureVal P (convert t c (.int kd n)) = some (.float k (k.nearest n)) := by
    simp only [convert, pureVal_bind, pureVal_und, h1, h2, Option.bind_some]
    rfl
  unfold lconv
  simp only [flat_int, if_true, pureFlat, e, flat_float]
attribute [simp] lbin_feq lbin_fne lbin_flt lbin_fgt lconv_if
end
end Go.Lg

set_option linter.unusedSimpArgs false
set_option linter.unusedVariables false
namespace Go.Lg
open Go.Tg Go.RowKit
def flatSpec (g : List Value → Option Value) : Lg.Spec := fun args H => (g args).map fun v => (v, H)
theorem specOk_flat {P : Program} {f : FuncId} {g : List Value → Option Value} (he : Entered P f)
    (h : ∀ args v, g args = some v → (∀ x ∈ args, flatB x = true) ∧ flatB v = true ∧ ∀ w, Calls P f args.toArray w fun e w' => e = .returned v ∧ Change (fun _ => False) w w') : SpecOk P f (flatSpec g) := by
  intro args H v H' hs
  unfold flatSpec at hs
  obtain ⟨u, hu, e⟩ := Option.map_eq_some_iff.1 hs
  simp only [Prod.mk.injEq] at e
  obtain ⟨rfl, rfl⟩ := e
  obtain ⟨h1, h2, h3⟩ := h args u hu
  exact .inl ⟨he, callOk_flatC h1 h2 h3⟩
theorem change_of_below {w w' : World} (h : Below w.heap.size w w') : Change (fun _ => False) w w' := ⟨h.os, h.tape, h.output, h.size, fun k hk _ => h.block k hk⟩
theorem same_mono {P : Program} {f : FuncId} {args : Array Value} {w : World} {v : Value} (h : Calls P f args w fun e w' => e = .returned v ∧ w' = w) : Calls P f args w fun e w' => e = .returned v ∧ Change (fun _ => False) w w' :=
  h.mono fun e w' ⟨h1, h2⟩ => ⟨h1, by rw [h2]; exact Change.refl _ _⟩
theorem flat2 {x y : Value} (hx : flatB x = true) (hy : flatB y = true) : ∀ z ∈ [x, y], flatB z = true := by
  intro z hz
  rcases List.mem_cons.1 hz with rfl | hz
  · exact hx
  · rcases List.mem_cons.1 hz with rfl | hz
    · exact hy
    · cases hz
theorem flat1 {x : Value} (hx : flatB x = true) : ∀ z ∈ [x], flatB z = true := by
  intro z hz
  rcases List.mem_cons.1 hz with rfl | hz
  · exact hx
  · cases hz
theorem LC_flat {P : Program} {E : Ext} {f : FuncId} {g : List Value → Option Value} {args : List Value} {v : Value} {H : LH} (he : E f = some (flatSpec g)) (hg : g args = some v) : LC P E f args H = some (v, H) := LC_ext he (by simp [flatSpec, hg])
def asc (s : ByteArray) : Prop := ∀ (j : Nat) b, s.data.toList[j]? = some b → b.toNat < 128
def ascL (s : List UInt8) : Prop := ∀ b ∈ s, b.toNat < 128
theorem asc_of {s : List UInt8} (h : ascL s) : asc ⟨s.toArray⟩ := fun j b hb => h b (List.mem_of_getElem? (by simpa using hb))
end Go.Lg
namespace Go.Proofs.YthgcgjpbhbikaaaGreatDoor
open Go.Lg Go.Tg
def gIndexByte : List Value → Option Value
  | [.string s, .int .u8 c] => some (.int .i64 (Lib.indexByte s.data.toList c.toNat.toUInt8))
  | _ => none
theorem ok_IndexByte : SpecOk Tryz.prog 144 (flatSpec gIndexByte) := specOk_flat ⟨_, Tryz.func144, rfl, by decide⟩ fun args v h => by
  unfold gIndexByte at h
  split at h
  · injection h with h; subst h
    exact ⟨flat2 rfl rfl, rfl, fun w => same_mono (Tryz.strings_IndexByte _ _ w)⟩
  · cases h
end Go.Proofs.YthgcgjpbhbikaaaGreatDoor

set_option linter.unusedSimpArgs false
set_option linter.unusedVariables false
namespace Go.Lg
open Go.Tg Go.RowKit

abbrev PQ := Res → LH → Option Code → Prop
def PR (P : Program) (E : PEnv) (Y : Option YC) (rd : Nat) (fn : Func) (k : List Item) (fr : Fr) (H : LH) (p : Option Code) (Q : PQ) : Prop := ∃ r H' p', R P E (.run Y rd fn k fr H p r H' p') ∧ Q r H' p'
def PO (P : Program) (E : PEnv) (Y : Option YC) (rd : Nat) (fn : Func) (all : Array Oper) (os : List Oper) (k : List Item) (fr : Fr) (H : LH) (p : Option Code) (Q : PQ) : Prop := ∃ r H' p', R P E (.ops Y rd fn all os k fr H p r H' p') ∧ Q r H' p'
def PStep (P : Program) (E : PEnv) (Y : Option YC) (rd : Nat) (fn : Func) (x : Option (Value × LH)) (d : Nat) (all : Array Oper) (os : List Oper) (k : List Item) (fr : Fr) (p : Option Code) (Q : PQ) : Prop :=
  match x with
  | some (v, H) => d < fn.ntmps ∧ PO P E Y rd fn all os k (upd fr d v) H p Q
  | none => False
def PStep0 (P : Program) (E : PEnv) (Y : Option YC) (rd : Nat) (fn : Func) (x : Option (Value × LH)) (all : Array Oper) (os : List Oper) (k : List Item) (fr : Fr) (p : Option Code) (Q : PQ) : Prop :=
  match x with
  | some (_, H) => PO P E Y rd fn all os k fr H p Q
  | none => False
def PHand (P : Program) (E : PEnv) (Y : Option YC) (rd : Nat) (fn : Func) (all : Array Oper) (os : List Oper) (k : List Item) (fr : Fr) (H : LH) (p : Option Code) (Q : PQ) : Prop := PO P E Y rd fn all os k fr H p Q
def PRes (x : Option Value) (H : LH) (p : Option Code) (Q : PQ) : Prop := match x with | some v => Q (.ret v) H p | none => False
def PCond (P : Program) (E : PEnv) (Y : Option YC) (rd : Nat) (fn : Func) (c : Value) (x y : Code) (k : List Item) (fr : Fr) (H : LH) (p : Option Code) (Q : PQ) : Prop :=
  match c with
  | .bool t => if t = true then PR P E Y rd fn (.code x :: k) fr H p Q else PR P E Y rd fn (.code y :: k) fr H p Q
  | _ => False
def isClear : Builtin → Bool
  | .clear => true
  | _ => false
def handB (E : PEnv) (fr : Fr) (op : Op) : Bool := match op with
  | .call c => match c.callee with
    | .builtin b => isClear b
    | .value x => match ev fr x with
      | .func (.func g) _ _ => E.ps g
      | .func (.yield _) _ _ => true
      | _ => false
    | _ => false
  | .makeFunc _ first _ => first.size != 0
  | _ => false
def PG (P : Program) (E : PEnv) (Y : Option YC) (rd : Nat) (fn : Func) (g : Option Bool) (op : Op) (d : Nat) (all : Array Oper) (o : Oper) (os : List Oper) (k : List Item) (fr : Fr) (H : LH) (p : Option Code) (Q : PQ) : Prop :=
  match g with
  | some true => RSel (handB E fr op) (PHand P E Y rd fn all (o :: os) k fr H p Q) (PStep P E Y rd fn (lopxB P (LC P E.E) op fr H) d all os k fr p Q)
  | some false => d < fn.ntmps ∧ PO P E Y rd fn all os k (upd fr d undef) H p Q
  | none => False
section
variable {P : Program} {E : PEnv} {Y : Option YC} {rd : Nat} {fn : Func} {k : List Item} {fr : Fr} {H H' H0 : LH} {p : Option Code} {Q : PQ} {all : Array Oper} {os : List Oper} {d : Nat} {op : Op} {ty : TypeId} {pos : String} {after : Array Edge} {v : Value}
theorem pr_skip : PR P E Y rd fn (.code .skip :: k) fr H p Q ↔ PR P E Y rd fn k fr H p Q := ⟨fun ⟨r, H', p', h, q⟩ => by cases h; exact ⟨_, _, _, ‹_›, q⟩, fun ⟨r, H', p', h, q⟩ => ⟨_, _, _, .skip h, q⟩⟩
theorem pr_label {l : Nat} : PR P E Y rd fn (.code (.label l) :: k) fr H p Q ↔ PR P E Y rd fn k fr H p Q := ⟨fun ⟨r, H', p', h, q⟩ => by cases h; exact ⟨_, _, _, ‹_›, q⟩, fun ⟨r, H', p', h, q⟩ => ⟨_, _, _, .label h, q⟩⟩
theorem pr_inBlock {l : Nat} : PR P E Y rd fn (.inBlock l :: k) fr H p Q ↔ PR P E Y rd fn k fr H p Q := ⟨fun ⟨r, H', p', h, q⟩ => by cases h; exact ⟨_, _, _, ‹_›, q⟩, fun ⟨r, H', p', h, q⟩ => ⟨_, _, _, .inBlock h, q⟩⟩
theorem pr_inScope {c : Code} : PR P E Y rd fn (.inScope c :: k) fr H p Q ↔ PR P E Y rd fn k fr H p Q := ⟨fun ⟨r, H', p', h, q⟩ => by cases h; exact ⟨_, _, _, ‹_›, q⟩, fun ⟨r, H', p', h, q⟩ => ⟨_, _, _, .inScope h, q⟩⟩
theorem pr_seq {a b : Code} : PR P E Y rd fn (.code (.seq a b) :: k) fr H p Q ↔ PR P E Y rd fn (.code a :: .code b :: k) fr H p Q := ⟨fun ⟨r, H', p', h, q⟩ => by cases h; exact ⟨_, _, _, ‹_›, q⟩, fun ⟨r, H', p', h, q⟩ => ⟨_, _, _, .seq h, q⟩⟩
theorem pr_block {id : Nat} {c : Code} : PR P E Y rd fn (.code (.block id c) :: k) fr H p Q ↔ PR P E Y rd fn (.code c :: .inBlock id :: k) fr H p Q := ⟨fun ⟨r, H', p', h, q⟩ => by cases h; exact ⟨_, _, _, ‹_›, q⟩, fun ⟨r, H', p', h, q⟩ => ⟨_, _, _, .block h, q⟩⟩
theorem pr_scope {c : Code} : PR P E Y rd fn (.code (.scope c) :: k) fr H p Q ↔ PR P E Y rd fn (.code c :: .inScope c :: k) fr H p Q := ⟨fun ⟨r, H', p', h, q⟩ => by cases h; exact ⟨_, _, _, ‹_›, q⟩, fun ⟨r, H', p', h, q⟩ => ⟨_, _, _, .scope h, q⟩⟩
theorem pr_loop {c : Code} : PR P E Y rd fn (.code (.loop c) :: k) fr H p Q ↔ PR P E Y rd fn (.inLoop c :: k) fr H p Q := ⟨fun ⟨r, H', p', h, q⟩ => by cases h; exact ⟨_, _, _, .inLoop ‹_›, q⟩, fun ⟨r, H', p', h, q⟩ => by cases h; exact ⟨_, _, _, .loop ‹_›, q⟩⟩
theorem pr_inLoop {c : Code} : PR P E Y rd fn (.inLoop c :: k) fr H p Q ↔ PR P E Y rd fn (.code c :: .inLoop c :: k) fr H p Q := ⟨fun ⟨r, H', p', h, q⟩ => by cases h; exact ⟨_, _, _, ‹_›, q⟩, fun ⟨r, H', p', h, q⟩ => ⟨_, _, _, .inLoop h, q⟩⟩
def PExit (P : Program) (E : PEnv) (Y : Option YC) (rd : Nat) (fn : Func) (id : Nat) (x : Option (List Item)) (fr : Fr) (H : LH) (p : Option Code) (Q : PQ) : Prop :=
  match x with
  | some k => PR P E Y rd fn k fr H p Q
  | none => Y = none ∧ rd = 2 ∧ p = none ∧ Q (.jump (some (.exit id))) H none
@[congr] theorem pexit_congr {id : Nat} {x y : Option (List Item)} (h : x = y) : PExit P E Y rd fn id x fr H p Q = PExit P E Y rd fn id y fr H p Q := by rw [h]
@[simp] theorem pexit_some {id : Nat} : PExit P E Y rd fn id (some k) fr H p Q ↔ PR P E Y rd fn k fr H p Q := Iff.rfl
@[simp] theorem pexit_none {id : Nat} : PExit P E none 2 fn id none fr H none Q ↔ Q (.jump (some (.exit id))) H none := by simp [PExit]
theorem pr_exit {id : Nat} : PR P E Y rd fn (.code (.exit id) :: k) fr H p Q ↔ PExit P E Y rd fn id (exitTo id k) fr H p Q := by
  constructor
  · rintro ⟨r, H', p', h, q⟩
    cases h with
    | exit1 hx => rw [hx]; exact ⟨rfl, rfl, rfl, q⟩
    | exit hx h => rw [hx]; exact ⟨_, _, _, h, q⟩
  · intro h
    cases hx : exitTo id k with
    | none => rw [hx] at h; obtain ⟨rfl, rfl, rfl, q⟩ := h; exact ⟨_, _, _, .exit1 hx, q⟩
    | some k' => rw [hx] at h; obtain ⟨r, H', p', h, q⟩ := h; exact ⟨_, _, _, .exit hx h, q⟩
def PGoto (P : Program) (E : PEnv) (Y : Option YC) (rd : Nat) (fn : Func) (x : Option (List Item)) (fr : Fr) (H : LH) (p : Option Code) (Q : PQ) : Prop :=
  match x with
  | some k => PR P E Y rd fn k fr H p Q
  | none => False
@[congr] theorem pgoto_congr {x y : Option (List Item)} (h : x = y) : PGoto P E Y rd fn x fr H p Q = PGoto P E Y rd fn y fr H p Q := by rw [h]
@[simp] theorem pgoto_some : PGoto P E Y rd fn (some k) fr H p Q ↔ PR P E Y rd fn k fr H p Q := Iff.rfl
theorem pr_goto {id : Nat} : PR P E Y rd fn (.code (.goto id) :: k) fr H p Q ↔ PGoto P E Y rd fn (gotoIn id k) fr H p Q := by
  constructor
  · rintro ⟨r, H', p', h, q⟩
    cases h with
    | goto hx h => rw [hx]; exact ⟨_, _, _, h, q⟩
  · intro h
    cases hx : gotoIn id k with
    | none => rw [hx] at h; exact h.elim
    | some k' => rw [hx] at h; obtain ⟨r, H', p', h, q⟩ := h; exact ⟨_, _, _, .goto hx h, q⟩
theorem pr_nil : PR P E Y 0 fn [] fr H p Q ↔ PRes (lresults P fn fr H) H p Q := by
  constructor
  · rintro ⟨r, H', p', h, q⟩
    cases h with
    | nil0 hx => rw [hx]; exact q
  · intro h
    cases hx : lresults P fn fr H with
    | none => rw [hx] at h; exact h.elim
    | some v => rw [hx] at h; exact ⟨_, _, _, .nil0 hx, h⟩
theorem pr_ret : PR P E Y 0 fn (.code .ret :: k) fr H p Q ↔ PRes (lresults P fn fr H) H p Q := by
  constructor
  · rintro ⟨r, H', p', h, q⟩
    cases h with
    | ret0 hx => rw [hx]; exact q
  · intro h
    cases hx : lresults P fn fr H with
    | none => rw [hx] at h; exact h.elim
    | some v => rw [hx] at h; exact ⟨_, _, _, .ret0 hx, h⟩
theorem pr_nil2 : PR P E none 2 fn [] fr H none Q ↔ Q (.jump none) H none := ⟨fun ⟨r, H', p', h, q⟩ => by cases h; exact q, fun h => ⟨_, _, _, .nil1, h⟩⟩
theorem pr_ret2 : PR P E none 2 fn (.code .ret :: k) fr H none Q ↔ Q (.jump (some .ret)) H none := ⟨fun ⟨r, H', p', h, q⟩ => by cases h; exact q, fun h => ⟨_, _, _, .ret1, h⟩⟩
theorem pr_cond {c : Operand} {x y : Code} : PR P E Y rd fn (.code (.cond c x y) :: k) fr H p Q ↔ PCond P E Y rd fn (ev fr c) x y k fr H p Q := by
  constructor
  · rintro ⟨r, H', p', h, q⟩
    cases h with
    | @cond _ _ _ _ _ _ _ _ _ _ _ _ _ t hc h =>
      rw [hc]
      unfold PCond
      cases t with
      | true => simp only [if_true]; exact ⟨_, _, _, h, q⟩
      | false => simp only [Bool.false_eq_true, if_false]; exact ⟨_, _, _, h, q⟩
  · intro h
    unfold PCond at h
    split at h
    · rename_i t hc
      cases t with
      | true => simp only [if_true] at h; obtain ⟨r, H', p', h, q⟩ := h; exact ⟨_, _, _, .cond hc h, q⟩
      | false => simp only [Bool.false_eq_true, if_false] at h; obtain ⟨r, H', p', h, q⟩ := h; exact ⟨_, _, _, .cond hc h, q⟩
    · exact h.elim
theorem pr_region {id : Nat} {l : List Oper} : PR P E Y rd fn (.code (.region id ⟨l⟩ false) :: k) fr H p Q ↔ PO P E Y rd fn ⟨l⟩ l k fr H p Q := ⟨fun ⟨r, H', p', h, q⟩ => by cases h; exact ⟨_, _, _, ‹_›, q⟩, fun ⟨r, H', p', h, q⟩ => ⟨_, _, _, .region h, q⟩⟩
theorem po_nil : PO P E Y rd fn all [] k fr H p Q ↔ PR P E Y rd fn k fr H p Q := ⟨fun ⟨r, H', p', h, q⟩ => by cases h; exact ⟨_, _, _, ‹_›, q⟩, fun ⟨r, H', p', h, q⟩ => ⟨_, _, _, .onil h, q⟩⟩
theorem hand_ps (h : handB E fr op = false) : psOf E fr op = false := by
  unfold handB at h
  unfold psOf
  split
  · rename_i c
    simp only at h ⊢
    split
    · rename_i x hx
      rw [hx] at h
      simp only at h ⊢
      split
      · rename_i g _ _ hg
        rw [hg] at h; exact h
      · rfl
    · rfl
  · rfl
theorem po_plain {o : Oper} (hh : handB E fr o.op = false) (hw : lwant all fr o = some true) : PO P E Y rd fn all (o :: os) k fr H p Q ↔ ∃ v H1 fr1, lopB P (LC P E.E) o fr H = some (v, H1) ∧ lput fn.ntmps fr o.dst v = some fr1 ∧ PO P E Y rd fn all os k fr1 H1 p Q := by
  constructor
  · rintro ⟨r, H', p', h, q⟩
    cases h with
    | oskip h1 _ _ => rw [hw] at h1; cases h1
    | oplain _ _ h1 h2 h3 => exact ⟨_, _, _, h1, h2, _, _, _, h3, q⟩
    | omkf _ h1 h2 _ _ => rw [h1] at hh; simp [handB, h2] at hh
    | oclear _ h1 _ _ _ => rw [h1] at hh; simp [handB, isClear] at hh
    | ocall _ h1 h2 h3 _ _ _ => rw [h1] at hh; simp [handB, h2, h3] at hh
    | ocallp _ h1 h2 h3 _ => rw [h1] at hh; simp [handB, h2, h3] at hh
    | oyield _ h1 h2 _ _ _ _ _ => rw [h1] at hh; simp [handB, h2, tok] at hh
  · rintro ⟨v, H1, fr1, h1, h2, r, H', p', h3, q⟩
    exact ⟨_, _, _, .oplain hw (hand_ps hh) h1 h2 h3, q⟩
theorem po_cons : PO P E Y rd fn all (⟨some d, op, ty, pos, after, none⟩ :: os) k fr H p Q ↔ RSel (handB E fr op) (PHand P E Y rd fn all (⟨some d, op, ty, pos, after, none⟩ :: os) k fr H p Q) (PStep P E Y rd fn (lopxB P (LC P E.E) op fr H) d all os k fr p Q) := by
  cases hh : handB E fr op with
  | true => exact Iff.rfl
  | false =>
    rw [po_plain hh rfl]
    unfold RSel PStep
    simp only [lopB_x, lput]
    cases lopxB P (LC P E.E) op fr H with
    | none => simp
    | some x =>
      obtain ⟨u, H1⟩ := x
      by_cases hd : d < fn.ntmps
      · simp [hd]
        exact ⟨fun ⟨_, _, ⟨e1, e2⟩, h⟩ => by subst e1 e2; exact h, fun h => ⟨_, _, ⟨rfl, rfl⟩, h⟩⟩
      · simp [hd]
theorem po_cons0 : PO P E Y rd fn all (⟨none, op, ty, pos, after, none⟩ :: os) k fr H p Q ↔ RSel (handB E fr op) (PHand P E Y rd fn all (⟨none, op, ty, pos, after, none⟩ :: os) k fr H p Q) (PStep0 P E Y rd fn (lopxB P (LC P E.E) op fr H) all os k fr p Q) := by
  cases hh : handB E fr op with
  | true => exact Iff.rfl
  | false =>
    rw [po_plain hh rfl]
    unfold RSel PStep0
    simp only [lopB_x, lput]
    cases lopxB P (LC P E.E) op fr H with
    | none => simp
    | some x =>
      obtain ⟨u, H1⟩ := x
      simp
      exact ⟨fun ⟨_, _, ⟨e1, e2⟩, h⟩ => by subst e1 e2; exact h, fun h => ⟨_, _, ⟨rfl, rfl⟩, h⟩⟩
theorem po_guard {j : Nat} {want : Bool} : PO P E Y rd fn all (⟨some d, op, ty, pos, after, some (j, want)⟩ :: os) k fr H p Q ↔ PG P E Y rd fn (guardx all fr j want) op d all ⟨some d, op, ty, pos, after, some (j, want)⟩ os k fr H p Q := by
  unfold PG
  cases hg : guardx all fr j want with
  | none =>
    simp only [iff_false]
    rintro ⟨r, H', p', h, q⟩
    have hw : lwant all fr ⟨some d, op, ty, pos, after, some (j, want)⟩ = none := by rw [lwant_x]; exact hg
    cases h with
    | oskip h1 _ _ => rw [hw] at h1; cases h1
    | oplain h1 _ _ _ _ => rw [hw] at h1; cases h1
    | omkf h1 _ _ _ _ => rw [hw] at h1; cases h1
    | oclear h1 _ _ _ _ => rw [hw] at h1; cases h1
    | ocall h1 _ _ _ _ _ _ => rw [hw] at h1; cases h1
    | ocallp h1 _ _ _ _ => rw [hw] at h1; cases h1
    | oyield h1 _ _ _ _ _ _ _ => rw [hw] at h1; cases h1
  | some b =>
    have hw : lwant all fr ⟨some d, op, ty, pos, after, some (j, want)⟩ = some b := by rw [lwant_x]; exact hg
    cases b with
    | true =>
      cases hh : handB E fr op with
      | true => exact Iff.rfl
      | false =>
        rw [po_plain hh hw]
        unfold RSel PStep
        simp only [lopB_x, lput]
        cases lopxB P (LC P E.E) op fr H with
        | none => simp
        | some x =>
          obtain ⟨u, H1⟩ := x
          by_cases hd : d < fn.ntmps
          · simp [hd]
            exact ⟨fun ⟨_, _, ⟨e1, e2⟩, h⟩ => by subst e1 e2; exact h, fun h => ⟨_, _, ⟨rfl, rfl⟩, h⟩⟩
          · simp [hd]
    | false =>
      simp only
      constructor
      · rintro ⟨r, H', p', h, q⟩
        cases h with
        | oskip h1 h2 h3 =>
          simp only [lput] at h2
          split at h2
          · rename_i hd; injection h2 with h2; subst h2; exact ⟨hd, _, _, _, h3, q⟩
          · cases h2
        | oplain h1 _ _ _ _ => rw [hw] at h1; cases h1
        | omkf h1 _ _ _ _ => rw [hw] at h1; cases h1
        | oclear h1 _ _ _ _ => rw [hw] at h1; cases h1
        | ocall h1 _ _ _ _ _ _ => rw [hw] at h1; cases h1
        | ocallp h1 _ _ _ _ => rw [hw] at h1; cases h1
        | oyield h1 _ _ _ _ _ _ _ => rw [hw] at h1; cases h1
      · rintro ⟨hd, r, H', p', h, q⟩
        exact ⟨_, _, _, .oskip hw (by simp only [lput]; rw [if_pos hd]) h, q⟩
attribute [simp ↓] pr_skip pr_label pr_seq pr_block pr_inBlock pr_inScope pr_scope pr_region pr_exit pr_goto pr_cond po_nil po_cons po_cons0 po_guard
attribute [simp] pr_nil pr_ret pr_nil2 pr_ret2
@[congr] theorem pstep_congr {x y : Option (Value × LH)} (h : x = y) : PStep P E Y rd fn x d all os k fr p Q = PStep P E Y rd fn y d all os k fr p Q := by rw [h]
@[congr] theorem pstep0_congr {x y : Option (Value × LH)} (h : x = y) : PStep0 P E Y rd fn x all os k fr p Q = PStep0 P E Y rd fn y all os k fr p Q := by rw [h]
@[congr] theorem pcond_congr {c c' : Value} {x y : Code} (h : c = c') : PCond P E Y rd fn c x y k fr H p Q = PCond P E Y rd fn c' x y k fr H p Q := by rw [h]
@[congr] theorem pres_congr {x y : Option Value} (h : x = y) : PRes x H p Q = PRes y H p Q := by rw [h]
@[congr] theorem pg_congr {x y : Option Bool} {o : Oper} (h : x = y) : PG P E Y rd fn x op d all o os k fr H p Q = PG P E Y rd fn y op d all o os k fr H p Q := by rw [h]
@[congr] theorem phand_congr : PHand P E Y rd fn all os k fr H p Q = PHand P E Y rd fn all os k fr H p Q := rfl
@[simp] theorem pstep_some : PStep P E Y rd fn (some (v, H)) d all os k fr p Q ↔ d < fn.ntmps ∧ PO P E Y rd fn all os k (upd fr d v) H p Q := Iff.rfl
@[simp] theorem pstep_none : PStep P E Y rd fn none d all os k fr p Q ↔ False := Iff.rfl
@[simp] theorem pstep0_some : PStep0 P E Y rd fn (some (v, H)) all os k fr p Q ↔ PO P E Y rd fn all os k fr H p Q := Iff.rfl
@[simp] theorem pstep0_none : PStep0 P E Y rd fn none all os k fr p Q ↔ False := Iff.rfl
@[simp] theorem pcond_true {x y : Code} : PCond P E Y rd fn (.bool true) x y k fr H p Q ↔ PR P E Y rd fn (.code x :: k) fr H p Q := by simp [PCond]
@[simp] theorem pcond_false {x y : Code} : PCond P E Y rd fn (.bool false) x y k fr H p Q ↔ PR P E Y rd fn (.code y :: k) fr H p Q := by simp [PCond]
@[simp] theorem pres_some : PRes (some v) H p Q ↔ Q (.ret v) H p := Iff.rfl
@[simp] theorem pres_none : PRes none H p Q ↔ False := Iff.rfl
@[simp] theorem pg_true {o : Oper} : PG P E Y rd fn (some true) op d all o os k fr H p Q ↔ RSel (handB E fr op) (PHand P E Y rd fn all (o :: os) k fr H p Q) (PStep P E Y rd fn (lopxB P (LC P E.E) op fr H) d all os k fr p Q) := Iff.rfl
@[simp] theorem pg_false {o : Oper} : PG P E Y rd fn (some false) op d all o os k fr H p Q ↔ d < fn.ntmps ∧ PO P E Y rd fn all os k (upd fr d undef) H p Q := Iff.rfl
@[simp ↓] theorem hand_move {x : Operand} : handB E fr (.move x) = false := rfl
@[simp ↓] theorem hand_assign {x : Operand} : handB E fr (.assign x) = false := rfl
@[simp ↓] theorem hand_pick {c x y : Operand} : handB E fr (.pick c x y) = false := rfl
@[simp ↓] theorem hand_alloc {t : TypeId} : handB E fr (.alloc t) = false := rfl
@[simp ↓] theorem hand_box {t : TypeId} {x : Operand} : handB E fr (.box t x) = false := rfl
@[simp ↓] theorem hand_load {t : TypeId} {x : Operand} : handB E fr (.load t x) = false := rfl
@[simp ↓] theorem hand_store {t : TypeId} {x y : Operand} : handB E fr (.store t x y) = false := rfl
@[simp ↓] theorem hand_nilCheck {x : Operand} : handB E fr (.nilCheck x) = false := rfl
@[simp ↓] theorem hand_fieldAddr {t : TypeId} {x : Operand} {f : Nat} : handB E fr (.fieldAddr t x f) = false := rfl
@[simp ↓] theorem hand_indexAddr {t : TypeId} {x i : Operand} : handB E fr (.indexAddr t x i) = false := rfl
@[simp ↓] theorem hand_slice {t : TypeId} {x : Operand} {lo hi mx : Option Operand} : handB E fr (.slice t x lo hi mx) = false := rfl
@[simp ↓] theorem hand_field {t : TypeId} {x : Operand} {f : Nat} : handB E fr (.field t x f) = false := rfl
@[simp ↓] theorem hand_extract {x : Operand} {f : Nat} : handB E fr (.extract x f) = false := rfl
@[simp ↓] theorem hand_build {t : TypeId} {ps : Array (Nat × Operand)} : handB E fr (.build t ps) = false := rfl
@[simp ↓] theorem hand_buildSlice {t : TypeId} {n : Nat} {ps : Array (Nat × Operand)} : handB E fr (.buildSlice t n ps) = false := rfl
@[simp ↓] theorem hand_makeSlice {t : TypeId} {x y : Operand} : handB E fr (.makeSlice t x y) = false := rfl
@[simp ↓] theorem hand_makeFunc0 {f : Fn} {c : Array Operand} : handB E fr (.makeFunc f #[] c) = false := rfl
@[simp ↓] theorem hand_makeFunc1 {f : Fn} {x : Operand} {l : List Operand} {c : Array Operand} : handB E fr (.makeFunc f ⟨x :: l⟩ c) = true := rfl
@[simp ↓] theorem hand_bin {op : BinOp} {t yt : TypeId} {x y : Operand} : handB E fr (.binOp op t x y yt) = false := rfl
@[simp ↓] theorem hand_un {op : UnOp} {t : TypeId} {x : Operand} : handB E fr (.unOp op t x) = false := rfl
@[simp ↓] theorem hand_conv {s t : TypeId} {x : Operand} : handB E fr (.convert s t x) = false := rfl
@[simp ↓] theorem hand_index {t : TypeId} {x i : Operand} : handB E fr (.index t x i) = false := rfl
@[simp ↓] theorem hand_builtin {b : Builtin} {args : Array Operand} {ts : Array TypeId} : handB E fr (.call ⟨.builtin b, args, ts⟩) = isClear b := rfl
@[simp] theorem clear_len : isClear .len = false := rfl
@[simp] theorem clear_append : isClear .append = false := rfl
@[simp] theorem clear_min : isClear .min = false := rfl
@[simp] theorem clear_max : isClear .max = false := rfl
@[simp] theorem clear_clear : isClear .clear = true := rfl
def handV (E : PEnv) (v : Value) : Bool := match v with
  | .func (.func g) _ _ => E.ps g
  | .func (.yield _) _ _ => true
  | _ => false
@[simp ↓] theorem hand_call {x : Operand} {args : Array Operand} {ts : Array TypeId} : handB E fr (.call ⟨.value x, args, ts⟩) = handV E (ev fr x) := rfl
@[simp] theorem handV_func {g : FuncId} {a b : Array Value} : handV E (.func (.func g) a b) = E.ps g := rfl
@[simp] theorem handV_tok {l : Nat} : handV E (tok l) = true := rfl
@[simp] theorem handV_yield {l : Nat} {a b : Array Value} : handV E (.func (.yield l) a b) = true := rfl
theorem pcall {f : FuncId} {fn : Func} {c : Code} {args : List Value} (hf : P.funcs[f]? = some fn) (hb : fn.body = some c) (hN : args.length ≤ fn.ntmps) (hname : fn.name ≠ "runtime.NumGoroutine") (hcd : codeOkR E.pl fn.ntmps c = true) {Q : Res → LH → Prop}
    (h : PR P E none 0 fn [.code c] (enter args) H none (fun r H' p' => p' = none ∧ Q r H')) : ∃ r H', R P E (.call f args H r H') ∧ Q r H' := by
  obtain ⟨r, H', p', h1, rfl, h2⟩ := h
  exact ⟨r, H', .body ⟨hf, hb, hN, hname, hcd⟩ h1, h2⟩
theorem pcall_flat {f : FuncId} {fn : Func} {c : Code} {args : List Value} {r : Res} (hf : P.funcs[f]? = some fn) (hb : fn.body = some c) (hN : args.length ≤ fn.ntmps) (hname : fn.name ≠ "runtime.NumGoroutine") (hcd : codeOkR E.pl fn.ntmps c = true) (hr : flatR r = true)
    (h : PR P E none 0 fn [.code c] (enter args) H none (fun r1 H1 p' => p' = none ∧ r1 = r ∧ H.le H1)) : R P E (.call f args H r H) := by
  obtain ⟨r, H', h1, rfl, h2⟩ := pcall hf hb hN hname hcd (Q := fun r1 H1 => r1 = r ∧ H.le H1) h
  exact .trunc h1 hr h2
end
end Go.Lg

set_option linter.unusedSimpArgs false
set_option linter.unusedVariables false
namespace Go.Lg
open Go.Tg Go.RowKit

abbrev KF := Fr → LH → Prop
def LX (P : Program) (T : Callee) (N : Nat) (all : Array Oper) (os : List Oper) (fr : Fr) (H : LH) (K : KF) : Prop := ∃ fr' H', lops P T N all os fr H = some (fr', H') ∧ K fr' H'
def LX0 (P : Program) (T : Callee) (N : Nat) (all : Array Oper) (os : List Oper) (fr : Fr) (H : LH) (K : KF) : Prop := ∃ fr' H', lops0 P T N all os fr H = some (fr', H') ∧ K fr' H'
def MX (P : Program) (L : Loud) (T : Callee) (N : Nat) (all : Array Oper) (H0 : LH) (os : List Oper) (fr : Fr) (H : LH) (K : KF) : Prop := ∃ fr' H', lmix P L T N all H0 os fr H = some (fr', H') ∧ K fr' H'
def CX (P : Program) (T : Callee) (N : Nat) (all : Array Oper) (prs : List (Nat × Nat)) (j : Nat) (old : Nat → Fr × LH) (os : List Oper) (fr : Fr) (H : LH) (K : KF) : Prop := ∃ fr' H', lchain P T N all prs j old os fr H = some (fr', H') ∧ K fr' H'
def DX (P : Program) (L : Loud) (T : Callee) (N : Nat) (x : Option (List (Nat × Nat))) (l : List Oper) (fr : Fr) (H : LH) (K : KF) : Prop :=
  match x with
  | none => MX P L T N ⟨l⟩ H l fr H K
  | some prs => CX P T N ⟨l⟩ prs 0 (fun _ => (fr, H)) l fr H K
def XS (x : Option (Value × LH)) (d N : Nat) (fr : Fr) (F : KF) : Prop := match x with | some (v, H) => d < N ∧ F (upd fr d v) H | none => False
def XS0 (x : Option (Value × LH)) (fr : Fr) (F : KF) : Prop := match x with | some (_, H) => F fr H | none => False
def XG (g : Option Bool) (x : Option (Value × LH)) (d N : Nat) (fr : Fr) (H : LH) (F : KF) : Prop := match g with | some true => XS x d N fr F | some false => d < N ∧ F (upd fr d undef) H | none => False
def XC (P : Program) (x : Option (Value × LH)) (d N : Nat) (op : Op) (all : Array Oper) (prs : List (Nat × Nat)) (j : Nat) (old : Nat → Fr × LH) (fr : Fr) (F : KF) : Prop := match x with
  | some (v, H') => d < N ∧ ckR P j op fr old v prs ∧ ckH P j all old (upd fr d v) H' prs ∧ F (upd fr d v) H'
  | none => False
def XC0 (P : Program) (x : Option (Value × LH)) (op : Op) (all : Array Oper) (prs : List (Nat × Nat)) (j : Nat) (old : Nat → Fr × LH) (fr : Fr) (F : KF) : Prop := match x with
  | some (v, H') => ckR P j op fr old v prs ∧ ckH P j all old fr H' prs ∧ F fr H'
  | none => False
def XCG (P : Program) (g : Option Bool) (x : Option (Value × LH)) (d N : Nat) (op : Op) (all : Array Oper) (prs : List (Nat × Nat)) (j : Nat) (old : Nat → Fr × LH) (fr : Fr) (H : LH) (F : KF) : Prop := match g with
  | some true => XC P x d N op all prs j old fr F
  | some false => d < N ∧ ckH P j all old (upd fr d undef) H prs ∧ F (upd fr d undef) H
  | none => False
section
variable {P : Program} {E : PEnv} {Y : Option YC} {rd : Nat} {fn : Func} {k : List Item} {fr : Fr} {H H' H0 : LH} {p : Option Code} {Q : PQ} {all : Array Oper} {os : List Oper} {d N : Nat} {op : Op} {ty : TypeId} {pos : String} {after : Array Edge} {v : Value} {T : Callee} {L : Loud} {K F : KF} {prs : List (Nat × Nat)} {j : Nat} {old : Nat → Fr × LH}
theorem pr_draw {id : Nat} {l : List Oper} : PR P E Y rd fn (.code (.region id ⟨l⟩ true) :: k) fr H p Q ↔ DX P E.pl (LC P E.E) fn.ntmps (E.pl.ch fn.ntmps id l.length) l fr H (fun fr' H' => PR P E Y rd fn k fr' H' p Q) := by
  have key : (∃ fr1 H1, ldraw P E.pl (LC P E.E) fn.ntmps id ⟨l⟩ fr H = some (fr1, H1) ∧ PR P E Y rd fn k fr1 H1 p Q) ↔ DX P E.pl (LC P E.E) fn.ntmps (E.pl.ch fn.ntmps id l.length) l fr H (fun fr' H' => PR P E Y rd fn k fr' H' p Q) := by
    unfold DX ldraw
    rw [show (⟨l⟩ : Array Oper).size = l.length from rfl]
    cases E.pl.ch fn.ntmps id l.length <;> exact Iff.rfl
  rw [← key]
  constructor
  · rintro ⟨r, H', p', h, q⟩
    cases h with
    | draw h1 h2 => exact ⟨_, _, h1, _, _, _, h2, q⟩
  · rintro ⟨fr1, H1, h1, r, H', p', h2, q⟩
    exact ⟨_, _, _, .draw h1 h2, q⟩
theorem ex_one {a b : Type} {x : a} {y : b} {K : a → b → Prop} : (∃ fr' H', (some (x, y) : Option (a × b)) = some (fr', H') ∧ K fr' H') ↔ K x y := by
  constructor
  · rintro ⟨_, _, e, h⟩
    injection e with e; injection e with e1 e2; subst e1 e2; exact h
  · exact fun h => ⟨_, _, rfl, h⟩
theorem ex_non {a b : Type} {K : a → b → Prop} : (∃ fr' H', (none : Option (a × b)) = some (fr', H') ∧ K fr' H') ↔ False := by
  constructor
  · rintro ⟨_, _, e, h⟩; cases e
  · exact False.elim
theorem lx_nil : LX P T N all [] fr H K ↔ K fr H := by unfold LX; simp only [lops]; exact ex_one
theorem lx_cons : LX P T N all (⟨some d, op, ty, pos, after, none⟩ :: os) fr H K ↔ XS (lopxB P T op fr H) d N fr (fun fr' H' => LX P T N all os fr' H' K) := by
  unfold LX XS; simp only [lops, lwant, lopB_x]
  cases lopxB P T op fr H with
  | none => exact ex_non
  | some x =>
    obtain ⟨v, H1⟩ := x
    simp only [lput]
    by_cases hd : d < N
    · simp only [hd, if_true, true_and]
    · simp only [hd, if_false, false_and]; exact ex_non
theorem lx_cons0 : LX P T N all (⟨none, op, ty, pos, after, none⟩ :: os) fr H K ↔ XS0 (lopxB P T op fr H) fr (fun fr' H' => LX P T N all os fr' H' K) := by
  unfold LX XS0; simp only [lops, lwant, lopB_x]
  cases lopxB P T op fr H with
  | none => exact ex_non
  | some x => obtain ⟨v, H1⟩ := x; simp only [lput]
theorem lx_guard {i : Nat} {want : Bool} : LX P T N all (⟨some d, op, ty, pos, after, some (i, want)⟩ :: os) fr H K ↔ XG (guardx all fr i want) (lopxB P T op fr H) d N fr H (fun fr' H' => LX P T N all os fr' H' K) := by
  unfold LX XG; simp only [lops, lwant_x, lopB_x]
  cases guardx all fr i want with
  | none => exact ex_non
  | some b =>
    cases b with
    | true =>
      unfold XS
      simp only
      cases lopxB P T op fr H with
      | none => exact ex_non
      | some x =>
        obtain ⟨v, H1⟩ := x
        simp only [lput]
        by_cases hd : d < N
        · simp only [hd, if_true, true_and]
        · simp only [hd, if_false, false_and]; exact ex_non
    | false =>
      simp only [lput]
      by_cases hd : d < N
      · simp only [hd, if_true, true_and]
      · simp only [hd, if_false, false_and]; exact ex_non
theorem lx0_nil : LX0 P T N all [] fr H K ↔ K fr H := by unfold LX0; simp only [lops0]; exact ex_one
theorem lx0_cons : LX0 P T N all (⟨some d, op, ty, pos, after, none⟩ :: os) fr H K ↔ XS (lopx P T op fr H) d N fr (fun fr' H' => LX0 P T N all os fr' H' K) := by
  unfold LX0 XS; simp only [lops0, lwant, lop_x]
  cases lopx P T op fr H with
  | none => exact ex_non
  | some x =>
    obtain ⟨v, H1⟩ := x
    simp only [lput]
    by_cases hd : d < N
    · simp only [hd, if_true, true_and]
    · simp only [hd, if_false, false_and]; exact ex_non
theorem lx0_cons0 : LX0 P T N all (⟨none, op, ty, pos, after, none⟩ :: os) fr H K ↔ XS0 (lopx P T op fr H) fr (fun fr' H' => LX0 P T N all os fr' H' K) := by
  unfold LX0 XS0; simp only [lops0, lwant, lop_x]
  cases lopx P T op fr H with
  | none => exact ex_non
  | some x => obtain ⟨v, H1⟩ := x; simp only [lput]
theorem lx0_guard {i : Nat} {want : Bool} : LX0 P T N all (⟨some d, op, ty, pos, after, some (i, want)⟩ :: os) fr H K ↔ XG (guardx all fr i want) (lopx P T op fr H) d N fr H (fun fr' H' => LX0 P T N all os fr' H' K) := by
  unfold LX0 XG; simp only [lops0, lwant_x, lop_x]
  cases guardx all fr i want with
  | none => exact ex_non
  | some b =>
    cases b with
    | true =>
      unfold XS
      simp only
      cases lopx P T op fr H with
      | none => exact ex_non
      | some x =>
        obtain ⟨v, H1⟩ := x
        simp only [lput]
        by_cases hd : d < N
        · simp only [hd, if_true, true_and]
        · simp only [hd, if_false, false_and]; exact ex_non
    | false =>
      simp only [lput]
      by_cases hd : d < N
      · simp only [hd, if_true, true_and]
      · simp only [hd, if_false, false_and]; exact ex_non
theorem mx_nil : MX P L T N all H0 [] fr H K ↔ K fr H := by unfold MX; simp only [lmix]; exact ex_one
theorem mx_cons : MX P L T N all H0 (⟨some d, op, ty, pos, after, none⟩ :: os) fr H K ↔ RSel (loudOp L op) (LX P T N all (⟨some d, op, ty, pos, after, none⟩ :: os) fr H K) (XS (lmixx P T op fr H0 H) d N fr (fun fr' H' => MX P L T N all H0 os fr' H' K)) := by
  unfold MX RSel
  cases hl : loudOp L op with
  | true => unfold LX; simp only [lmix, hl, if_true]
  | false =>
    unfold XS; simp only [lmix, hl, Bool.false_eq_true, if_false, lwant, lmixop_x]
    by_cases hd : d < N
    · simp only [if_pos hd]
      cases lmixx P T op fr H0 H with
      | none => exact ex_non
      | some x => obtain ⟨v, H1⟩ := x; simp only [hd, true_and]
    · simp only [if_neg hd]
      cases lmixx P T op fr H0 H with
      | none => exact ex_non
      | some x => obtain ⟨v, H1⟩ := x; simp only [hd, false_and]; exact ex_non
theorem mx_cons0 : MX P L T N all H0 (⟨none, op, ty, pos, after, none⟩ :: os) fr H K ↔ RSel (loudOp L op) (LX P T N all (⟨none, op, ty, pos, after, none⟩ :: os) fr H K) False := by
  unfold MX RSel
  cases hl : loudOp L op with
  | true => unfold LX; simp only [lmix, hl, if_true]
  | false => simp [lmix, hl]
theorem mx_guard {i : Nat} {want : Bool} : MX P L T N all H0 (⟨some d, op, ty, pos, after, some (i, want)⟩ :: os) fr H K ↔ RSel (loudOp L op) (LX P T N all (⟨some d, op, ty, pos, after, some (i, want)⟩ :: os) fr H K) (XG (guardx all fr i want) (lmixx P T op fr H0 H) d N fr H (fun fr' H' => MX P L T N all H0 os fr' H' K)) := by
  unfold MX RSel
  cases hl : loudOp L op with
  | true => unfold LX; simp only [lmix, hl, if_true]
  | false =>
    unfold XG; simp only [lmix, hl, Bool.false_eq_true, if_false, lwant_x, lmixop_x]
    by_cases hd : d < N
    · simp only [if_pos hd]
      cases guardx all fr i want with
      | none => exact ex_non
      | some b =>
        cases b with
        | true =>
          unfold XS
          simp only
          cases lmixx P T op fr H0 H with
          | none => exact ex_non
          | some x => obtain ⟨v, H1⟩ := x; simp only [hd, true_and]
        | false => simp only [hd, true_and]
    · simp only [if_neg hd]
      cases guardx all fr i want with
      | none => exact ex_non
      | some b =>
        cases b with
        | true =>
          unfold XS
          simp only
          cases lmixx P T op fr H0 H with
          | none => exact ex_non
          | some x => obtain ⟨v, H1⟩ := x; simp only [hd, false_and]; exact ex_non
        | false => simp only [hd, false_and]; exact ex_non
theorem cx_none : CX P T N all [] j old os fr H K ↔ LX0 P T N all os fr H K := by unfold CX LX0; rw [lchain_nil (j := j) (old := old)]
theorem cx_nil : CX P T N all prs j old [] fr H K ↔ K fr H := by unfold CX; simp only [lchain]; exact ex_one
theorem cx_cons : CX P T N all prs j old (⟨some d, op, ty, pos, after, none⟩ :: os) fr H K ↔ XC P (lopx P T op fr H) d N op all prs j old fr (fun fr' H' => CX P T N all prs (j + 1) (oldS old j (fr, H)) os fr' H' K) := by
  unfold CX XC; simp only [lchain, lwant_no]
  rw [show lopx P T op fr H = lop P T ⟨some d, op, ty, pos, after, none⟩ fr H from rfl]
  cases lop P T ⟨some d, op, ty, pos, after, none⟩ fr H with
  | none => exact ex_non
  | some x =>
    obtain ⟨v, H1⟩ := x
    simp only [lput]
    by_cases hd : d < N
    · simp only [hd, if_true, true_and]
      have e1 := ckR_iff (P := P) (op := op) (fr := fr) (old := old) (j := j) (v := v) (ty := ty) (pos := pos) (after := after) (some d) none (prs := prs)
      by_cases hc : ckR P j op fr old v prs ∧ ckH P j all old (upd fr d v) H1 prs
      · rw [if_pos (And.intro (e1.1 hc.1) (ckH_iff.1 hc.2))]
        simp only [hc, true_and]
        exact Iff.rfl
      · rw [if_neg (fun h => hc (And.intro (e1.2 (And.left h)) (ckH_iff.2 (And.right h))))]
        exact ⟨fun h => (ex_non.1 h).elim, fun ⟨h1, h2, _⟩ => absurd ⟨h1, h2⟩ hc⟩
    · simp only [hd, if_false, false_and]; exact ex_non
theorem cx_cons0 : CX P T N all prs j old (⟨none, op, ty, pos, after, none⟩ :: os) fr H K ↔ XC0 P (lopx P T op fr H) op all prs j old fr (fun fr' H' => CX P T N all prs (j + 1) (oldS old j (fr, H)) os fr' H' K) := by
  unfold CX XC0; simp only [lchain, lwant_no]
  rw [show lopx P T op fr H = lop P T ⟨none, op, ty, pos, after, none⟩ fr H from rfl]
  cases lop P T ⟨none, op, ty, pos, after, none⟩ fr H with
  | none => exact ex_non
  | some x =>
    obtain ⟨v, H1⟩ := x
    simp only [lput]
    have e1 := ckR_iff (P := P) (op := op) (fr := fr) (old := old) (j := j) (v := v) (ty := ty) (pos := pos) (after := after) none none (prs := prs)
    by_cases hc : ckR P j op fr old v prs ∧ ckH P j all old fr H1 prs
    · rw [if_pos (And.intro (e1.1 hc.1) (ckH_iff.1 hc.2))]
      simp only [hc, true_and]
      exact Iff.rfl
    · rw [if_neg (fun h => hc (And.intro (e1.2 (And.left h)) (ckH_iff.2 (And.right h))))]
      exact ⟨fun h => (ex_non.1 h).elim, fun ⟨h1, h2, _⟩ => absurd ⟨h1, h2⟩ hc⟩
theorem cx_guard {g : Nat} {want : Bool} : CX P T N all prs j old (⟨some d, op, ty, pos, after, some (g, want)⟩ :: os) fr H K ↔ XCG P (guardx all fr g want) (lopx P T op fr H) d N op all prs j old fr H (fun fr' H' => CX P T N all prs (j + 1) (oldS old j (fr, H)) os fr' H' K) := by
  unfold CX XCG; simp only [lchain, lwant_x]
  cases guardx all fr g want with
  | none => exact ex_non
  | some b =>
    cases b with
    | true =>
      simp only [XC]
      rw [show lopx P T op fr H = lop P T ⟨some d, op, ty, pos, after, some (g, want)⟩ fr H from rfl]
      cases lop P T ⟨some d, op, ty, pos, after, some (g, want)⟩ fr H with
      | none => exact ex_non
      | some x =>
        obtain ⟨v, H1⟩ := x
        simp only [lput]
        by_cases hd : d < N
        · simp only [hd, if_true, true_and]
          have e1 := ckR_iff (P := P) (op := op) (fr := fr) (old := old) (j := j) (v := v) (ty := ty) (pos := pos) (after := after) (some d) (some (g, want)) (prs := prs)
          by_cases hc : ckR P j op fr old v prs ∧ ckH P j all old (upd fr d v) H1 prs
          · rw [if_pos (And.intro (e1.1 hc.1) (ckH_iff.1 hc.2))]
            simp only [hc, true_and]
            exact Iff.rfl
          · rw [if_neg (fun h => hc (And.intro (e1.2 (And.left h)) (ckH_iff.2 (And.right h))))]
            exact ⟨fun h => (ex_non.1 h).elim, fun ⟨h1, h2, _⟩ => absurd ⟨h1, h2⟩ hc⟩
        · simp only [hd, if_false, false_and]; exact ex_non
    | false =>
      simp only [lput]
      by_cases hd : d < N
      · simp only [hd, if_true, true_and]
        by_cases hc : ckH P j all old (upd fr d undef) H prs
        · rw [if_pos (ckH_iff.1 hc)]
          simp only [hc, true_and]
          exact Iff.rfl
        · rw [if_neg (fun h => hc (ckH_iff.2 h))]
          exact ⟨fun h => (ex_non.1 h).elim, fun ⟨h1, _⟩ => absurd h1 hc⟩
      · simp only [hd, if_false, false_and]; exact ex_non
theorem dx_none {l : List Oper} : DX P L T N none l fr H K ↔ MX P L T N ⟨l⟩ H l fr H K := Iff.rfl
theorem dx_some {l : List Oper} : DX P L T N (some prs) l fr H K ↔ CX P T N ⟨l⟩ prs 0 (fun _ => (fr, H)) l fr H K := Iff.rfl
attribute [simp ↓] pr_draw dx_none dx_some lx_nil lx_cons lx_cons0 lx_guard lx0_nil lx0_cons lx0_cons0 lx0_guard mx_nil mx_cons mx_cons0 mx_guard cx_none cx_nil cx_cons cx_cons0 cx_guard
@[congr] theorem dx_congr {x y : Option (List (Nat × Nat))} {l : List Oper} (h : x = y) : DX P L T N x l fr H K = DX P L T N y l fr H K := by rw [h]
@[congr] theorem xs_congr {x y : Option (Value × LH)} (h : x = y) : XS x d N fr F = XS y d N fr F := by rw [h]
@[congr] theorem xs0_congr {x y : Option (Value × LH)} (h : x = y) : XS0 x fr F = XS0 y fr F := by rw [h]
@[congr] theorem xg_congr {g g' : Option Bool} {x : Option (Value × LH)} (h : g = g') : XG g x d N fr H F = XG g' x d N fr H F := by rw [h]
@[congr] theorem xc_congr {x y : Option (Value × LH)} (h : x = y) : XC P x d N op all prs j old fr F = XC P y d N op all prs j old fr F := by rw [h]
@[congr] theorem xc0_congr {x y : Option (Value × LH)} (h : x = y) : XC0 P x op all prs j old fr F = XC0 P y op all prs j old fr F := by rw [h]
@[congr] theorem xcg_congr {g g' : Option Bool} {x : Option (Value × LH)} (h : g = g') : XCG P g x d N op all prs j old fr H F = XCG P g' x d N op all prs j old fr H F := by rw [h]
@[simp] theorem xs_some : XS (some (v, H)) d N fr F ↔ d < N ∧ F (upd fr d v) H := Iff.rfl
@[simp] theorem xs_none : XS none d N fr F ↔ False := Iff.rfl
@[simp] theorem xs0_some : XS0 (some (v, H)) fr F ↔ F fr H := Iff.rfl
@[simp] theorem xs0_none : XS0 none fr F ↔ False := Iff.rfl
@[simp] theorem xg_true {x : Option (Value × LH)} : XG (some true) x d N fr H F ↔ XS x d N fr F := Iff.rfl
@[simp] theorem xg_false {x : Option (Value × LH)} : XG (some false) x d N fr H F ↔ d < N ∧ F (upd fr d undef) H := Iff.rfl
@[simp] theorem xc_some : XC P (some (v, H)) d N op all prs j old fr F ↔ d < N ∧ ckR P j op fr old v prs ∧ ckH P j all old (upd fr d v) H prs ∧ F (upd fr d v) H := Iff.rfl
@[simp] theorem xc_none : XC P none d N op all prs j old fr F ↔ False := Iff.rfl
@[simp] theorem xc0_some : XC0 P (some (v, H)) op all prs j old fr F ↔ ckR P j op fr old v prs ∧ ckH P j all old fr H prs ∧ F fr H := Iff.rfl
@[simp] theorem xc0_none : XC0 P none op all prs j old fr F ↔ False := Iff.rfl
@[simp] theorem xcg_true {x : Option (Value × LH)} : XCG P (some true) x d N op all prs j old fr H F ↔ XC P x d N op all prs j old fr F := Iff.rfl
@[simp] theorem xcg_false {x : Option (Value × LH)} : XCG P (some false) x d N op all prs j old fr H F ↔ d < N ∧ ckH P j all old (upd fr d undef) H prs ∧ F (upd fr d undef) H := Iff.rfl
end
end Go.Lg

set_option linter.unusedSimpArgs false
set_option linter.unusedVariables false
namespace Go.Lg
open Go.Tg Go.RowKit
def seqDrop : Nat → Code → Code
  | 0, c => c
  | n + 1, .seq _ b => seqDrop n b
  | _ + 1, c => c
def seqPre : Nat → Code → Code → Code
  | 0, _, K => K
  | n + 1, .seq a b, K => .seq a (seqPre n b K)
  | _ + 1, c, _ => c
@[simp ↓] theorem seqDrop_zero {c : Code} : seqDrop 0 c = c := by cases c <;> rfl
@[simp ↓] theorem seqDrop_succ {n : Nat} {a b : Code} : seqDrop (n + 1) (.seq a b) = seqDrop n b := rfl
@[simp ↓] theorem seqPre_zero {c K : Code} : seqPre 0 c K = K := by cases c <;> rfl
@[simp ↓] theorem seqPre_succ {n : Nat} {a b K : Code} : seqPre (n + 1) (.seq a b) K = .seq a (seqPre n b K) := rfl
@[simp] theorem splice_all {cs vs : List Value} (h : cs.length = vs.length) : splice cs 0 vs = vs := by
  unfold splice; simp [h]
section
variable {n m : Nat}
end
theorem lbin_fn_ne {P : Program} {t : TypeId} {g : FuncId} {f cp : Array Value} {a b c : _} (hu : P.underlying t = some (.func a b c)) : lbin P .neq t (.func (.func g) f cp) .nilFunc = some (.bool true) := by
  simp [lbin, hu]
theorem lbin_fn_eq {P : Program} {t : TypeId} {g : FuncId} {f cp : Array Value} {a b c : _} (hu : P.underlying t = some (.func a b c)) : lbin P .eql t (.func (.func g) f cp) .nilFunc = some (.bool false) := by
  simp [lbin, hu]
attribute [simp] lbin_fn_eq
attribute [simp] lbin_fn_ne
@[simp ↓] theorem ev_nilIface {fr : Fr} : ev fr (.const .nilIface) = .nilIface := rfl
@[simp ↓] theorem ev_nilFunc {fr : Fr} : ev fr (.const .nilFunc) = .nilFunc := rfl
@[simp] theorem flat_nilIface : flatB .nilIface = true := by simp only [flatB, flat1B, atomB]
@[simp] theorem cell_nilIface : cellB .nilIface = true := by simp only [cellB]
@[simp] theorem cell_nilFunc : cellB .nilFunc = true := by simp only [cellB]
@[simp] theorem atom_str {l : List UInt8} : atomB (str l) = true := by simp only [atomB, str]
@[simp] theorem atom_int {k : IntKind} {n : Int} : atomB (.int k n) = true := by simp only [atomB]
@[simp] theorem atom_bool {b : Bool} : atomB (.bool b) = true := by simp only [atomB]
@[simp] theorem atom_nil : atomB (.pointer none) = true := by simp only [atomB]
@[simp] theorem atom_nilslice : atomB (.slice none 0 0) = true := by simp [atomB]
@[simp] theorem lbE_nil {P : Program} {t : TypeId} {z : List Value} (hp : plcB P t = true) (hz : z.all atomB = true) : lbE P t (some (.agg ⟨z⟩)) [] = some (.agg ⟨z⟩) := by
  rw [lbE_agg (by simp only [knownL]) hz, lfill_nil hp]; rfl
section
variable {H H' : LH} {b : LB} {l : Nat}
@[simp] theorem le_new_iff (h : H.n ≤ H'.n) : H.le (H'.new b) ↔ H.le H' := by
  constructor
  · intro hl; exact ⟨h, fun k hk => by rw [← hl.2 k hk, get_new_ne (by omega)]⟩
  · intro hl; exact hl.new
@[simp] theorem le_set_iff (h : H.n ≤ l) : H.le (H'.set l b) ↔ H.le H' := by
  constructor
  · intro hl; exact ⟨hl.1, fun k hk => by rw [← hl.2 k hk, get_set_ne (by omega)]⟩
  · intro hl; exact hl.set h
@[simp] theorem le_kill_iff (h : H.n ≤ l) : H.le (H'.kill l) ↔ H.le H' := by
  constructor
  · intro hl; exact ⟨hl.1, fun k hk => by rw [← hl.2 k hk, get_kill_ne (by omega)]⟩
  · intro hl; exact hl.kill h
end
section
variable {P : Program} {E : Ext} {fn : Func} {k : List Item} {fr : Fr} {H : LH} {Q : Value × LH → Prop} {c : Code}
theorem runs_cut (n : Nat) (Inv : Fr → LH → Prop) (h1 : ∀ fr H, Inv fr H → Runs P E fn (.code (seqDrop n c) :: k) fr H Q)
    (h2 : ∀ K, (∀ fr H, Inv fr H → Runs P E fn (.code K :: k) fr H Q) → Runs P E fn (.code (seqPre n c K) :: k) fr H Q) (hc : seqPre n c (seqDrop n c) = c) : Runs P E fn (.code c :: k) fr H Q := by
  have := h2 (seqDrop n c) h1
  rw [hc] at this
  exact this
inductive Dir where
  | d (n : Nat)
  | l
  | t
  | e
  | b
def cAt : List Dir → Code → Code
  | [], c => c
  | .d n :: p, c => cAt p (seqDrop n c)
  | .l :: p, .seq a _ => cAt p a
  | .t :: p, .cond _ a _ => cAt p a
  | .e :: p, .cond _ _ a => cAt p a
  | .b :: p, .block _ a => cAt p a
  | _ :: _, c => c
def cPut : List Dir → Code → Code → Code
  | [], _, K => K
  | .d n :: p, c, K => seqPre n c (cPut p (seqDrop n c) K)
  | .l :: p, .seq a b, K => .seq (cPut p a K) b
  | .t :: p, .cond x a b, K => .cond x (cPut p a K) b
  | .e :: p, .cond x a b, K => .cond x a (cPut p b K)
  | .b :: p, .block i a, K => .block i (cPut p a K)
  | _ :: _, c, _ => c
def cK : List Dir → Code → List Item → List Item
  | [], _, k => k
  | .d n :: p, c, k => cK p (seqDrop n c) k
  | .l :: p, .seq a b, k => cK p a (.code b :: k)
  | .t :: p, .cond _ a _, k => cK p a k
  | .e :: p, .cond _ _ a, k => cK p a k
  | .b :: p, .block i a, k => cK p a (.inBlock i :: k)
  | _ :: _, _, k => k
section
variable {p : List Dir} {n i : Nat} {a b K : Code} {x : Operand}
@[simp ↓] theorem cAt_nil : cAt [] c = c := by cases c <;> rfl
@[simp ↓] theorem cAt_d : cAt (.d n :: p) c = cAt p (seqDrop n c) := by cases c <;> rfl
@[simp ↓] theorem cAt_l : cAt (.l :: p) (.seq a b) = cAt p a := rfl
@[simp ↓] theorem cAt_t : cAt (.t :: p) (.cond x a b) = cAt p a := rfl
@[simp ↓] theorem cAt_e : cAt (.e :: p) (.cond x a b) = cAt p b := rfl
@[simp ↓] theorem cAt_b : cAt (.b :: p) (.block i a) = cAt p a := rfl
@[simp ↓] theorem cPut_nil : cPut [] c K = K := by cases c <;> rfl
@[simp ↓] theorem cPut_d : cPut (.d n :: p) c K = seqPre n c (cPut p (seqDrop n c) K) := by cases c <;> rfl
@[simp ↓] theorem cPut_l : cPut (.l :: p) (.seq a b) K = .seq (cPut p a K) b := rfl
@[simp ↓] theorem cPut_t : cPut (.t :: p) (.cond x a b) K = .cond x (cPut p a K) b := rfl
@[simp ↓] theorem cPut_e : cPut (.e :: p) (.cond x a b) K = .cond x a (cPut p b K) := rfl
@[simp ↓] theorem cPut_b : cPut (.b :: p) (.block i a) K = .block i (cPut p a K) := rfl
@[simp ↓] theorem cK_nil : cK [] c k = k := by cases c <;> rfl
@[simp ↓] theorem cK_d : cK (.d n :: p) c k = cK p (seqDrop n c) k := by cases c <;> rfl
@[simp ↓] theorem cK_l : cK (.l :: p) (.seq a b) k = cK p a (.code b :: k) := rfl
@[simp ↓] theorem cK_t : cK (.t :: p) (.cond x a b) k = cK p a k := rfl
@[simp ↓] theorem cK_e : cK (.e :: p) (.cond x a b) k = cK p b k := rfl
@[simp ↓] theorem cK_b : cK (.b :: p) (.block i a) k = cK p a (.inBlock i :: k) := rfl
end
end
end Go.Lg

set_option linter.unusedSimpArgs false
set_option linter.unusedVariables false
set_option maxRecDepth 100000
namespace Go.Lg
open Go.Tg Go.RowKit
theorem lconv_rune {P : Program} {H : LH} {t c : TypeId} {kd : IntKind} {n : Int} (h1 : (P.underlying t).isSome = true) (h2 : P.underlying c = some .string) : lconv P t c (.int kd n) H = some (str (Utf8.encode n).data.toList) := by
  obtain ⟨u, hu⟩ := Option.isSome_iff_exists.1 h1
  have e : pureVal P (convert t c (.int kd n)) = some (.string (Utf8.encode n)) := by
    simp only [convert, pureVal_bind, pureVal_und, hu, h2, Option.bind_some, Conv.intToString, pureVal_pure]
  unfold lconv
  simp only [flat_int, if_true, pureFlat, e, flat_string, str_ba, flat_str]
theorem calls_of_R {P : Program} {E : PEnv} {f : FuncId} {args : List Value} {v : Value} {w : World} (hs : ∀ H, Sound P E (.call f args H (.ret v) H)) (hf : ∀ x ∈ args, flatB x = true) (hv : flatB v = true) : Calls P f args.toArray w fun e w' => e = .returned v ∧ Change (fun _ => False) w w' := by
  obtain ⟨_, hc⟩ := hs (LH.empty w 0)
  obtain ⟨h1, h2⟩ := flats_rel (D := (LH.empty w 0).D) (ι := ren0) hf
  refine (hc ren0 w args.toArray (rel_empty (Nat.zero_le _)) h1 h2).mono ?_
  rintro e w' ⟨ι', hr, ho⟩
  obtain ⟨v', rfl, hv'⟩ := hr
  rw [flat_eq hv' hv]
  exact ⟨rfl, ho.chg.mono (fun _ _ ⟨_, _, h, _⟩ => by cases h)⟩
end Go.Lg
namespace Go.Proofs.YthgcgjpbhbikaaaGreatDoor
open Go.Lg Go.Tg
def gValidRune : List Value → Option Value
  | [.int .i32 r] => some (.bool (Lib.validRune r))
  | _ => none
theorem ok_ValidRune : SpecOk Tryz.prog 156 (flatSpec gValidRune) := specOk_flat ⟨_, Tryz.func156, rfl, by decide⟩ fun args v h => by
  unfold gValidRune at h
  split at h
  · injection h with h; subst h
    exact ⟨flat1 (by simp), rfl, fun w => same_mono (Tryz.utf8_ValidRune _ w)⟩
  · cases h
noncomputable def eRune : PEnv := ⟨extLL [(144, flatSpec gIndexByte), (156, flatSpec gValidRune)] [], fun _ => false, ⟨fun _ => false, chT⟩, fun _ => none, none, 0⟩
theorem eRune_ok : ∀ p ∈ [(144, flatSpec gIndexByte), (156, flatSpec gValidRune)], SpecOk Tryz.prog p.1 p.2 := by
  intro p hp
  rcases List.mem_cons.1 hp with rfl | hp
  · exact ok_IndexByte
  rcases List.mem_cons.1 hp with rfl | hp
  · exact ok_ValidRune
  cases hp
theorem eRune_sound {j : J} (h : R Tryz.prog eRune j) : Sound Tryz.prog eRune j := sound (LC_ok (extL_ok eRune_ok) mixed) mixed (fun f s h => by cases h) (fun f h => by cases h) h
section
variable {H : LH} {s : List UInt8}
@[simp] theorem rIndexByte {c : UInt8} : LC Tryz.prog eRune.E 144 [str s, .int .u8 c.toNat] H = some (.int .i64 (Lib.indexByte s c), H) := LC_flat (g := gIndexByte) rfl (by simp [gIndexByte, str])
@[simp] theorem rValidRune {r : Int} : LC Tryz.prog eRune.E 156 [.int .i32 r] H = some (.bool (Lib.validRune r), H) := LC_flat (g := gValidRune) rfl (by simp [gValidRune])
@[simp] theorem eRune_ps {g : FuncId} : eRune.ps g = false := rfl
@[simp] theorem eRune_ch {n id k : Nat} : eRune.pl.ch n id k = chT n id k := rfl
@[simp] theorem eRune_loud {g : FuncId} : eRune.pl g = false := rfl
theorem ib_none {c : UInt8} : ∀ {l : List UInt8}, (∀ b ∈ l, b ≠ c) → Lib.indexByte l c = -1
  | [], _ => rfl
  | b :: l, h => by
    show (if b == c then 0 else if Lib.indexByte l c == -1 then -1 else Lib.indexByte l c + 1) = _
    rw [if_neg (by simpa using h b (by simp)), ib_none (fun x hx => h x (by simp [hx]))]; rfl
theorem idxRune_R {r : Int} (h128 : 128 ≤ r) (hv : Lib.validRune r = true) (h533 : r ≠ 65533) (hs : s.length < 4294967281) (hA : ∀ b ∈ s, b.toNat < 128) : R Tryz.prog eRune (.call 152 [str s, .int .i32 r] H (.ret (.int .i64 (-1))) H) := by
  have hv' : Utf8.valid r = true := by
    have := of_decide_eq_true hv
    unfold Utf8.valid
    simp only [Bool.or_eq_true, Bool.and_eq_true, decide_eq_true_eq]
    omega
  obtain ⟨rs, hrs, f1, f2, c, hc, hc128⟩ : ∃ rs : List UInt8, (Utf8.encode r).data.toList = rs ∧ 2 ≤ rs.length ∧ rs.length ≤ 4 ∧ ∃ (c : UInt8), rs[rs.length - 1]? = some c ∧ 128 ≤ c.toNat := by
    obtain ⟨f1, f2, f3⟩ := encode_facts r hv' h128
    have e : (Utf8.encode r).data.toList.length = (Utf8.encode r).size := Array.length_toList
    refine ⟨_, rfl, by omega, by omega, _, ?_, f3 (by omega)⟩
    rw [e, Array.getElem?_toList]
    exact Array.getElem?_eq_getElem _
  refine pcall_flat Tryz.func152 rfl (Nat.le_of_ble_eq_true rfl) (by decide) (by kernel_rfl) rfl ?_
  have q1 := eq_true (show (0 : Int) ≤ r by omega)
  have q2 := eq_false (show ¬ r < 128 by omega)
  have q3 := eq_false h533
  have hcv : ∀ H, lconv Tryz.prog 21 9 (.int .i32 r) H = some (str rs) := fun H => by rw [lconv_rune (by rw [Tryz.underlying21]; rfl) Tryz.underlying9, hrs]
  have w1 : IntKind.i64.wrap ((rs.length : Int) - 1) = (rs.length : Int) - 1 := by rw [wrap64_in (by omega) (by omega)]
  simp (config := { maxSteps := 1000000 }) [q1, q2, q3, hv, hcv, w1]
  refine pr_loop.2 (pr_inLoop.2 ?_)
  by_cases hlt : rs.length - 1 < s.length
  · have p1 := eq_true (show (rs.length : Int) - 1 < (s.length : Int) by omega)
    have p2 := eq_true (show (1 : Int) ≤ (rs.length : Int) by omega)
    have e1 : ((rs.length : Int) - 1).toNat = rs.length - 1 := by omega
    have a1 : at_ s ((rs.length : Int) - 1) = s[rs.length - 1] := by
      unfold at_; rw [e1, List.getD_eq_getElem?_getD, List.getElem?_eq_getElem hlt]; rfl
    have a2 : at_ rs ((rs.length : Int) - 1) = c := by
      unfold at_; rw [e1, List.getD_eq_getElem?_getD, hc]; rfl
    have hsb := hA _ (List.getElem_mem hlt)
    have p3 := eq_false (show ¬ (s[rs.length - 1].toNat : Int) = (c.toNat : Int) by omega)
    have w2 : IntKind.i64.wrap (rs.length : Int) = (rs.length : Int) := by rw [wrap64_in (by omega) (by omega)]
    have p4 := eq_true (show (rs.length : Int) ≤ (s.length : Int) by omega)
    have p5 : Lib.indexByte (s.drop rs.length) c = -1 := by
      exact ib_none fun b hb e => by have := hA b (List.mem_of_mem_drop hb); rw [e] at this; omega
    have p6 := eq_true (show (rs.length : Int) - 1 < (rs.length : Int) by omega)
    generalize s[rs.length - 1] = d at *
    simp (config := { maxSteps := 1000000 }) [p1, p2, p6, e1, a1, a2, p3, w2, p4, p5]
  · have p1 := eq_false (show ¬ (rs.length : Int) - 1 < (s.length : Int) by omega)
    simp (config := { maxSteps := 1000000 }) [p1]
end
end Go.Proofs.YthgcgjpbhbikaaaGreatDoor

set_option linter.unusedSimpArgs false
set_option linter.unusedVariables false
set_option maxRecDepth 1000000
namespace Go.Proofs.YthgcgjpbhbikaaaGreatDoor
open Go.RowKit Go.Lib Go.Tg

theorem idxRune_any (s : ByteArray) (r : Int) (w : World) (h128 : 128 ≤ r) (hv : Lib.validRune r = true) (hs : s.size < 4294967281) (hascii : ∀ (j : Nat) b, s.data.toList[j]? = some b → b.toNat < 128) :
    Calls Tryz.prog 152 #[.string s, .int .i32 r] w fun e w' => e = .returned (.int .i64 (-1)) ∧ Change (fun _ => False) w w' := by
  by_cases h533 : r = 65533
  · subst h533
    refine (idxRune_bad s w hascii).mono ?_
    rintro e w' ⟨h, pos, rfl⟩
    exact ⟨h, (Change.refl _ w).alloc _⟩
  · have hl : s.data.toList.length < 4294967281 := by rw [← Lib.size_eq]; exact hs
    have hA : ∀ b ∈ s.data.toList, b.toNat < 128 := fun b hb => by
      obtain ⟨j, hj⟩ := List.mem_iff_getElem?.1 hb
      exact hascii j b hj
    have := Go.Lg.calls_of_R (w := w) (args := [Go.Lg.str s.data.toList, .int .i32 r]) (v := .int .i64 (-1)) (fun H => eRune_sound (idxRune_R (H := H) h128 hv h533 hl hA)) (Go.Lg.flat2 (by simp) (by simp)) (by simp)
    rw [← Go.Lg.str_ba] at this
    exact this

theorem idxAny_any (s chars : ByteArray) (w : World) (hs : s.size < 4294967281) (hcs : chars.size < 4294967281) (hac : ∀ (j : Nat) b, chars.data.toList[j]? = some b → b.toNat < 128) :
    Calls Tryz.prog 147 #[.string s, .string chars] w fun e w' => e = .returned (.int .i64 (Lib.indexAny s.data.toList chars.data.toList)) ∧ Change (fun _ => False) w w' := by
  rcases Nat.lt_or_ge chars.size 2 with h | h
  · rcases Nat.eq_zero_or_pos chars.size with h0 | h0
    · exact Go.Lg.same_mono (Tryz.strings_IndexAny_none s chars w h0)
    · exact Go.Lg.same_mono (Tryz.strings_IndexAny_one s chars w (by omega) hac)
  · rcases Nat.lt_or_ge 8 s.size with h8 | h8
    · refine (Tryz.strings_IndexAny_long (fun w => by first | exact Tryz.zeroValue_ascii w | exact (by kernel_rfl)) s chars w h h8 hs hcs hac).mono ?_
      rintro e w' ⟨h1, rfl⟩
      exact ⟨h1, ((Change.refl _ w).alloc _).alloc _⟩
    · exact idxAny_short (fun s r w a b c d => idxRune_any s r w a b c d) s chars w h h8 hcs hac
end Go.Proofs.YthgcgjpbhbikaaaGreatDoor

set_option linter.unusedSimpArgs false
set_option linter.unusedVariables false
set_option maxRecDepth 100000
namespace Go.Lg
open Go.Tg Go.RowKit
section
variable {P : Program} {H H' : LH} {ι : Ren} {w w' : World}
theorem Rel.cell0 (h : Rel P H ι w) {l i : Nat} {b : LB} {v : Value} (hb : H.get l = some b) (hv : b.cells[i]? = some v) : ∃ v', w.cell? ⟨(ι l).blk, (ι l).off + i, none⟩ = some v' ∧ VR H.D ι v v' := by
  obtain ⟨arr, t, f, hw, _, h1, _⟩ := h.blk l b hb
  obtain ⟨v', h2, h3⟩ := h1 i v hv
  exact ⟨v', by simp [World.cell?, hw, h2], h3⟩
theorem Rel.row (h : Rel P H ι w) {l : Nat} {b : LB} (hb : H.get l = some b) (hrw : b.rw = true) : (ι l).off = 0 := by
  obtain ⟨arr, t, f, hw, _, _, h1⟩ := h.blk l b hb
  exact (h1 hrw).1
theorem vr_row {D : Nat → Prop} {g o n c : Nat} {v' : Value} (h : VR D ι (.slice (some ⟨g, o, none⟩) n c) v') (h0 : n ≠ 0) : v' = .slice (some ⟨(ι g).blk, (ι g).off + o, none⟩) n (c + (ι g).slack) := by
  cases h with
  | flat _ hv => simp [flatB, flat1B, atomB] at hv
  | slice _ _ _ _ _ _ => rfl
  | slice0 _ _ _ _ => exact absurd rfl h0
theorem out_kill (h : Rel P H ι w) {l : Nat} {b : LB} (hb : H.get l = some b) (hrw : b.rw = true) (hc : Change (fun k => k = (ι l).blk) w w') : Out P H ι w (H.kill l) ι w' := by
  have hRW : RW H ι (ι l).blk := ⟨l, b, hb, hrw, rfl⟩
  refine ⟨rel_off (rel_kill h l) hc ?_, Nat.le_refl _, fun _ h => h, fun _ _ => rfl, hc.mono (fun k _ e => by rw [e]; exact hRW), ?_, ?_, rfl⟩
  · rintro k rfl
    refine ⟨?_, fun hk => (h.pin _ hk).2.2 hRW⟩
    rintro ⟨l', b', hb', e⟩
    have hb2 : (H.kill l).get l' = some b' := hb'
    have hne : l' ≠ l := by rintro rfl; simp at hb2
    rw [get_kill_ne hne] at hb2
    exact h.sep l l' b b' hb hb2 hrw (Ne.symm hne) e.symm
  · rintro k ⟨l', b', hb', hr, e⟩
    have hb2 : (H.kill l).get l' = some b' := hb'
    have hne : l' ≠ l := by rintro rfl; simp at hb2
    rw [get_kill_ne hne] at hb2
    exact .inl ⟨l', b', hb2, hr, e⟩
  · rintro k ⟨l', b', hb', e⟩
    have hb2 : (H.kill l).get l' = some b' := hb'
    have hne : l' ≠ l := by rintro rfl; simp at hb2
    rw [get_kill_ne hne] at hb2
    exact .inl ⟨l', b', hb2, e⟩
end
end Go.Lg
namespace Go.Proofs.YthgcgjpbhbikaaaGreatDoor
open Go.Lg Go.Tg
theorem one_ptr {P : Program} {H : LH} {ι : Ren} {b : Nat} {args' : Array Value} (hl : [Value.pointer (some ⟨b, 0, none⟩)].length = args'.size) (h : ∀ (i : Nat) (x y : Value), [Value.pointer (some ⟨b, 0, none⟩)][i]? = some x → args'[i]? = some y → VR H.D ι x y) : args' = #[.pointer (some ⟨(ι b).blk, (ι b).off, none⟩)] := by
  have h1 : args'.size = 1 := hl.symm
  have hv := h 0 _ _ rfl (Array.getElem?_eq_getElem (by omega))
  obtain ⟨_, e⟩ := vr_ptr hv
  apply Array.ext
  · simp [h1]
  · intro i h2 h3
    obtain rfl : i = 0 := by omega
    rw [e]; simp
def specCopy : Lg.Spec := fun args H => match args with
  | [.pointer (some ⟨b, 0, none⟩)] => match H.get b with
    | some ⟨[.pointer none, v], e, true⟩ => if e = 84 then some (.tuple #[], H.set b ⟨[ptr b 0, v], e, true⟩) else none
    | some ⟨[.pointer (some ⟨b', 0, none⟩), v], e, true⟩ => if b' = b then some (.tuple #[], H) else none
    | _ => none
  | _ => none
theorem ok_Copy : SpecOk Tryz.prog 75 specCopy := by
  intro args H v H' hs
  refine .inl ⟨⟨_, Tryz.func75, rfl, by decide⟩, ?_⟩
  unfold specCopy at hs
  split at hs
  · rename_i b
    split at hs
    · rename_i x e hg
      split at hs
      · rename_i he
        subst he
        simp only [Option.some.injEq, Prod.mk.injEq] at hs
        obtain ⟨rfl, rfl⟩ := hs
        intro ι w args' hrel hl ha
        obtain rfl := one_ptr (P := Tryz.prog) hl ha
        have hoff := hrel.row hg rfl
        rw [hoff]
        obtain ⟨arr, t, f, hw, hsz, hcells, hrw⟩ := hrel.blk b _ hg
        obtain ⟨_, hel, s, hs1, hs2, hs3⟩ := hrw rfl
        obtain ⟨rfl, rfl⟩ := ElOk.plain hel (show sz Tryz.prog 84 = some 2 by kernel_rfl)
        have hs1' : s = 2 := Option.some.inj (hs1.symm.trans (show sz Tryz.prog 84 = some 2 by kernel_rfl))
        subst hs1'
        have hc0 : w.cell? ⟨(ι b).blk, 0, none⟩ = some (.pointer none) := by
          obtain ⟨v', h1, h2⟩ := hrel.cell0 (i := 0) hg rfl
          rw [hoff] at h1
          rw [h1, flat_eq h2 rfl]
        refine (bld_fresh (ι b).blk (ι b).slack w hc0 (by simp [World.shape?, hw, hs2]) (by simp [World.frozen?, hw])).mono ?_
        rintro e w' ⟨rfl, rfl⟩
        refine ⟨ι, _, rfl, ?_, .flat _ rfl⟩
        refine rel_set hrel (b := ⟨[.pointer none, x], 84, true⟩) (b' := ⟨[ptr b 0, x], 84, true⟩) hg rfl rfl rfl rfl hw (arr' := arr.setIfInBounds 0 (.pointer (some ⟨(ι b).blk, 0, none⟩))) (by simp) ?_ ?_ ?_
        · intro i y hy
          cases i with
          | zero =>
            simp only [List.getElem?_cons_zero, Option.some.injEq] at hy
            subst hy
            refine ⟨.pointer (some ⟨(ι b).blk, 0, none⟩), ?_, ?_⟩
            · rw [Array.getElem?_setIfInBounds_self_of_lt (by rw [hs2]; simp; omega)]
            · have := VR.ptr (n := H.D) (ι := ι) b 0 (hrel.live hg)
              rw [hoff] at this; exact this
          | succ i =>
            obtain ⟨y', h1, h2⟩ := hcells (i + 1) y hy
            rw [hoff, Nat.zero_add] at h1
            exact ⟨y', by rw [Array.getElem?_setIfInBounds_ne (by omega)]; exact h1, h2⟩
        · simp [World.setCell, Array.getElem?_modify, hw]
        · refine ⟨rfl, rfl, rfl, by simp [World.setCell], fun k hk hn => ?_⟩
          simp only [World.setCell, Array.getElem?_modify]
          rw [if_neg (fun e => hn e.symm)]
      · cases hs
    · rename_i b' x e hg
      split at hs
      · rename_i he
        subst he
        simp only [Option.some.injEq, Prod.mk.injEq] at hs
        obtain ⟨rfl, rfl⟩ := hs
        intro ι w args' hrel hl ha
        obtain rfl := one_ptr (P := Tryz.prog) hl ha
        have hoff := hrel.row hg rfl
        have hc0 : w.cell? ⟨(ι b').blk, 0, none⟩ = some (.pointer (some ⟨(ι b').blk, 0, none⟩)) := by
          obtain ⟨v', h1, h2⟩ := hrel.cell0 (i := 0) hg rfl
          rw [hoff] at h1
          rw [h1, (vr_ptr h2).2, hoff]
        rw [hoff]
        refine (bld_used (ι b').blk w hc0).mono ?_
        rintro e w' ⟨rfl, rfl⟩
        exact ⟨ι, _, rfl, Out.refl hrel, .flat _ rfl⟩
      · cases hs
    · cases hs
  · cases hs
open Classical in
noncomputable def specBStr : Lg.Spec := fun args H => match args with
  | [.pointer (some ⟨b, 0, none⟩)] => match H.get b with
    | some ⟨[_, .slice none 0 0], _, true⟩ => some (str [], H)
    | some ⟨[_, .slice (some ⟨g, 0, none⟩) n c], _, true⟩ => match H.get g with
      | some ⟨cs, e, true⟩ => if ∃ l : List UInt8, l ≠ [] ∧ cs.take n = l.map bv ∧ l.length = n ∧ n ≤ c ∧ n ≤ maxLen ∧ e = 5 then (lbs (cs.take n)).map fun l => (str l, H.kill g) else none
      | _ => none
    | _ => none
  | _ => none
theorem ok_BStr : SpecOk Tryz.prog 53 specBStr := by
  intro args H v H' hs
  refine .inl ⟨⟨_, Tryz.func53, rfl, by decide⟩, ?_⟩
  unfold specBStr at hs
  split at hs
  · rename_i b
    split at hs
    · rename_i p e hg
      simp only [Option.some.injEq, Prod.mk.injEq] at hs
      obtain ⟨rfl, rfl⟩ := hs
      intro ι w args' hrel hl ha
      obtain rfl := one_ptr (P := Tryz.prog) hl ha
      have hoff := hrel.row hg rfl
      have hc1 : w.cell? ⟨(ι b).blk, 1, none⟩ = some (.slice none 0 0) := by
        obtain ⟨v', h1, h2⟩ := hrel.cell0 (i := 1) hg rfl
        rw [hoff] at h1
        rw [h1, flat_eq h2 rfl]
      rw [hoff]
      refine (bld_string_nil (ι b).blk w hc1).mono ?_
      rintro e w' ⟨rfl, hc⟩
      exact ⟨ι, _, rfl, out_change hrel hc, .flat _ rfl⟩
    · rename_i p g n c e hg
      split at hs
      · rename_i cs e2 hgg
        split at hs
        · rename_i hex
          obtain ⟨l, h0, htk, hln, hnc, hnm, rfl⟩ := hex
          rw [htk, lbs_map] at hs
          simp only [Option.map_some, Option.some.injEq, Prod.mk.injEq] at hs
          obtain ⟨rfl, rfl⟩ := hs
          intro ι w args' hrel hl ha
          obtain rfl := one_ptr (P := Tryz.prog) hl ha
          have hoff := hrel.row hg rfl
          have hoffg := hrel.row hgg rfl
          subst hln
          have hne : l.length ≠ 0 := by simpa using h0
          have hc1 : w.cell? ⟨(ι b).blk, 1, none⟩ = some (.slice (some ⟨(ι g).blk, 0, none⟩) l.length (c + (ι g).slack)) := by
            obtain ⟨v', h1, h2⟩ := hrel.cell0 (i := 1) hg rfl
            rw [hoff] at h1
            rw [h1]
            rw [vr_row h2 hne, hoffg]
          obtain ⟨arr, t, f, hw, hsz, hcells, hrw⟩ := hrel.blk g _ hgg
          obtain ⟨_, hel, s, hs1, hs2, hs3⟩ := hrw rfl
          obtain ⟨rfl, rfl⟩ := ElOk.plain hel (show sz Tryz.prog 5 = some 1 by kernel_rfl)
          have hlen : l.length ≤ cs.length := by
            have := congrArg List.length htk
            simp at this; omega
          rw [hoff]
          refine (bld_string (ι b).blk (ι g).blk (c + (ι g).slack) l arr w h0 hc1 hw (by omega) (by rw [hs2]; simp; omega) hnm (fun j x hx => ?_)).mono ?_
          · have hj : j < l.length := (List.getElem?_eq_some_iff.1 hx).1
            have h1 : cs[j]? = some (bv x) := by
              have : (cs.take l.length)[j]? = some (bv x) := by rw [htk, List.getElem?_map, hx]; rfl
              rwa [List.getElem?_take, if_pos hj] at this
            obtain ⟨y, h2, h3⟩ := hcells j _ h1
            rw [hoffg, Nat.zero_add] at h2
            rw [h2, flat_eq h3 rfl]; rfl
          · rintro e w' ⟨rfl, hc⟩
            exact ⟨ι, _, rfl, out_kill hrel hgg rfl hc, .flat _ rfl⟩
        · cases hs
      · cases hs
    · cases hs
  · cases hs
end Go.Proofs.YthgcgjpbhbikaaaGreatDoor

set_option linter.unusedSimpArgs false
set_option linter.unusedVariables false
set_option maxRecDepth 100000
namespace Go.Proofs.YthgcgjpbhbikaaaGreatDoor
open Go.Lg Go.Tg
def MaxL (H : LH) : Prop := 2 < H.ng ∧ ∃ m, H.base.cell? ⟨2, 0, none⟩ = some (.int .i64 m)
theorem max_at {P : Program} {H : LH} {ι : Ren} {w : World} (hrel : Rel P H ι w) (h : MaxL H) : ∃ m, w.cell? ⟨2, 0, none⟩ = some (.int .i64 m) := by
  obtain ⟨h1, m, h2⟩ := h
  refine ⟨m, ?_⟩
  unfold World.cell? at h2 ⊢
  rw [pin_block hrel h1]
  exact h2
theorem one_str {P : Program} {H : LH} {ι : Ren} {args' : Array Value} {vs : List Value} (hf : ∀ x ∈ vs, flatB x = true) (hl : vs.length = args'.size) (h : ∀ (i : Nat) (x y : Value), vs[i]? = some x → args'[i]? = some y → VR H.D ι x y) : args' = vs.toArray := by
  apply Array.ext
  · simp [hl]
  · intro i h3 h4
    have hx : vs[i]? = some (vs[i]'(by simpa using h4)) := List.getElem?_eq_getElem _
    have := flat_eq (h i _ _ hx (Array.getElem?_eq_getElem h3)) (hf _ (List.getElem_mem _))
    rw [this]; simp
open Classical in
noncomputable def specSplit : Lg.Spec := fun args H => match args with
  | [.string s, .string sep] => if s.size < 4294967281 ∧ 1 ≤ sep.size ∧ MaxL H ∧ Lib.countB s sep + 1 ≤ maxLen ∧ (Lib.splitB sep 0 (Lib.countB s sep) s).length = Lib.countB s sep + 1 then
      some (sl H.n (Lib.countB s sep + 1) (Lib.countB s sep + 1), H.new ⟨(Lib.splitB sep 0 (Lib.countB s sep) s).map Value.string, 9, true⟩)
    else none
  | _ => none
theorem ok_Split : SpecOk Tryz.prog 33 specSplit := by
  intro args H v H' h
  refine .inl ⟨⟨_, Tryz.func33, rfl, by decide⟩, ?_⟩
  unfold specSplit at h
  split at h
  · rename_i s sep
    split at h
    · rename_i hc
      obtain ⟨h1, h2, h3, h4, h5⟩ := hc
      simp only [Option.some.injEq, Prod.mk.injEq] at h
      obtain ⟨rfl, rfl⟩ := h
      exact callOk_row (flat2 rfl rfl) (fun x hx => by
          obtain ⟨l, _, rfl⟩ := List.mem_map.1 hx
          rfl) (by kernel_rfl) (by simpa using h5) h4 (fun ι w hrel => by
            obtain ⟨m, hm⟩ := max_at hrel h3
            exact Tryz.strings_Split s sep m w h1 hm h2)
    · cases h
  · cases h
open Classical in
noncomputable def specJoin : Lg.Spec := fun args H => match args with
  | [.slice none 0 0, .string sep] => some (str [], H)
  | [.slice (some ⟨l, o, none⟩) n c, .string sep] => if h : ∃ (b : LB) (xs : List (List UInt8)), H.get l = some b ∧ n ≠ 0 ∧ n ≤ c ∧ n ≤ 140737488355328 ∧ xs.length = n ∧ (b.cells.drop o).take n = xs.map str ∧ (Lib.join xs sep.data.toList).length ≤ 140737488355328 then
      some (str (Lib.join (Classical.choose (Classical.choose_spec h)) sep.data.toList), H) else none
  | _ => none
theorem str_inj {a b : List UInt8} (h : str a = str b) : a = b := by
  unfold str at h
  injection h with h
  injection h with h
  injection h
theorem map_str_inj : ∀ {xs ys : List (List UInt8)}, xs.map str = ys.map str → xs = ys
  | [], [], _ => rfl
  | [], y :: ys, h => by simp at h
  | x :: xs, [], h => by simp at h
  | x :: xs, y :: ys, h => by
    simp only [List.map_cons, List.cons.injEq] at h
    rw [str_inj h.1, map_str_inj h.2]
theorem ok_Join : SpecOk Tryz.prog 73 specJoin := by
  intro args H v H' hs
  refine .inl ⟨⟨_, Tryz.func73, rfl, by decide⟩, ?_⟩
  unfold specJoin at hs
  split at hs
  · rename_i sep
    simp only [Option.some.injEq, Prod.mk.injEq] at hs
    obtain ⟨rfl, rfl⟩ := hs
    intro ι w args' hrel hl ha
    obtain rfl := one_str (P := Tryz.prog) (flat2 (by simp) (by simp)) hl ha
    refine (Tryz.strings_Join_none none 0 sep w).mono ?_
    rintro e w' ⟨rfl, rfl⟩
    exact ⟨ι, _, rfl, Out.refl hrel, .flat _ rfl⟩
  · rename_i l o n c sep
    split at hs
    · rename_i hex
      have hspec := Classical.choose_spec (Classical.choose_spec hex)
      obtain ⟨hb, h0, hnc, hn, hxl, hcells, hlen⟩ := hspec
      generalize Classical.choose (Classical.choose_spec hex) = xs at *
      generalize Classical.choose hex = b at *
      simp only [Option.some.injEq, Prod.mk.injEq] at hs
      obtain ⟨rfl, rfl⟩ := hs
      intro ι w args' hrel hl ha
      have h2 : args'.size = 2 := hl.symm
      have v0 := ha 0 _ _ rfl (Array.getElem?_eq_getElem (show 0 < args'.size by omega))
      have v1 := ha 1 _ _ rfl (Array.getElem?_eq_getElem (show 1 < args'.size by omega))
      have e0 := vr_row v0 h0
      have e1 := flat_eq v1 rfl
      obtain rfl : args' = #[.slice (some ⟨(ι l).blk, (ι l).off + o, none⟩) n (c + (ι l).slack), .string sep] := by
        apply Array.ext
        · simp [h2]
        · intro i h3 h4
          have : i = 0 ∨ i = 1 := by omega
          rcases this with rfl | rfl
          · rw [e0]; simp
          · rw [e1]; simp
      have hmap : xs.map (fun x => (⟨x.toArray⟩ : ByteArray).data.toList) = xs := by simp
      have hj : (List.map (fun x => x.data.toList) (xs.map fun x => (⟨x.toArray⟩ : ByteArray))) = xs := by simp [Function.comp_def]
      have := Tryz.strings_Join (ι l).blk ((ι l).off + o) (c + (ι l).slack) (xs.map fun x => (⟨x.toArray⟩ : ByteArray)) sep w (fun j x hx => ?_) (rel_lt hrel hb) (by simp; omega) (by simp; omega) (by rw [hj]; exact hlen)
      · rw [hj] at this
        rw [List.length_map, hxl] at this
        refine this.mono ?_
        rintro e w' ⟨rfl, hbl⟩
        exact ⟨ι, _, rfl, out_change hrel (change_of_below hbl), .flat _ rfl⟩
      · rw [List.getElem?_map] at hx
        obtain ⟨y, hy, rfl⟩ := Option.map_eq_some_iff.1 hx
        have hjn : j < n := by rw [← hxl]; exact (List.getElem?_eq_some_iff.1 hy).1
        have hc : b.cells[o + j]? = some (str y) := by
          have : ((b.cells.drop o).take n)[j]? = some (str y) := by rw [hcells, List.getElem?_map, hy]; rfl
          rw [List.getElem?_take, if_pos hjn, List.getElem?_drop] at this
          exact this
        obtain ⟨v', g1, g2⟩ := hrel.cell0 (i := o + j) hb hc
        rw [show (ι l).off + o + j = (ι l).off + (o + j) by omega, g1, flat_eq g2 rfl]
        rfl
    · cases hs
  · cases hs
def Tab10 (H : LH) : Prop := 5 < H.ng ∧ Lib.TabIs Tryz.prog H.base "internal/strconv.uint64pow10" .u64 Lib.pow10Tab
theorem tab10_at {P : Program} {H : LH} {ι : Ren} {w : World} (hrel : Rel P H ι w) (h : Tab10 H) : Lib.TabIs Tryz.prog w "internal/strconv.uint64pow10" .u64 Lib.pow10Tab := by
  have h2 := h.2
  unfold Lib.TabIs World.var? at h2 ⊢
  rw [show Tryz.prog.globalNamed "internal/strconv.uint64pow10" = some 5 by kernel_rfl] at h2 ⊢
  simp only [Option.bind_some] at h2 ⊢
  rw [pin_block hrel h.1]
  exact h2
open Classical in
noncomputable def specItoa : Lg.Spec := fun args H => match args with
  | [.int .i64 n] => if -9223372036854775808 ≤ n ∧ n ≤ 9223372036854775807 ∧ Tab10 H then some (str (Lib.itoa n), H) else none
  | _ => none
theorem ok_Itoa : SpecOk Tryz.prog 72 specItoa := by
  intro args H v H' hs
  refine .inl ⟨⟨_, Tryz.func72, rfl, by decide⟩, ?_⟩
  unfold specItoa at hs
  split at hs
  · rename_i n
    split at hs
    · rename_i hc
      obtain ⟨h1, h2, h3⟩ := hc
      simp only [Option.some.injEq, Prod.mk.injEq] at hs
      obtain ⟨rfl, rfl⟩ := hs
      intro ι w args' hrel hl ha
      obtain rfl := one_str (P := Tryz.prog) (flat1 (by simp)) hl ha
      refine (Tryz.strconv_Itoa n h1 h2 w (tab10_at hrel h3)).mono ?_
      rintro e w' ⟨rfl, k, os, rfl⟩
      refine ⟨ι, _, rfl, out_change hrel ⟨rfl, rfl, rfl, ?_, fun j hj _ => ?_⟩, .flat _ rfl⟩
      · show w.heap.size ≤ (w.heap ++ os).size
        simp
      · show (w.heap ++ os)[j]? = w.heap[j]?
        rw [Array.getElem?_append_left hj]
    · cases hs
  · cases hs
end Go.Proofs.YthgcgjpbhbikaaaGreatDoor

set_option linter.unusedSimpArgs false
set_option linter.unusedVariables false
set_option maxRecDepth 100000
namespace Go.Proofs.YthgcgjpbhbikaaaGreatDoor
open Go.Lg Go.Tg
def Tab (H : LH) : Prop := 0 < H.ng ∧ Lib.TabIs Tryz.prog H.base "strings.asciiSpace" .u8 Lib.asciiSpaceTab
theorem tab_at {P : Program} {H : LH} {ι : Ren} {w : World} (hrel : Rel P H ι w) (h : Tab H) : Lib.TabIs Tryz.prog w "strings.asciiSpace" .u8 Lib.asciiSpaceTab := by
  have h2 := h.2
  unfold Lib.TabIs World.var? at h2 ⊢
  rw [show Tryz.prog.globalNamed "strings.asciiSpace" = some 0 by kernel_rfl] at h2 ⊢
  simp only [Option.bind_some] at h2 ⊢
  rw [pin_block hrel h.1]
  exact h2
open Classical in
noncomputable def specFields : Lg.Spec := fun args H => match args with
  | [.string s] => if s.size < 4294967281 ∧ (∀ (j : Nat) b, s.data.toList[j]? = some b → b.toNat < 128) ∧ Tab H ∧ (Lib.fields s.data.toList).length ≤ maxLen then
      some (sl H.n (Lib.fields s.data.toList).length (Lib.fields s.data.toList).length, H.new ⟨(Lib.fields s.data.toList).map (fun l => .string ⟨l.toArray⟩), 9, true⟩)
    else none
  | _ => none
theorem ok_Fields : SpecOk Tryz.prog 71 specFields := by
  intro args H v H' h
  refine .inl ⟨⟨_, Tryz.func71, rfl, by decide⟩, ?_⟩
  unfold specFields at h
  split at h
  · rename_i s
    split at h
    · rename_i hc
      obtain ⟨h1, h2, h3, h4⟩ := hc
      simp only [Option.some.injEq, Prod.mk.injEq] at h
      obtain ⟨rfl, rfl⟩ := h
      exact callOk_row (flat1 rfl) (fun x hx => by
        obtain ⟨l, _, rfl⟩ := List.mem_map.1 hx
        rfl) (by kernel_rfl) (by simp) h4 (fun ι w hrel => Tryz.strings_Fields s w h1 h2 (tab_at hrel h3))
    · cases h
  · cases h
end Go.Proofs.YthgcgjpbhbikaaaGreatDoor

set_option linter.unusedSimpArgs false
set_option linter.unusedVariables false
namespace Go.Proofs.YthgcgjpbhbikaaaGreatDoor
open Go.Lg Go.Tg

def gTrimPrefix : List Value → Option Value
  | [.string s, .string p] => some (.string ⟨(Lib.trimPrefix s.data.toList p.data.toList).toArray⟩)
  | _ => none
theorem ok_TrimPrefix : SpecOk Tryz.prog 59 (flatSpec gTrimPrefix) := specOk_flat ⟨_, Tryz.func59, rfl, by decide⟩ fun args v h => by
  unfold gTrimPrefix at h
  split at h
  · injection h with h; subst h
    exact ⟨flat2 rfl rfl, rfl, fun w => same_mono (Tryz.strings_TrimPrefix _ _ w)⟩
  · cases h
open Classical in
noncomputable def gIndexAny : List Value → Option Value
  | [.string s, .string c] => if s.size < 4294967281 ∧ c.size < 4294967281 ∧ asc c then some (.int .i64 (Lib.indexAny s.data.toList c.data.toList)) else none
  | _ => none
theorem ok_IndexAny : SpecOk Tryz.prog 147 (flatSpec gIndexAny) := specOk_flat ⟨_, Tryz.func147, rfl, by decide⟩ fun args v h => by
  unfold gIndexAny at h
  split at h
  · split at h
    · rename_i hs
      obtain ⟨h1, h2, h4⟩ := hs
      injection h with h; subst h
      exact ⟨flat2 rfl rfl, rfl, fun w => idxAny_any _ _ w h1 h2 h4⟩
    · cases h
  · cases h
def gIndex : List Value → Option Value
  | [.string s, .string ⟨⟨[c]⟩⟩] => some (.int .i64 (Lib.indexByte s.data.toList c))
  | _ => none
open Classical in
noncomputable def specIndexA : Lg.Spec := fun args H => match args with
  | [.string s, .string ⟨⟨[c]⟩⟩] => some (.int .i64 (Lib.indexByte s.data.toList c), H)
  | [.string s, .string sub] => if s.size < 4294967281 ∧ MaxL H then some (.int .i64 (Lib.index s.data.toList sub.data.toList), H) else none
  | _ => none
theorem ok_Index : SpecOk Tryz.prog 99 specIndexA := by
  intro args H v H' hs
  refine .inl ⟨⟨_, Tryz.func99, rfl, by decide⟩, ?_⟩
  unfold specIndexA at hs
  split at hs
  · rename_i s c
    simp only [Option.some.injEq, Prod.mk.injEq] at hs
    obtain ⟨rfl, rfl⟩ := hs
    intro ι w args' hrel hl ha
    obtain rfl := one_str (P := Tryz.prog) (flat2 (by simp) (by simp)) hl ha
    refine (Tryz.stringslite_Index_one s c w).mono ?_
    rintro e w' ⟨rfl, rfl⟩
    exact ⟨ι, _, rfl, Out.refl hrel, .flat _ rfl⟩
  · rename_i s sub _
    split at hs
    · rename_i hc
      simp only [Option.some.injEq, Prod.mk.injEq] at hs
      obtain ⟨rfl, rfl⟩ := hs
      intro ι w args' hrel hl ha
      obtain rfl := one_str (P := Tryz.prog) (flat2 (by simp) (by simp)) hl ha
      obtain ⟨m, hm⟩ := max_at hrel hc.2
      refine (Tryz.stringslite_Index s sub m w hc.1 hm).mono ?_
      rintro e w' ⟨rfl, rfl⟩
      exact ⟨ι, _, rfl, Out.refl hrel, .flat _ rfl⟩
    · cases hs
  · cases hs
noncomputable def specsStr : List (FuncId × Lg.Spec) := [
  (71, specFields),
  (33, specSplit),
  (73, specJoin),
  (72, specItoa),
  (75, specCopy),
  (53, specBStr),
  (144, flatSpec gIndexByte),
  (59, flatSpec gTrimPrefix),
  (147, flatSpec gIndexAny),
  (99, specIndexA),
  ]
theorem str_ok : ∀ p ∈ specsStr, SpecOk Tryz.prog p.1 p.2 := by
  intro p hp
  unfold specsStr at hp
  rcases List.mem_cons.1 hp with rfl | hp
  · exact ok_Fields
  rcases List.mem_cons.1 hp with rfl | hp
  · exact ok_Split
  rcases List.mem_cons.1 hp with rfl | hp
  · exact ok_Join
  rcases List.mem_cons.1 hp with rfl | hp
  · exact ok_Itoa
  rcases List.mem_cons.1 hp with rfl | hp
  · exact ok_Copy
  rcases List.mem_cons.1 hp with rfl | hp
  · exact ok_BStr
  rcases List.mem_cons.1 hp with rfl | hp
  · exact ok_IndexByte
  rcases List.mem_cons.1 hp with rfl | hp
  · exact ok_TrimPrefix
  rcases List.mem_cons.1 hp with rfl | hp
  · exact ok_IndexAny
  rcases List.mem_cons.1 hp with rfl | hp
  · exact ok_Index
  cases hp
end Go.Proofs.YthgcgjpbhbikaaaGreatDoor

set_option linter.unusedSimpArgs false
set_option linter.unusedVariables false
namespace Go.Proofs.YthgcgjpbhbikaaaGreatDoor
open Go.Lg Go.Tg

noncomputable def EJ : Ext := extLL specsStr []
@[simp] theorem EJ_ch {n id k : Nat} : EJ.loud.ch n id k = chT n id k := rfl
@[simp] theorem EJ_loud {g : FuncId} : EJ.loud g = false := rfl
theorem extOk : ExtOk Tryz.prog EJ := extL_ok str_ok
theorem tOk : TOk Tryz.prog (LC Tryz.prog EJ) := LC_ok extOk mixed
section
variable {H : LH} {s t p : List UInt8}
@[simp] theorem indexByte_l {c : UInt8} : LC Tryz.prog EJ 144 [str s, .int .u8 c.toNat] H = some (.int .i64 (Lib.indexByte s c), H) := LC_flat (g := gIndexByte) rfl (by simp [gIndexByte, str])
@[simp] theorem trimPrefix_l : LC Tryz.prog EJ 59 [str s, str p] H = some (str (Lib.trimPrefix s p), H) := LC_flat (g := gTrimPrefix) rfl (by simp [gTrimPrefix, str])
theorem indexAny_l (h1 : s.length < 4294967281) (h2 : p.length < 4294967281) (h4 : ascL p) : LC Tryz.prog EJ 147 [str s, str p] H = some (.int .i64 (Lib.indexAny s p), H) := LC_flat (g := gIndexAny) rfl (by
  unfold gIndexAny str
  dsimp only
  rw [if_pos ⟨by rw [ba_size]; exact h1, by rw [ba_size]; exact h2, asc_of h4⟩])
@[simp] theorem index1_l {c : UInt8} : LC Tryz.prog EJ 99 [str s, str [c]] H = some (.int .i64 (Lib.indexByte s c), H) := LC_ext (s := specIndexA) rfl (by unfold specIndexA str; rfl)
theorem indexM_l {a b : UInt8} {p : List UInt8} (h : s.length < 4294967281) (hm : MaxL H) : LC Tryz.prog EJ 99 [str s, str (a :: b :: p)] H = some (.int .i64 (Lib.index s (a :: b :: p)), H) := LC_ext (s := specIndexA) rfl (by
  unfold specIndexA str
  dsimp only
  rw [if_pos ⟨by rw [ba_size]; exact h, hm⟩])
theorem split_l (h : s.length < 4294967281) (h1 : 1 ≤ p.length) (hm : MaxL H) (h2 : Lib.countB ⟨s.toArray⟩ ⟨p.toArray⟩ + 1 ≤ maxLen) (h3 : (Lib.splitB ⟨p.toArray⟩ 0 (Lib.countB ⟨s.toArray⟩ ⟨p.toArray⟩) ⟨s.toArray⟩).length = Lib.countB ⟨s.toArray⟩ ⟨p.toArray⟩ + 1) :
    LC Tryz.prog EJ 33 [str s, str p] H = some (sl H.n (Lib.countB ⟨s.toArray⟩ ⟨p.toArray⟩ + 1) (Lib.countB ⟨s.toArray⟩ ⟨p.toArray⟩ + 1), H.new ⟨(Lib.splitB ⟨p.toArray⟩ 0 (Lib.countB ⟨s.toArray⟩ ⟨p.toArray⟩) ⟨s.toArray⟩).map Value.string, 9, true⟩) := LC_ext (s := specSplit) rfl (by
  unfold specSplit str
  dsimp only
  rw [if_pos ⟨by rw [ba_size]; exact h, by rw [ba_size]; exact h1, hm, h2, h3⟩])
theorem join_l {l o n c : Nat} {b : LB} {xs : List (List UInt8)} (hb : H.get l = some b) (h0 : n ≠ 0) (hc : n ≤ c) (hn : n ≤ 140737488355328) (hx : xs.length = n) (hcs : (b.cells.drop o).take n = xs.map str) (hl : (Lib.join xs p).length ≤ 140737488355328) :
    LC Tryz.prog EJ 73 [.slice (some ⟨l, o, none⟩) n c, str p] H = some (str (Lib.join xs p), H) := LC_ext (s := specJoin) rfl (by
  have hex : ∃ (b : LB) (xs : List (List UInt8)), H.get l = some b ∧ n ≠ 0 ∧ n ≤ c ∧ n ≤ 140737488355328 ∧ xs.length = n ∧ (b.cells.drop o).take n = xs.map str ∧ (Lib.join xs (⟨p.toArray⟩ : ByteArray).data.toList).length ≤ 140737488355328 := ⟨b, xs, hb, h0, hc, hn, hx, hcs, hl⟩
  have e : Classical.choose (Classical.choose_spec hex) = xs := by
    obtain ⟨g1, _, _, _, _, g6, _⟩ := Classical.choose_spec (Classical.choose_spec hex)
    have hbe := congrArg LB.cells (Option.some.inj (hb.symm.trans g1))
    exact (map_str_inj (hcs.symm.trans ((congrArg (fun z => (z.drop o).take n) hbe).trans g6))).symm
  show specJoin [.slice (some ⟨l, o, none⟩) n c, .string ⟨p.toArray⟩] H = _
  unfold specJoin
  simp only
  rw [dif_pos hex, e])
theorem itoa_l {n : Int} (h1 : -9223372036854775808 ≤ n) (h2 : n ≤ 9223372036854775807) (ht : Tab10 H) : LC Tryz.prog EJ 72 [.int .i64 n] H = some (str (Lib.itoa n), H) := LC_ext (s := specItoa) rfl (by
  unfold specItoa
  dsimp only
  rw [if_pos ⟨h1, h2, ht⟩])
end
end Go.Proofs.YthgcgjpbhbikaaaGreatDoor

set_option linter.unusedSimpArgs false
set_option linter.unusedVariables false
namespace Go.Lg
open Go.Tg Go.RowKit

structure Kp (p : Nat) (v : Value) (H : LH) (v' : Value) (H' : LH) : Prop where
  n : H.n ≤ H'.n
  keep : ∀ k, k < H.n → k ≠ p → offRow v k → H'.get k = H.get k
  off : ∀ k, k < H.n → k ≠ p → offRow v k → offRow v' k
  base : H'.base = H.base
  ng : H'.ng = H.ng
section
variable {p : Nat} {v v' v1 : Value} {H H' H1 : LH} {B : LB}
theorem Kp.refl : Kp p v H v H := ⟨Nat.le_refl _, fun _ _ _ _ => rfl, fun _ _ _ h => h, rfl, rfl⟩
theorem Kp.trans (h : Kp p v H v1 H1) (k : Kp p v1 H1 v' H') : Kp p v H v' H' :=
  ⟨Nat.le_trans h.n k.n, fun l hl hp ho => (k.keep l (Nat.lt_of_lt_of_le hl h.n) hp (h.off l hl hp ho)).trans (h.keep l hl hp ho),
    fun l hl hp ho => k.off l (Nat.lt_of_lt_of_le hl h.n) hp (h.off l hl hp ho), k.base.trans h.base, k.ng.trans h.ng⟩
theorem Kp.set (ho : ∀ k, offRow v k → offRow v' k) : Kp p v H v' (H.set p B) := ⟨Nat.le_refl _, fun _ _ hp _ => get_set_ne hp, fun k _ _ h => ho k h, rfl, rfl⟩
theorem Kp.new : Kp p v H v (H.new B) := ⟨Nat.le_succ _, fun _ hl _ _ => get_new_ne (by omega), fun _ _ _ h => h, rfl, rfl⟩
theorem Kp.le (h : Kp p v H1 v' H') (hn : H.n ≤ H1.n) (hp : H.n ≤ p) (hv : ∀ k, k < H.n → offRow v k) (hg : ∀ k, k < H.n → H1.get k = H.get k) : H.le H' :=
  ⟨Nat.le_trans hn h.n, fun l hl => (h.keep l (by omega) (by omega) (hv l hl)).trans (hg l hl)⟩
end
end Go.Lg

set_option linter.unusedSimpArgs false
set_option linter.unusedVariables false
set_option maxRecDepth 100000
namespace Go.Proofs.YthgcgjpbhbikaaaGreatDoor
open Go.Lg Go.Tg
structure Bld (N : Nat) (H : LH) (b : Nat) (l : List UInt8) (v : Value) : Prop where
  get : ∃ p, H.get b = some ⟨[p, v], 84, true⟩ ∧ (p = .pointer none ∨ p = ptr b 0)
  row : RowN N H 5 1 v l.length (l.map bv)
  full : Full v
  off : offRow v b
  lt : b < H.n
  N : N ≤ H.n
  nil : l = [] → v = .slice none 0 0
section
variable {H : LH} {N b : Nat} {l s : List UInt8} {v : Value} {c : UInt8}
theorem copy_l (h : Bld N H b l v) : LC Tryz.prog EJ 75 [ptr b 0] H = some (.tuple #[], H.set b ⟨[ptr b 0, v], 84, true⟩) ∨ (H.get b = some ⟨[ptr b 0, v], 84, true⟩ ∧ LC Tryz.prog EJ 75 [ptr b 0] H = some (.tuple #[], H)) := by
  obtain ⟨p, hg, hp⟩ := h.get
  rcases hp with rfl | rfl
  · left
    refine LC_ext (s := specCopy) rfl ?_
    unfold specCopy
    simp only [hg]
    rw [if_pos trivial]
  · right
    refine ⟨hg, LC_ext (s := specCopy) rfl ?_⟩
    unfold specCopy
    simp only [hg]
    rw [if_pos trivial]
theorem copy_ex (h : Bld N H b l v) : ∃ H1, LC Tryz.prog EJ 75 [ptr b 0] H = some (.tuple #[], H1) ∧ H1.get b = some ⟨[ptr b 0, v], 84, true⟩ ∧ H1.n = H.n ∧ (∀ k, k ≠ b → H1.get k = H.get k) ∧ H1.base = H.base ∧ H1.ng = H.ng := by
  rcases copy_l h with e | ⟨hg, e⟩
  · exact ⟨_, e, by simp, by simp, fun k hk => get_set_ne hk, rfl, rfl⟩
  · exact ⟨_, e, hg, rfl, fun _ _ => rfl, rfl, rfl⟩
theorem row_other {H1 : LH} {v : Value} {n : Nat} {xs : List Value} (h : RowN N H 5 1 v n xs) (ho : offRow v b) (hn : H1.n = H.n) (hk : ∀ k, k ≠ b → H1.get k = H.get k) : RowN N H1 5 1 v n xs := by
  refine ⟨h.1, ?_⟩
  rcases h.2 with h2 | ⟨k, c, rest, rfl, h1, h2, h3, h4, h5⟩
  · exact .inl h2
  · refine .inr ⟨k, c, rest, rfl, h1, by omega, ?_, h4, h5⟩
    rw [hk k (fun e => ho n c (by rw [e]))]; exact h3
theorem bv_cells (l : List UInt8) : (l.map bv).all cellB = true := by simp [bv]
theorem bld_trunc {H3 : LH} {v' u : Value} {l' : List UInt8} (h : Bld N H b l v) (h3 : Bld N H3 b l' v') (hk : Kp b v H v' H3) : ∃ H4, trunc H (u, H3) = (u, H4) ∧ Bld N H4 b l' v' ∧ Kp b v H v' H4 := by
  rcases trunc_or u H H3 with e | ⟨e, _, hle⟩
  · exact ⟨H3, e, h3, hk⟩
  · refine ⟨H, e, ?_⟩
    obtain ⟨p, hg, hp⟩ := h.get
    obtain ⟨p', hg', hp'⟩ := h3.get
    rw [hle.2 b h.lt, hg] at hg'
    injection hg' with hg'
    injection hg' with hg'
    simp only [List.cons.injEq, and_true] at hg'
    obtain ⟨rfl, rfl⟩ := hg'
    refine ⟨⟨⟨p, hg, hp⟩, ⟨h3.row.1, ?_⟩, h.full, h.off, h.lt, h.N, h3.nil⟩, Kp.refl⟩
    rcases h3.row.2 with h2 | ⟨k, c, rest, rfl, g1, g2, g3, g4, g5⟩
    · exact .inl h2
    · have hkn : k < H.n := by
        rcases h.row.2 with ⟨h5, _⟩ | ⟨k', c', rest', h5, _, h6, _⟩
        · cases h5
        · injection h5 with h5; injection h5 with h5; injection h5 with h5; omega
      exact .inr ⟨k, c, rest, rfl, g1, hkn, by rw [← hle.2 k hkn]; exact g3, g4, g5⟩
theorem wstr_ex (h : Bld N H b l v) (hlen : l.length + s.length ≤ maxElems) :
    ∃ v' H', LC Tryz.prog EJ 52 [ptr b 0, str s] H = some (.tuple #[.int .i64 s.length, .nilIface], H') ∧ Bld N H' b (l ++ s) v' ∧ Kp b v H v' H' := by
  obtain ⟨H1, hc, hg1, hn1, hk1, hb1, hng1⟩ := copy_ex h
  have hrow1 := row_other h.row h.off hn1 hk1
  obtain ⟨v', H2, ha, hr2, hkept, hf⟩ := hrow1.app (t := 59) (new := s.map bv) (m := s.length) Tryz.underlying59 (by kernel_rfl) (bv_cells s) (by simp) hlen (by rw [hn1]; exact h.N) (.inr h.full)
  have hblt : b < H1.n := by rw [hn1]; exact h.lt
  have hg2 : H2.get b = some ⟨[ptr b 0, v], 84, true⟩ := by rw [hkept.get b hblt h.off]; exact hg1
  have hap : lbuiltin Tryz.prog .append [59, 9] [v, str s] H1 = some (v', H2) := by
    rw [lbuiltin_appends (e := 5) (by decide) Tryz.underlying59 Tryz.underlying9 (by kernel_rfl) (by kernel_rfl) (by kernel_rfl)]
    exact ha
  have hcell : cellB v' = true := hr2.cell
  have hoff' := hkept.off b hblt h.off
  obtain ⟨r, hr, h1, h2⟩ := LC_runs (P := Tryz.prog) (E := EJ) (f := 52) rfl Tryz.func52 rfl (Nat.le_of_ble_eq_true rfl) (by decide) (by kernel_rfl) (H := H) (args := [ptr b 0, str s]) (Q := fun r => r.1 = .tuple #[.int .i64 s.length, .nilIface] ∧ r.2 = H2.set b ⟨[ptr b 0, v'], 84, true⟩) (by
    simp [hc, hg1, hap, hg2, hcell])
  obtain ⟨u, H3⟩ := r
  simp only at h1 h2
  subst h1 h2
  have hset : Bld N (H2.set b ⟨[ptr b 0, v'], 84, true⟩) b (l ++ s) v' := by
    refine ⟨⟨_, get_set, .inr rfl⟩, ?_, hf h.full, hoff', Nat.lt_of_lt_of_le hblt hkept.le, ?_, ?_⟩
    · have := row_other (b := b) (H1 := H2.set b ⟨[ptr b 0, v'], 84, true⟩) hr2 hoff' rfl (fun k hk => get_set_ne hk)
      rw [List.length_append, List.map_append]; exact this
    · exact Nat.le_trans h.N (by rw [← hn1]; exact hkept.le)
    · intro e
      obtain ⟨e1, e2⟩ := List.append_eq_nil_iff.1 e
      have hv := h.nil e1
      subst hv e2
      rw [List.map_nil, List.length_nil, lapp_nil0 (s := 1) Tryz.underlying59 (by kernel_rfl)] at ha
      simp only [Option.some.injEq, Prod.mk.injEq] at ha
      exact ha.1.symm
  have hkp : Kp b v H v' (H2.set b ⟨[ptr b 0, v'], 84, true⟩) := by
    refine ⟨by rw [← hn1]; exact hkept.le, fun k hk hkb ho => ?_, fun k hk hkb ho => hkept.off k (by omega) ho, by simp [hkept.base, hb1], by simp [hkept.ng, hng1]⟩
    rw [get_set_ne hkb, hkept.get k (by omega) ho, hk1 k hkb]
  obtain ⟨H4, e1, e2, e3⟩ := bld_trunc h hset hkp
  exact ⟨_, H4, by rw [hr, e1], e2, e3⟩
theorem wbyte_ex (h : Bld N H b l v) (hlen : l.length + 1 ≤ maxElems) :
    ∃ v' H', LC Tryz.prog EJ 65 [ptr b 0, .int .u8 c.toNat] H = some (.nilIface, H') ∧ Bld N H' b (l ++ [c]) v' ∧ Kp b v H v' H' := by
  obtain ⟨H1, hc, hg1, hn1, hk1, hb1, hng1⟩ := copy_ex h
  have hrow1 := row_other h.row h.off hn1 hk1
  have hblt : b < H1.n := by rw [hn1]; exact h.lt
  have hrow2 : RowN N (H1.new ⟨[.int .u8 c.toNat], 5, true⟩) 5 1 v l.length (l.map bv) := hrow1.keep (Nat.le_succ _) (fun k _ _ hk => get_new_ne (by omega))
  obtain ⟨v', H2, ha, hr2, hkept, hf⟩ := hrow2.app (t := 59) (new := [c].map bv) (m := 1) Tryz.underlying59 (by kernel_rfl) (bv_cells [c]) (by simp) hlen (by rw [n_new, hn1]; have := h.N; omega) (.inr h.full)
  have hg2 : H2.get b = some ⟨[ptr b 0, v], 84, true⟩ := by rw [hkept.get b (by rw [n_new]; omega) h.off, get_new_ne (by omega)]; exact hg1
  simp only [List.map_cons, List.map_nil, bv] at ha
  have hcell : cellB v' = true := hr2.cell
  have hoff' := hkept.off b (by rw [n_new]; omega) h.off
  obtain ⟨r, hr, h1, h2⟩ := LC_runs (P := Tryz.prog) (E := EJ) (f := 65) rfl Tryz.func65 rfl (Nat.le_of_ble_eq_true rfl) (by decide) (by kernel_rfl) (H := H) (args := [ptr b 0, .int .u8 c.toNat]) (Q := fun r => r.1 = .nilIface ∧ r.2 = H2.set b ⟨[ptr b 0, v'], 84, true⟩) (by
    have hbn : b ≠ H1.n := by omega
    simp [hc, hg1, ha, hg2, hcell, hbn])
  obtain ⟨u, H3⟩ := r
  simp only at h1 h2
  subst h1 h2
  have hle2 : H1.n + 1 ≤ H2.n := hkept.le
  have hset : Bld N (H2.set b ⟨[ptr b 0, v'], 84, true⟩) b (l ++ [c]) v' := by
    refine ⟨⟨_, get_set, .inr rfl⟩, ?_, hf h.full, hoff', by rw [n_set]; omega, ?_, fun e => by simp at e⟩
    · have := row_other (b := b) (H1 := H2.set b ⟨[ptr b 0, v'], 84, true⟩) hr2 hoff' rfl (fun k hk => get_set_ne hk)
      rw [List.length_append, List.map_append]; exact this
    · have := h.N; rw [n_set]; omega
  have hkp : Kp b v H v' (H2.set b ⟨[ptr b 0, v'], 84, true⟩) := by
    refine ⟨by rw [n_set]; omega, fun k hk hkb ho => ?_, fun k hk hkb ho => hkept.off k (by rw [n_new]; omega) ho, by simp [hkept.base, hb1], by simp [hkept.ng, hng1]⟩
    rw [get_set_ne hkb, hkept.get k (by rw [n_new]; omega) ho, get_new_ne (by omega), hk1 k hkb]
  obtain ⟨H4, e1, e2, e3⟩ := bld_trunc h hset hkp
  exact ⟨_, H4, by rw [hr, e1], e2, e3⟩
theorem bstr_ex (h : Bld N H b l v) (hm : l.length ≤ maxLen) : ∃ H', LC Tryz.prog EJ 53 [ptr b 0] H = some (str l, H') ∧ H'.n = H.n ∧ ∀ k, k < N → H'.get k = H.get k := by
  obtain ⟨p, hg, hp⟩ := h.get
  rcases h.row.2 with ⟨rfl, h0⟩ | ⟨k, c, rest, rfl, g1, g2, g3, g4, g5⟩
  · have hl : l = [] := List.eq_nil_of_length_eq_zero h0
    subst hl
    refine ⟨H, LC_ext (s := specBStr) rfl ?_, rfl, fun _ _ => rfl⟩
    unfold specBStr
    simp only [hg]
  · rcases Nat.eq_zero_or_pos l.length with h0 | h0
    · exfalso
      have := h.nil (List.eq_nil_of_length_eq_zero h0)
      cases this
    · refine ⟨H.kill k, LC_ext (s := specBStr) rfl ?_, rfl, fun j hj => get_kill_ne (by omega)⟩
      have htk : (l.map bv ++ rest).take l.length = l.map bv := by simp
      unfold specBStr
      simp only [hg, g3]
      rw [if_pos ⟨l, by intro e; rw [e] at h0; simp at h0, htk, rfl, g4, hm, rfl⟩, htk, lbs_map]
      rfl
end
end Go.Proofs.YthgcgjpbhbikaaaGreatDoor

set_option linter.unusedSimpArgs false
set_option linter.unusedVariables false
set_option maxRecDepth 100000
namespace Go.Proofs.YthgcgjpbhbikaaaGreatDoor
open Go.Lg Go.Tg
section
variable {H : LH} {b : UInt8} {s p : List UInt8}
theorem digit_cl : LC Tryz.prog EJ 87 [.int .u8 b.toNat] H = some (.bool (Tg.Ur.isD b), H) := by
  refine LC_pure rfl Tryz.func87 rfl (Nat.le_of_ble_eq_true rfl) (by decide) (by kernel_rfl) rfl ?_
  unfold Tg.Ur.isD
  by_cases h1 : (48 : Int) ≤ b.toNat <;> by_cases h2 : (b.toNat : Int) ≤ 57 <;> simp [h1, h2]
theorem Digit_cl : LC Tryz.prog EJ 131 [.int .u8 b.toNat] H = some (.bool (Tg.Ur.isD b), H) := by
  refine LC_pure rfl Tryz.func131 rfl (Nat.le_of_ble_eq_true rfl) (by decide) (by kernel_rfl) rfl ?_
  simp [digit_cl]
theorem wrap8 {n : Int} : IntKind.u8.wrap n = n % 256 := IntKind.wrap_u8 _
theorem hex_cl : LC Tryz.prog EJ 63 [.int .u8 b.toNat] H = some (.tuple #[.int .i64 ((Tg.Ur.hx b).getD 0 : Nat), .bool (Tg.Ur.hx b).isSome], H) := by
  refine LC_pure rfl Tryz.func63 rfl (Nat.le_of_ble_eq_true rfl) (by decide) (by kernel_rfl) rfl ?_
  have hlt := b.toNat_lt
  have hdl := digit_cl (H := H) (b := b)
  unfold Tg.Ur.isD at hdl
  unfold Tg.Ur.hx
  have w : ∀ x : Int, 0 ≤ x → x ≤ 255 → IntKind.u8.wrap x = x := fun x h1 h2 => by rw [wrap8]; omega
  have w6 : ∀ x : Int, 0 ≤ x → x ≤ 265 → IntKind.i64.wrap x = x := fun x h1 h2 => wrap64_in (by omega) (by omega)
  by_cases h1 : (48 : Int) ≤ b.toNat ∧ (b.toNat : Int) ≤ 57
  · have e := w ((b.toNat : Int) - 48) (by omega) (by omega)
    have e6 := w6 ((b.toNat : Int) - 48) (by omega) (by omega)
    have e2 : ((b.toNat - 48 : Nat) : Int) = (b.toNat : Int) - 48 := by omega
    simp [h1] at hdl
    simp [hdl, h1, e, e6, e2]
  · have hd : (decide ((48 : Int) ≤ b.toNat) && decide ((b.toNat : Int) ≤ 57)) = false := by
      rw [Bool.and_eq_false_iff, decide_eq_false_iff_not, decide_eq_false_iff_not]; omega
    rw [hd] at hdl
    rw [if_neg h1]
    by_cases h3 : (97 : Int) ≤ b.toNat
    · by_cases h4 : (b.toNat : Int) ≤ 102
      · have e := w ((b.toNat : Int) - 97) (by omega) (by omega)
        have e6 := w6 ((b.toNat : Int) - 97) (by omega) (by omega)
        have e7 := w6 ((b.toNat : Int) - 97 + 10) (by omega) (by omega)
        have e2 : ((b.toNat - 87 : Nat) : Int) = (b.toNat : Int) - 97 + 10 := by omega
        simp [hdl, h3, h4, e, e6, e7, e2]
      · have h5 : (65 : Int) ≤ b.toNat := by omega
        have h6 : ¬ (b.toNat : Int) ≤ 70 := by omega
        simp [hdl, h3, h4, h5, h6]
    · by_cases h5 : (65 : Int) ≤ b.toNat
      · by_cases h6 : (b.toNat : Int) ≤ 70
        · have e := w ((b.toNat : Int) - 65) (by omega) (by omega)
          have e6 := w6 ((b.toNat : Int) - 65) (by omega) (by omega)
          have e7 := w6 ((b.toNat : Int) - 65 + 10) (by omega) (by omega)
          have e2 : ((b.toNat - 55 : Nat) : Int) = (b.toNat : Int) - 65 + 10 := by omega
          simp [hdl, h3, h5, h6, e, e6, e7, e2]
        · simp [hdl, h3, h5, h6]
      · simp [hdl, h3, h5]
theorem great_cl : LC Tryz.prog EJ 151 [.int .u8 b.toNat] H = some (.bool (decide ((65 : Int) ≤ b.toNat) && decide ((b.toNat : Int) ≤ 90)), H) := by
  refine LC_pure rfl Tryz.func151 rfl (Nat.le_of_ble_eq_true rfl) (by decide) (by kernel_rfl) rfl ?_
  by_cases h1 : (65 : Int) ≤ b.toNat <;> by_cases h2 : (b.toNat : Int) ≤ 90 <;> simp [h1, h2]
theorem wrapI {x : Int} (h1 : -9223372036854775808 ≤ x) (h2 : x ≤ 9223372036854775807) : IntKind.i64.wrap x = x := wrap64_in h1 h2
theorem at_in {s : List UInt8} {i : Nat} (h : i < s.length) : at_ s (i : Int) = s[i] := by
  unfold at_
  rw [show ((i : Nat) : Int).toNat = i by omega, List.getD_eq_getElem?_getD, List.getElem?_eq_getElem h]; rfl
theorem count_cl {g : FuncId} {q : UInt8 → Bool} (hg : ∀ (b : UInt8) (H : LH), LC Tryz.prog EJ g [.int .u8 b.toNat] H = some (.bool (q b), H)) (hs : s.length ≤ 9223372036854775806) :
    LC Tryz.prog EJ 142 [str s, .func (.func g) #[] #[]] H = some (.int .i64 (s.countP q : Nat), H) := by
  refine LC_pure rfl Tryz.func142 rfl (Nat.le_of_ble_eq_true rfl) (by decide) (by kernel_rfl) rfl ?_
  have hfn := lbin_fn_ne (g := g) (f := #[]) (cp := #[]) Tryz.underlying62
  simp
  refine loop_ind (fun (i : Nat) fr' H' => fr' 0 = str s ∧ fr' 1 = .func (.func g) #[] #[] ∧ fr' 5 = .int .i64 ((s.take i).countP q : Nat) ∧ fr' 6 = .int .i64 i ∧ i ≤ s.length ∧ H' = H) (fun i => s.length - i) 0 (by simp) ?_
  rintro i fr' H' ⟨h0, h1, h5, h6, hi, rfl⟩ ih
  by_cases hlt : i < s.length
  · have hat := at_in hlt
    have ht : s.take (i + 1) = s.take i ++ [s[i]] := List.take_succ_eq_append_getElem hlt
    have hw : IntKind.i64.wrap ((i : Int) + 1) = ((i + 1 : Nat) : Int) := by rw [wrapI (by omega) (by omega)]; omega
    have hle : (s.take i).countP q ≤ i := Nat.le_trans List.countP_le_length (by simp; omega)
    have hw2 : IntKind.i64.wrap (((s.take i).countP q : Nat) + 1 : Int) = (((s.take i).countP q + 1 : Nat) : Int) := by rw [wrapI (by omega) (by omega)]; omega
    have hn : (s.take (i + 1)).countP q = (s.take i).countP q + if q s[i] = true then 1 else 0 := by rw [ht, List.countP_append]; simp [List.countP_cons]
    generalize (s.take i).countP q = m at *
    generalize hi1 : i + 1 = i1 at *
    cases hq : q s[i] with
    | true =>
      rw [hq, if_pos rfl] at hn
      generalize hm1 : m + 1 = m1 at *
      simp [hfn, h0, h1, h5, h6, hlt, hat, hg, hq, hw, hw2]
      exact ih i1 _ _ (by omega) ⟨by simp [h0], by simp [h1], by simp [hn], by simp, by omega, rfl⟩
    | false =>
      rw [hq, if_neg (by simp)] at hn
      simp [hfn, h0, h1, h5, h6, hlt, hat, hg, hq, hw]
      exact ih i1 _ _ (by omega) ⟨by simp [h0], by simp [h1], by simp [hn, h5], by simp, by omega, rfl⟩
  · have e : s.take i = s := List.take_of_length_le (by omega)
    rw [e] at h5
    simp [hfn, h0, h1, h5, h6, hlt]
theorem all_cl {g : FuncId} {q : UInt8 → Bool} (hg : ∀ (b : UInt8) (H : LH), LC Tryz.prog EJ g [.int .u8 b.toNat] H = some (.bool (q b), H)) (hs : s.length ≤ 9223372036854775806) :
    LC Tryz.prog EJ 132 [str s, .func (.func g) #[] #[]] H = some (.bool (s.all q), H) := by
  refine LC_pure rfl Tryz.func132 rfl (Nat.le_of_ble_eq_true rfl) (by decide) (by kernel_rfl) rfl ?_
  have e : decide (s.countP q = s.length) = s.all q := by
    rw [Bool.eq_iff_iff, decide_eq_true_eq, List.countP_eq_length, List.all_eq_true]
  have e2 : (((s.countP q : Nat) : Int) = (s.length : Int)) = (s.countP q = s.length) := by apply propext; omega
  rw [← e]
  simp [count_cl hg hs, e2]
end
end Go.Proofs.YthgcgjpbhbikaaaGreatDoor

set_option linter.unusedSimpArgs false
set_option linter.unusedVariables false
set_option maxRecDepth 100000
namespace Tg.Ur
end Tg.Ur
namespace Go.Proofs.YthgcgjpbhbikaaaGreatDoor
open Go.Lg Go.Tg
section
variable {H : LH} {b : UInt8} {s p : List UInt8}
theorem dw_le {q : UInt8 → Bool} (s : List UInt8) : (s.dropWhile q).length ≤ s.length := (List.dropWhile_suffix q).length_le
end
end Go.Proofs.YthgcgjpbhbikaaaGreatDoor

set_option linter.unusedSimpArgs false
set_option linter.unusedVariables false
set_option maxRecDepth 100000
namespace Tg.Ur
def escP (s : List UInt8) : List UInt8 × Bool :=
  match s with
  | 37 :: x :: y :: _ => ([37, hd16 ((hx x).getD 0), hd16 ((hx y).getD 0)], (hx x).isSome && (hx y).isSome)
  | _ => ([], false)
end Tg.Ur
namespace Go.Proofs.YthgcgjpbhbikaaaGreatDoor
open Go.Lg Go.Tg
section
variable {H : LH} {b : UInt8} {s p : List UInt8}
theorem esc_len {s e : List UInt8} (h : Tg.Ur.esc s = some e) : e.length = 3 ∧ 3 ≤ s.length := by
  unfold Tg.Ur.esc at h
  split at h
  · split at h
    · injection h with h; subst h; simp
    · cases h
  · cases h
theorem Bld.new {N b : Nat} {l : List UInt8} {v : Value} {x : LB} (h : Bld N H b l v) : Bld N (H.new x) b l v :=
  ⟨by obtain ⟨p, hg, hp⟩ := h.get; exact ⟨p, by rw [get_new_ne (by have := h.lt; omega)]; exact hg, hp⟩, h.row.keep (Nat.le_succ _) (fun k _ _ hk => get_new_ne (by omega)), h.full, h.off, by rw [n_new]; have := h.lt; omega, by rw [n_new]; have := h.N; omega, h.nil⟩
theorem Bld.off_lt {N b k : Nat} {l : List UInt8} {v : Value} (h : Bld N H b l v) (hk : k < N) : offRow v k := by
  intro n c e
  rcases h.row.2 with ⟨rfl, _⟩ | ⟨k', c', rest, rfl, g1, _⟩
  · cases e
  · injection e with e; injection e with e; injection e with e; omega
theorem Bld.first : Bld H.n (H.new ⟨[.pointer none, .slice none 0 0], 84, true⟩) H.n [] (.slice none 0 0) :=
  ⟨⟨_, get_new, .inl rfl⟩, RowN.nil, (by unfold Full; simp), (fun _ _ e => by cases e), (by rw [n_new]; omega), (by rw [n_new]; omega), fun _ => rfl⟩
theorem wstr_k {N b : Nat} {l s : List UInt8} {v : Value} (h : Bld N H b l v) (hN : N ≤ b) (hlen : l.length + s.length ≤ maxElems) :
    ∃ v' H', LC Tryz.prog EJ 52 [ptr b 0, str s] H = some (.tuple #[.int .i64 s.length, .nilIface], H') ∧ Bld N H' b (l ++ s) v' ∧ ∀ k, k < N → H'.get k = H.get k := by
  obtain ⟨v', H', e, hb, hk⟩ := wstr_ex h hlen
  exact ⟨v', H', e, hb, fun k hk2 => hk.keep k (by have := h.lt; omega) (by omega) (h.off_lt hk2)⟩
theorem wbyte_k {N b : Nat} {l : List UInt8} {v : Value} {c : UInt8} (h : Bld N H b l v) (hN : N ≤ b) (hlen : l.length + 1 ≤ maxElems) :
    ∃ v' H', LC Tryz.prog EJ 65 [ptr b 0, .int .u8 c.toNat] H = some (.nilIface, H') ∧ Bld N H' b (l ++ [c]) v' ∧ ∀ k, k < N → H'.get k = H.get k := by
  obtain ⟨v', H', e, hb, hk⟩ := wbyte_ex h hlen
  exact ⟨v', H', e, hb, fun k hk2 => hk.keep k (by have := h.lt; omega) (by omega) (h.off_lt hk2)⟩
theorem idx_lt (l : List UInt8) (c : UInt8) : l.contains c = !decide (Lib.indexByte l c < 0) := by
  induction l with
  | nil => rfl
  | cons x l ih =>
    have hge := Lib.indexByte_ge l c
    rw [List.contains_cons]
    unfold Lib.indexByte
    by_cases hx : x = c
    · subst hx; simp
    · have hx1 : (x == c) = false := by simp [hx]
      have hx2 : (c == x) = false := by simp; exact fun e => hx e.symm
      rw [hx1, hx2, ih]
      simp only [Bool.false_or, Bool.false_eq_true, if_false]
      by_cases h1 : Lib.indexByte l c = -1
      · simp [h1]
      · have : (Lib.indexByte l c == -1) = false := by simp [h1]
        rw [this]
        simp only [Bool.false_eq_true, if_false]
        congr 2
        rw [eq_iff_iff]; omega
theorem nibF : ∀ k : Fin 256, (k.1 : Int).fdiv (2 ^ (min 4 8)) = ((k.1 / 16 : Nat) : Int) ∧ bAnd .u8 (k.1 : Int) 15 = ((k.1 % 16 : Nat) : Int) := by decide +kernel
theorem nib (b : UInt8) : (b.toNat : Int).fdiv 16 = ((b.toNat / 16 : Nat) : Int) ∧ bAnd .u8 (b.toNat : Int) 15 = ((b.toNat % 16 : Nat) : Int) ∧ b.toNat / 16 < 16 ∧ b.toNat % 16 < 16 := by
  have hlt := b.toNat_lt
  have := nibF ⟨b.toNat, hlt⟩
  exact ⟨this.1, this.2, by omega, by omega⟩
end
end Go.Proofs.YthgcgjpbhbikaaaGreatDoor

set_option linter.unusedSimpArgs false
set_option linter.unusedVariables false
namespace Tg.Sc
open Go
theorem cutIdx (c : UInt8) : ∀ s : List UInt8, (Lib.indexByte s c = -1 → cutAt c s = [s]) ∧ ∀ i : Nat, Lib.indexByte s c = i → cutAt c s = s.take i :: cutAt c (s.drop (i + 1))
  | [] => ⟨fun _ => rfl, fun i h => by simp [Lib.indexByte] at h⟩
  | b :: r => by
    obtain ⟨h1, h2⟩ := cutIdx c r
    have hge := Lib.indexByte_ge r c
    unfold Lib.indexByte
    by_cases hb : b = c
    · subst hb
      constructor
      · intro h; simp at h
      · intro i h
        have : i = 0 := by simp at h; omega
        subst this
        simp [cutAt]
    · have hb1 : (b == c) = false := by simp [hb]
      rw [hb1]
      simp only [Bool.false_eq_true, if_false]
      by_cases hm : Lib.indexByte r c = -1
      · constructor
        · intro _; unfold cutAt; rw [if_neg hb, h1 hm]
        · intro i h; simp [hm] at h
      · have hm1 : (Lib.indexByte r c == -1) = false := by simp [hm]
        rw [hm1]
        simp only [Bool.false_eq_true, if_false]
        constructor
        · intro h; omega
        · intro i h
          obtain ⟨j, rfl⟩ : ∃ j, i = j + 1 := ⟨i - 1, by omega⟩
          have e := h2 j (by omega)
          conv => lhs; unfold cutAt
          rw [if_neg hb, e]
          rfl
theorem splitK_cut (c : UInt8) : ∀ (n : Nat) (s : List UInt8), s.length ≤ n → Lib.splitK [c] 0 (Lib.count s [c]) s = cutAt c s ∧ Lib.count s [c] ≤ s.length
  | n, s, h => by
    obtain ⟨h1, h2⟩ := cutIdx c s
    have hge := Lib.indexByte_ge s c
    by_cases hm : Lib.indexByte s c = -1
    · have hi : Lib.index s [c] = -1 := by rw [Lib.index_one]; exact hm
      rw [Lib.count_miss hi, h1 hm]
      exact ⟨rfl, by omega⟩
    · obtain ⟨i, hi⟩ : ∃ i : Nat, Lib.indexByte s c = i := ⟨(Lib.indexByte s c).toNat, by omega⟩
      have hi2 : Lib.index s [c] = i := by rw [Lib.index_one]; exact hi
      have hlt : i < s.length := by
        have := (Lib.indexByte_some hi).1
        rcases Nat.lt_or_ge i s.length with g | g
        · exact g
        · rw [List.getElem?_eq_none g] at this; cases this
      rw [Lib.count_hit (by simp) hi2, h2 i hi]
      cases n with
      | zero => omega
      | succ n =>
        have ih := splitK_cut c n (s.drop (i + 1)) (by rw [List.length_drop]; omega)
        rw [Nat.add_comm 1]
        constructor
        · show (if Lib.index s [c] == -1 then [s] else s.take ((Lib.index s [c]).toNat + 0) :: Lib.splitK [c] 0 (Lib.count (s.drop (i + 1)) [c]) (s.drop ((Lib.index s [c]).toNat + 1))) = _
          rw [hi2, if_neg (by simp), Int.toNat_natCast, ih.1]
          rfl
        · have h3 := ih.2
          rw [List.length_drop] at h3
          show Lib.count (s.drop (i + 1)) [c] + 1 ≤ _
          omega
theorem ba_str (x : ByteArray) : Value.string x = Go.Lg.str x.data.toList := by
  unfold Go.Lg.str; rfl
theorem cut_rows (c : UInt8) (s : List UInt8) : (Lib.splitB ⟨[c].toArray⟩ 0 (Lib.countB ⟨s.toArray⟩ ⟨[c].toArray⟩) ⟨s.toArray⟩).map Value.string = (cutAt c s).map Go.Lg.str ∧ (cutAt c s).length = Lib.countB ⟨s.toArray⟩ ⟨[c].toArray⟩ + 1 ∧ (Lib.splitB ⟨[c].toArray⟩ 0 (Lib.countB ⟨s.toArray⟩ ⟨[c].toArray⟩) ⟨s.toArray⟩).length = Lib.countB ⟨s.toArray⟩ ⟨[c].toArray⟩ + 1 ∧ Lib.countB ⟨s.toArray⟩ ⟨[c].toArray⟩ ≤ s.length := by
  have e := Lib.splitB_data ⟨[c].toArray⟩ 0 (Lib.countB ⟨s.toArray⟩ ⟨[c].toArray⟩) ⟨s.toArray⟩
  have hp := splitK_cut c s.length s (Nat.le_refl _)
  have e2 : (Lib.splitB ⟨[c].toArray⟩ 0 (Lib.countB ⟨s.toArray⟩ ⟨[c].toArray⟩) ⟨s.toArray⟩).map (·.data.toList) = cutAt c s := e.trans hp.1
  have hl := Lib.splitB_all ⟨[c].toArray⟩ (Nat.le_refl 1) 0 (Lib.countB ⟨s.toArray⟩ ⟨[c].toArray⟩) ⟨s.toArray⟩ rfl
  refine ⟨?_, ?_, hl, hp.2⟩
  · rw [← e2, List.map_map]
    exact List.map_congr_left (fun x _ => ba_str x)
  · rw [← e2, List.length_map, hl]
theorem cut_len (c : UInt8) : ∀ s : List UInt8, ∀ p ∈ cutAt c s, p.length ≤ s.length
  | [], p, h => by simp [cutAt] at h; subst h; simp
  | b :: r, p, h => by
    have ih := cut_len c r
    unfold cutAt at h
    split at h
    · rcases List.mem_cons.mp h with rfl | h
      · simp
      · have := ih p h; simp; omega
    · split at h
      · simp at h; subst h; simp
      · rename_i q l hq
        rcases List.mem_cons.mp h with rfl | h
        · have := ih q (by rw [hq]; simp); simp; omega
        · have := ih p (by rw [hq]; simp [h]); simp; omega
theorem wl_join : ∀ {l : List (List UInt8)}, Lib.join l [32] = wl l
  | [] => rfl
  | [w] => by unfold Lib.join wl; simp [List.intercalate]
  | w :: v :: l => by
    have ih := wl_join (l := v :: l)
    unfold Lib.join at ih ⊢
    unfold wl
    rw [← ih]
    simp [List.intercalate, List.intersperse]
theorem hexv_hx (b : UInt8) : (Tg.Ur.hx b).getD 0 = hexv b := by
  unfold Tg.Ur.hx hexv
  split
  · rfl
  · split
    · rfl
    · split <;> rfl
end Tg.Sc

set_option linter.unusedSimpArgs false
set_option linter.unusedVariables false
namespace Tg.Ur
open Go
theorem ba_str (x : ByteArray) : Value.string x = Go.Lg.str x.data.toList := by
  unfold Go.Lg.str; rfl
end Tg.Ur

set_option linter.unusedSimpArgs false
set_option linter.unusedVariables false
set_option maxRecDepth 100000
namespace Go.Proofs.YthgcgjpbhbikaaaGreatDoor
open Go.Lg Go.Tg
section
variable {H : LH} {b : UInt8} {s p : List UInt8}
theorem out_app {v : Value} {acc : List (List UInt8)} {N : Nat} {x : List UInt8} (h : RowN N H 9 1 v acc.length (acc.map str)) (hN : N ≤ H.n) (hl : acc.length ≤ 100000) :
    ∃ v' H2, lapp Tryz.prog 40 v (some (1, [str x])) (H.new ⟨[str x], 9, true⟩) = some (v', H2) ∧ RowN N H2 9 1 v' (acc ++ [x]).length ((acc ++ [x]).map str) ∧ N ≤ H2.n ∧ ∀ k, k < N → H2.get k = H.get k := by
  have h2 : RowN N (H.new ⟨[str x], 9, true⟩) 9 1 v acc.length (acc.map str) := h.keep (Nat.le_succ _) (fun k _ _ hk => get_new_ne (by omega))
  obtain ⟨v', H2, ha, hr, hk, _⟩ := h2.app (t := 40) (new := [x].map str) (m := 1) Tryz.underlying40 (by kernel_rfl) (by simp) (by simp) (by unfold maxElems; omega) (by rw [n_new]; omega) (.inl (Nat.le_refl 1))
  refine ⟨v', H2, ha, by rw [List.length_append, List.map_append]; exact hr, Nat.le_trans (by rw [n_new]; omega) hk.le, fun k hkn => ?_⟩
  rw [hk.get k (by rw [n_new]; omega) (h.off_lt hkn), get_new_ne (by omega)]
end
end Go.Proofs.YthgcgjpbhbikaaaGreatDoor

set_option linter.unusedSimpArgs false
set_option linter.unusedVariables false
namespace Tg.Nu
def isD (b : UInt8) : Bool := decide (48 ≤ (b.toNat : Int)) && decide ((b.toNat : Int) ≤ 57)
def isE (b : UInt8) : Bool := decide (b = 101) || decide (b = 69)
def wh (st : Nat) : Bool := st == 2 || st == 3 || st == 5 || st == 8
def nx (st : Nat) (b : UInt8) : Nat :=
  if st = 0 ∨ st = 1 then
    if b = 45 ∧ st = 0 then 1 else if b = 48 then 2 else if isD b then 3 else 9
  else if (st = 4 ∨ st = 5) ∧ isD b then 5
  else if st = 6 ∨ st = 7 ∨ st = 8 then
    if isD b then 8 else if st = 6 ∧ (b = 43 ∨ b = 45) then 7 else 9
  else if st = 3 ∧ isD b then 3
  else if b = 46 ∧ (st = 2 ∨ st = 3) then 4
  else if isE b ∧ wh st then 6 else 9
def en (st : Nat) (s : List UInt8) : Nat := s.foldl nx st
def acc (st : Nat) (s : List UInt8) : Bool := wh (en st s)
theorem nx9 (b : UInt8) : nx 9 b = 9 := by simp [nx, wh]
theorem en9 : ∀ s, en 9 s = 9
  | [] => rfl
  | b :: s => by show en (nx 9 b) s = 9; rw [nx9]; exact en9 s
theorem acc9 (s : List UInt8) : acc 9 s = false := by unfold acc; rw [en9]; rfl
theorem acc_cons (st : Nat) (b : UInt8) (s : List UInt8) : acc st (b :: s) = acc (nx st b) s := rfl
theorem D_not (b : UInt8) (h : isD b = true) : b ≠ 45 ∧ b ≠ 43 ∧ b ≠ 46 ∧ isE b = false := by
  simp only [isD, Bool.and_eq_true, decide_eq_true_eq] at h
  refine ⟨?_, ?_, ?_, ?_⟩
  · rintro rfl; simp at h
  · rintro rfl; simp at h
  · rintro rfl; simp at h
  · simp only [isE, Bool.or_eq_false_iff, decide_eq_false_iff_not]
    constructor <;> (rintro rfl; simp at h)
def hd : List UInt8 → Bool
  | [] => false
  | c :: _ => isD c
theorem hd_cons (c : UInt8) (r : List UInt8) : hd (c :: r) = isD c := rfl
def all8 (v : List UInt8) : Bool := hd v && (v.dropWhile isD).isEmpty
def B6 (r : List UInt8) : Bool :=
  match r with
  | [] => false
  | c :: q => if c = 43 ∨ c = 45 then all8 q else all8 r
def B2 (u : List UInt8) : Bool :=
  match u with
  | [] => true
  | c :: r => isE c && B6 r
def B1 (v : List UInt8) : Bool :=
  match v with
  | [] => true
  | c :: r => if c = 46 then hd r && B2 (r.dropWhile isD) else B2 v
theorem acc8 : ∀ s, acc 8 s = (s.dropWhile isD).isEmpty
  | [] => rfl
  | b :: s => by
    rw [acc_cons, List.dropWhile_cons]
    by_cases h : isD b = true
    · rw [if_pos h, show nx 8 b = 8 by simp [nx, h]]; exact acc8 s
    · rw [if_neg h, show nx 8 b = 9 by simp [nx, h], acc9]; rfl
theorem acc7 (s : List UInt8) : acc 7 s = all8 s := by
  cases s with
  | nil => rfl
  | cons b s =>
    rw [acc_cons]
    unfold all8
    rw [List.dropWhile_cons, hd_cons]
    by_cases h : isD b = true
    · rw [if_pos h, show nx 7 b = 8 by simp [nx, h], acc8, h]; rfl
    · rw [if_neg h, show nx 7 b = 9 by simp [nx, h], acc9]; simp [h]
theorem acc6 (s : List UInt8) : acc 6 s = B6 s := by
  cases s with
  | nil => rfl
  | cons b s =>
    rw [acc_cons]
    unfold B6
    by_cases h : isD b = true
    · obtain ⟨h1, h2, _⟩ := D_not b h
      rw [show nx 6 b = 8 by simp [nx, h], acc8]
      simp [h1, h2, all8, hd, h, List.dropWhile_cons]
    · by_cases h2 : b = 43 ∨ b = 45
      · rw [show nx 6 b = 7 by simp [nx, h, h2], acc7]; simp [h2]
      · rw [show nx 6 b = 9 by simp [nx, h, h2], acc9]; simp [h2, all8, hd, h]
theorem acc5 : ∀ s, acc 5 s = B2 (s.dropWhile isD)
  | [] => rfl
  | b :: s => by
    rw [acc_cons, List.dropWhile_cons]
    by_cases h : isD b = true
    · rw [if_pos h, show nx 5 b = 5 by simp [nx, h]]; exact acc5 s
    · rw [if_neg h]
      unfold B2
      by_cases h2 : isE b = true
      · rw [show nx 5 b = 6 by simp [nx, h, h2, wh], acc6]; simp [h2]
      · rw [show nx 5 b = 9 by simp [nx, h, h2], acc9]; simp [h2]
theorem acc4 (s : List UInt8) : acc 4 s = (hd s && B2 (s.dropWhile isD)) := by
  cases s with
  | nil => rfl
  | cons b s =>
    rw [acc_cons, List.dropWhile_cons]
    unfold hd
    by_cases h : isD b = true
    · rw [if_pos h, show nx 4 b = 5 by simp [nx, h], acc5]; simp [h]
    · rw [if_neg h, show nx 4 b = 9 by simp [nx, h, wh], acc9]; simp [h]
theorem acc2 (s : List UInt8) : acc 2 s = B1 s := by
  cases s with
  | nil => rfl
  | cons b s =>
    rw [acc_cons]
    unfold B1
    by_cases h1 : b = 46
    · rw [show nx 2 b = 4 by subst h1; rfl, acc4]; simp [h1]
    · by_cases h2 : isE b = true
      · rw [show nx 2 b = 6 by simp [nx, h1, h2, wh], acc6]; simp [h1, B2, h2]
      · rw [show nx 2 b = 9 by simp [nx, h1, h2], acc9]; simp [h1, B2, h2]
def rn (s : List UInt8) (i : Nat) : Nat := ((s.drop i).takeWhile isD).length
def Is2 (s : List UInt8) (i : Nat) : Bool :=
  match s[i]? with
  | some c =>
    if isE c then
      let j := if s[i + 1]? = some 43 ∨ s[i + 1]? = some 45 then i + 2 else i + 1
      if rn s j = 0 then false else j + rn s j == s.length
    else i == s.length
  | none => i == s.length
def Is1 (s : List UInt8) (i : Nat) : Bool := if s[i]? = some 46 then (if rn s (i + 1) = 0 then false else Is2 s (i + 1 + rn s (i + 1))) else Is2 s i
def Is (s : List UInt8) : Bool :=
  let i := if s[0]? = some 45 then 1 else 0
  if rn s i = 0 ∨ (1 < rn s i ∧ s[i]? = some 48) then false else Is1 s (i + rn s i)
theorem drop_take (u : List UInt8) : u.drop (u.takeWhile isD).length = u.dropWhile isD := by
  induction u with
  | nil => rfl
  | cons b u ih =>
    rw [List.takeWhile_cons, List.dropWhile_cons]
    split
    · simpa using ih
    · rfl
def stP (s : List UInt8) : Nat := if Is s then 2 else if Is (s ++ [49]) then 1 else 0
def stC (s : List UInt8) : Nat := if en 0 s = 9 then 0 else if wh (en 0 s) then 2 else 1
def longP (s : List UInt8) : Nat → Nat
  | 0 => 0
  | n + 1 => if Is (s.take (n + 1)) then n + 1 else longP s n
end Tg.Nu
namespace Tg.Nu
end Tg.Nu

set_option linter.unusedSimpArgs false
set_option linter.unusedVariables false
namespace Tg.Nu
open Go
def digs (l : List UInt8) : Prop := ∀ b ∈ l, isD b = true
def eoT : Option (UInt8 × List UInt8 × List UInt8) → List UInt8
  | none => []
  | some (e, sg, ep) => e :: (sg ++ ep)
def foT : Option (List UInt8) → List UInt8
  | none => []
  | some f => 46 :: f
structure Num where
  neg : Bool
  ip : List UInt8
  f : Option (List UInt8)
  e : Option (UInt8 × List UInt8 × List UInt8)
def OkE : Option (UInt8 × List UInt8 × List UInt8) → Prop
  | none => True
  | some (c, sg, ep) => isE c = true ∧ (sg = [] ∨ sg = [43] ∨ sg = [45]) ∧ digs ep ∧ ep ≠ []
def OkF : Option (List UInt8) → Prop
  | none => True
  | some f => digs f
structure Num.Ok (n : Num) : Prop where
  ip : digs n.ip
  ip0 : n.ip ≠ []
  f : OkF n.f
  e : OkE n.e
def Num.head (n : Num) : List UInt8 := n.ip ++ foT n.f
def Num.body (n : Num) : List UInt8 := n.head ++ eoT n.e
def Num.text (n : Num) : List UInt8 := (if n.neg then [45] else []) ++ n.body
def dv (n : Nat) (l : List UInt8) : Nat := l.foldl (fun n b => 10 * n + (b.toNat - 48)) n
def nz (b : UInt8) : Bool := b == 48
def lead (l : List UInt8) : List UInt8 := l.dropWhile nz
def trail (l : List UInt8) : List UInt8 := (l.reverse.dropWhile nz).reverse
def cap40 (n : Nat) : Nat := if 1099511627776 < n then 1099511627776 else n
def Num.fp (n : Num) : List UInt8 := match n.f with | none => [] | some f => f
def Num.pw (n : Num) : Int := match n.e with
  | none => 0
  | some (_, sg, ep) => if sg = [45] then -(cap40 (dv 0 ep) : Int) else cap40 (dv 0 ep)
def Num.all (n : Num) : List UInt8 := lead (n.ip ++ n.fp)
def Num.short (n : Num) : List UInt8 := trail n.all
def clamp (n lo hi : Int) : Int := if n < lo then lo else if hi < n then hi else n
def Num.exp (n : Num) : Int := if n.short = [] then 0 else clamp (n.pw - n.fp.length + (n.all.length - n.short.length)) (-9999) 9999
theorem Num.Ok.cons {n : Num} (h : n.Ok) : ∃ c r, n.ip = c :: r ∧ isD c = true := by
  cases hip : n.ip with
  | nil => exact absurd hip h.ip0
  | cons c r => exact ⟨c, r, rfl, h.ip c (by rw [hip]; simp)⟩
theorem dv_append (n : Nat) (l r : List UInt8) : dv n (l ++ r) = dv (dv n l) r := by unfold dv; rw [List.foldl_append]
theorem dv_take (l : List UInt8) {i : Nat} (h : i < l.length) : dv 0 (l.take (i + 1)) = 10 * dv 0 (l.take i) + (l[i].toNat - 48) := by
  rw [List.take_succ_eq_append_getElem h, dv_append]; rfl
theorem dv_ge (l : List UInt8) : ∀ n, n ≤ dv n l := by
  induction l with
  | nil => intro n; exact Nat.le_refl n
  | cons b l ih => intro n; exact Nat.le_trans (by omega) (ih (10 * n + (b.toNat - 48)))
theorem dv_mono (l : List UInt8) (i : Nat) : dv 0 (l.take i) ≤ dv 0 l := by
  have := dv_append 0 (l.take i) (l.drop i)
  rw [List.take_append_drop] at this
  rw [this]; exact dv_ge _ _
def dC (l : List UInt8) : Nat := if dv 0 l ≤ 9007199254740991 then dv 0 l else 9007199254740991
end Tg.Nu
namespace Tg.Nu
def rstep (x : Bool × List UInt8 × Int) (b : UInt8) : Bool × List UInt8 × Int :=
  if b = 46 then (true, x.2.1, x.2.2) else (x.1, if x.2.1 ≠ [] ∨ b ≠ 48 then x.2.1 ++ [b] else x.2.1, if x.1 then x.2.2 - 1 else x.2.2)
def rfold (l : List UInt8) : Bool × List UInt8 × Int := l.foldl rstep (false, [], 0)
def cat (d l : List UInt8) : List UInt8 := if d ≠ [] then d ++ l else lead l
end Tg.Nu

set_option linter.unusedSimpArgs false
set_option linter.unusedVariables false
set_option maxRecDepth 100000
namespace Go.Proofs.YthgcgjpbhbikaaaGreatDoor
open Go.Lg Go.Tg
section
open Tg.Nu
variable {H : LH} {b : UInt8} {s t : List UInt8}
theorem digit_l : LC Tryz.prog EJ 131 [.int .u8 b.toNat] H = some (.bool (isD b), H) := Digit_cl
theorem digits_l (hs : s.length ≤ 1048576) : LC Tryz.prog EJ 115 [str s] H = some (.int .i64 ((s.takeWhile isD).length : Nat), H) := by
  refine LC_pure rfl Tryz.func115 rfl (Nat.le_of_ble_eq_true rfl) (by decide) (by kernel_rfl) rfl ?_
  simp
  refine loop_ind (fun (i : Nat) fr' H' => fr' 0 = str s ∧ fr' 3 = .int .i64 i ∧ i ≤ s.length ∧ (s.takeWhile isD).length = i + ((s.drop i).takeWhile isD).length ∧ H' = H) (fun i => s.length - i) 0 (by simp) ?_
  rintro i fr' H' ⟨h0, h3, hi, hr, rfl⟩ ih
  by_cases hlt : i < s.length
  · have hd := List.drop_eq_getElem_cons hlt
    rw [hd, List.takeWhile_cons] at hr
    cases hc : isD s[i] with
    | true =>
      rw [hc, if_pos rfl, List.length_cons] at hr
      have hw : IntKind.i64.wrap ((i : Int) + 1) = ((i + 1 : Nat) : Int) := by rw [wrap64_in (by omega) (by omega)]; omega
      simp [h0, h3, hlt, digit_l, at_in hlt, hc, hw]
      exact ih (i + 1) _ _ (by omega) ⟨by simp [h0], by simp, hlt, by omega, rfl⟩
    | false =>
      rw [hc, if_neg (by simp)] at hr
      simp [h0, h3, hlt, digit_l, at_in hlt, hc]
      simp at hr; omega
  · rw [List.drop_eq_nil_of_le (by omega)] at hr
    simp [h0, h3, hlt]
    simp at hr; omega
theorem value_l (hd : digs s) (hs : s.length ≤ 1048576) : LC Tryz.prog EJ 116 [str s] H = some (.tuple #[.int .i64 (dC s : Nat), .bool (decide (dv 0 s ≤ 9007199254740991))], H) := by
  refine LC_pure rfl Tryz.func116 rfl (Nat.le_of_ble_eq_true rfl) (by decide) (by kernel_rfl) rfl ?_
  simp
  refine loop_ind (fun (i : Nat) fr' H' => fr' 0 = str s ∧ fr' 4 = .int .i64 (dv 0 (s.take i) : Nat) ∧ fr' 7 = .int .i64 s.length ∧ fr' 8 = .int .i64 i ∧ i ≤ s.length ∧ dv 0 (s.take i) ≤ 9007199254740991 ∧ H' = H) (fun i => s.length - i) 0 (by simp [dv]) ?_
  rintro i fr' H' ⟨h0, h4, h7, h8, hi, hm, rfl⟩ ih
  by_cases hlt : i < s.length
  · have hD := hd s[i] (List.getElem_mem hlt)
    simp only [isD, Bool.and_eq_true, decide_eq_true_eq] at hD
    have ht := dv_take s hlt
    have hmono := dv_mono s (i + 1)
    have hw1 : IntKind.i64.wrap ((dv 0 (s.take i) : Int) * 10) = (dv 0 (s.take i) : Int) * 10 := by rw [wrap64_in (by omega) (by omega)]
    have hw2 : IntKind.u8.wrap ((s[i].toNat : Int) - 48) = ((s[i].toNat - 48 : Nat) : Int) := by
      have := s[i].toNat_lt
      rw [show IntKind.u8.wrap ((s[i].toNat : Int) - 48) = ((s[i].toNat : Int) - 48) % 256 from IntKind.wrap_u8 _]; omega
    have hw3 : IntKind.i64.wrap ((s[i].toNat - 48 : Nat) : Int) = ((s[i].toNat - 48 : Nat) : Int) := by rw [wrap64_in (by omega) (by omega)]
    have hw4 : IntKind.i64.wrap ((dv 0 (s.take i) : Int) * 10 + ((s[i].toNat - 48 : Nat) : Int)) = ((dv 0 (s.take (i + 1)) : Nat) : Int) := by rw [wrap64_in (by omega) (by omega)]; omega
    have hw : IntKind.i64.wrap ((i : Int) + 1) = ((i + 1 : Nat) : Int) := by rw [wrap64_in (by omega) (by omega)]; omega
    by_cases hbig : dv 0 (s.take (i + 1)) ≤ 9007199254740991
    · have f := eq_false (show ¬ 9007199254740991 < ((dv 0 (s.take (i + 1)) : Nat) : Int) by omega)
      simp [h0, h4, h7, h8, hlt, at_in hlt, hw1, hw2, hw3, hw4, hw, f]
      exact ih (i + 1) _ _ (by omega) ⟨by simp [h0], by simp, by simp [h7], by simp, hlt, hbig, rfl⟩
    · have f := eq_true (show 9007199254740991 < ((dv 0 (s.take (i + 1)) : Nat) : Int) by omega)
      have e1 : ¬ dv 0 s ≤ 9007199254740991 := by omega
      have e2 : dC s = 9007199254740991 := by unfold dC; rw [if_neg e1]
      simp [h0, h4, h7, h8, hlt, at_in hlt, hw1, hw2, hw3, hw4, hw, f, e1, e2]
  · have e : s.take i = s := List.take_of_length_le (by omega)
    rw [e] at hm h4
    have e2 : dC s = dv 0 s := by unfold dC; rw [if_pos hm]
    simp [h0, h4, h7, h8, hlt, hm, e2]
theorem tw_all : ∀ {s : List UInt8}, s.all isD = true → s.takeWhile isD = s
  | [], _ => rfl
  | b :: r, h => by
    simp only [List.all_cons, Bool.and_eq_true] at h
    rw [List.takeWhile_cons, if_pos h.1, tw_all h.2]
theorem tw_lt : ∀ {s : List UInt8}, s.all isD = false → (s.takeWhile isD).length < s.length
  | [], h => by simp at h
  | b :: r, h => by
    rw [List.takeWhile_cons]
    by_cases hb : isD b = true
    · rw [if_pos hb]
      simp only [List.all_cons, hb, Bool.true_and] at h
      have := tw_lt h
      simp; omega
    · rw [if_neg hb]; simp
theorem dparse_cl (hs : s.length ≤ 1048576) : LC Tryz.prog EJ 79 [str s] H = some (.tuple #[.int .i64 (if s = [] ∨ s.all isD = false then 0 else if 9007199254740991 < dv 0 s then 0 else (dv 0 s : Nat)), .int .i64 (if s = [] ∨ s.all isD = false then 2 else if 9007199254740991 < dv 0 s then 9 else 0)], H) := by
  have key : LC Tryz.prog EJ 100 [str s] H = some (.tuple #[.int .i64 (if s = [] ∨ s.all isD = false then 0 else if 9007199254740991 < dv 0 s then 0 else (dv 0 s : Nat)), .int .i64 (if s = [] ∨ s.all isD = false then 2 else if 9007199254740991 < dv 0 s then 9 else 0)], H) := by
    refine LC_pure rfl Tryz.func100 rfl (Nat.le_of_ble_eq_true rfl) (by decide) (by kernel_rfl) rfl ?_
    have h1 := fun H : LH => digits_l (H := H) hs
    by_cases h0 : s = []
    · subst h0; simp
    cases ha : s.all isD with
    | false =>
      have hlt := tw_lt ha
      have q := eq_true (show ((s.takeWhile isD).length : Int) < (s.length : Int) by omega)
      rw [if_pos (.inr rfl), if_pos (.inr rfl)]
      generalize (s.takeWhile isD).length = n at *
      simp [h0, h1, q]
    | true =>
      have e := tw_all ha
      have hd : digs s := fun b hb => List.all_eq_true.mp ha b hb
      have h2 := fun H : LH => value_l (H := H) hd hs
      rw [e] at h1
      by_cases hbig : 9007199254740991 < dv 0 s
      · have hn : ¬ dv 0 s ≤ 9007199254740991 := by omega
        rw [decide_eq_false hn] at h2
        simp [h0, h1, h2, hbig]
      · have hn : dv 0 s ≤ 9007199254740991 := by omega
        have hC : dC s = dv 0 s := by unfold dC; rw [if_pos hn]
        rw [decide_eq_true hn, hC] at h2
        simp [h0, h1, h2, hbig]
  refine LC_pure rfl Tryz.func79 rfl (Nat.le_of_ble_eq_true rfl) (by decide) (by kernel_rfl) rfl ?_
  simp [key]
end
end Go.Proofs.YthgcgjpbhbikaaaGreatDoor

