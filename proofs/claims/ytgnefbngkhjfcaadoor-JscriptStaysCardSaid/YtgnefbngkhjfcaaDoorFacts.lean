/-
  Closed facts on the types of this translation.
-/
import Derived.Test.YtgnefbngkhjfcaaDoorRows
import Derived.Test.YtgnefbngkhjfcaaDoorLgEnd
set_option linter.unusedSimpArgs false
namespace Go.Proofs.YtgnefbngkhjfcaaDoor
open Go.Lg
attribute [simp] Tryd.underlying0
@[simp] theorem sz0 : sz Tryd.prog 0 = some 1 := by kernel_rfl
@[simp] theorem zr0 : zr Tryd.prog 0 = some (.tuple #[]) := by kernel_rfl
@[simp] theorem lesz0 : lesz Tryd.prog 0 = some 1 := by kernel_rfl
attribute [simp] Tryd.underlying1
attribute [simp] Tryd.underlying2
@[simp] theorem sz2 : sz Tryd.prog 2 = some 1 := by kernel_rfl
@[simp] theorem agg2 : aggB Tryd.prog 2 = some false := by kernel_rfl
@[simp] theorem zr2 : zr Tryd.prog 2 = some (.int .i64 0) := by kernel_rfl
@[simp] theorem lesz2 : lesz Tryd.prog 2 = some 1 := by kernel_rfl
attribute [simp] Tryd.underlying3
@[simp] theorem sz3 : sz Tryd.prog 3 = some 1 := by kernel_rfl
@[simp] theorem agg3 : aggB Tryd.prog 3 = some false := by kernel_rfl
@[simp] theorem zr3 : zr Tryd.prog 3 = some (.int .i64 0) := by kernel_rfl
@[simp] theorem lesz3 : lesz Tryd.prog 3 = some 1 := by kernel_rfl
attribute [simp] Tryd.underlying4
@[simp] theorem sz4 : sz Tryd.prog 4 = some 1 := by kernel_rfl
@[simp] theorem agg4 : aggB Tryd.prog 4 = some false := by kernel_rfl
@[simp] theorem zr4 : zr Tryd.prog 4 = some (.bool false) := by kernel_rfl
@[simp] theorem lesz4 : lesz Tryd.prog 4 = some 1 := by kernel_rfl
attribute [simp] Tryd.underlying5
@[simp] theorem sz5 : sz Tryd.prog 5 = some 1 := by kernel_rfl
@[simp] theorem agg5 : aggB Tryd.prog 5 = some false := by kernel_rfl
@[simp] theorem zr5 : zr Tryd.prog 5 = some (.int .u8 0) := by kernel_rfl
@[simp] theorem lesz5 : lesz Tryd.prog 5 = some 1 := by kernel_rfl
attribute [simp] Tryd.underlying6
@[simp] theorem sz6 : sz Tryd.prog 6 = some 1 := by kernel_rfl
@[simp] theorem agg6 : aggB Tryd.prog 6 = some false := by kernel_rfl
@[simp] theorem zr6 : zr Tryd.prog 6 = some (.int .u8 0) := by kernel_rfl
@[simp] theorem lesz6 : lesz Tryd.prog 6 = some 1 := by kernel_rfl
@[simp] theorem plc7 : plcB Tryd.prog 7 = true := by kernel_rfl
@[simp] theorem fld7_0 : fldi Tryd.prog 7 0 = some (0, 1, false) := by kernel_rfl
@[simp] theorem fld7_1 : fldi Tryd.prog 7 1 = some (1, 1, false) := by kernel_rfl
@[simp] theorem fld7_2 : fldi Tryd.prog 7 2 = some (2, 1, false) := by kernel_rfl
@[simp] theorem fld7_3 : fldi Tryd.prog 7 3 = some (3, 1, false) := by kernel_rfl
@[simp] theorem sz7 : sz Tryd.prog 7 = some 4 := by kernel_rfl
@[simp] theorem agg7 : aggB Tryd.prog 7 = some true := by kernel_rfl
@[simp] theorem zr7 : zr Tryd.prog 7 = some (.agg #[.int .i64 0, .int .i64 0, .bool false, .int .u8 0]) := by kernel_rfl
@[simp] theorem lesz7 : lesz Tryd.prog 7 = some 4 := by kernel_rfl
@[simp] theorem plc8 : plcB Tryd.prog 8 = true := by kernel_rfl
@[simp] theorem fld8_0 : fldi Tryd.prog 8 0 = some (0, 1, false) := by kernel_rfl
@[simp] theorem fld8_1 : fldi Tryd.prog 8 1 = some (1, 1, false) := by kernel_rfl
@[simp] theorem fld8_2 : fldi Tryd.prog 8 2 = some (2, 1, false) := by kernel_rfl
@[simp] theorem fld8_3 : fldi Tryd.prog 8 3 = some (3, 1, false) := by kernel_rfl
@[simp] theorem sz8 : sz Tryd.prog 8 = some 4 := by kernel_rfl
@[simp] theorem agg8 : aggB Tryd.prog 8 = some true := by kernel_rfl
@[simp] theorem zr8 : zr Tryd.prog 8 = some (.agg #[.int .i64 0, .int .i64 0, .bool false, .int .u8 0]) := by kernel_rfl
@[simp] theorem lesz8 : lesz Tryd.prog 8 = some 4 := by kernel_rfl
attribute [simp] Tryd.underlying9
@[simp] theorem sz9 : sz Tryd.prog 9 = some 1 := by kernel_rfl
@[simp] theorem agg9 : aggB Tryd.prog 9 = some false := by kernel_rfl
@[simp] theorem zr9 : zr Tryd.prog 9 = some (.string ⟨#[]⟩) := by kernel_rfl
@[simp] theorem lesz9 : lesz Tryd.prog 9 = some 1 := by kernel_rfl
attribute [simp] Tryd.underlying10
@[simp] theorem sz10 : sz Tryd.prog 10 = some 1 := by kernel_rfl
@[simp] theorem agg10 : aggB Tryd.prog 10 = some false := by kernel_rfl
@[simp] theorem zr10 : zr Tryd.prog 10 = some (.string ⟨#[]⟩) := by kernel_rfl
@[simp] theorem lesz10 : lesz Tryd.prog 10 = some 1 := by kernel_rfl
attribute [simp] Tryd.underlying11
@[simp] theorem sz11 : sz Tryd.prog 11 = some 1 := by kernel_rfl
@[simp] theorem agg11 : aggB Tryd.prog 11 = some false := by kernel_rfl
@[simp] theorem zr11 : zr Tryd.prog 11 = some (.string ⟨#[]⟩) := by kernel_rfl
@[simp] theorem lesz11 : lesz Tryd.prog 11 = some 1 := by kernel_rfl
attribute [simp] Tryd.underlying12
@[simp] theorem sz12 : sz Tryd.prog 12 = some 1 := by kernel_rfl
@[simp] theorem agg12 : aggB Tryd.prog 12 = some false := by kernel_rfl
@[simp] theorem zr12 : zr Tryd.prog 12 = some (.int .u64 0) := by kernel_rfl
@[simp] theorem lesz12 : lesz Tryd.prog 12 = some 1 := by kernel_rfl
@[simp] theorem plc13 : plcB Tryd.prog 13 = true := by kernel_rfl
@[simp] theorem fld13_0 : fldi Tryd.prog 13 0 = some (0, 1, false) := by kernel_rfl
@[simp] theorem fld13_1 : fldi Tryd.prog 13 1 = some (1, 1, false) := by kernel_rfl
@[simp] theorem sz13 : sz Tryd.prog 13 = some 2 := by kernel_rfl
@[simp] theorem agg13 : aggB Tryd.prog 13 = some true := by kernel_rfl
@[simp] theorem zr13 : zr Tryd.prog 13 = some (.agg #[.string ⟨#[]⟩, .int .u64 0]) := by kernel_rfl
@[simp] theorem lesz13 : lesz Tryd.prog 13 = some 2 := by kernel_rfl
@[simp] theorem plc14 : plcB Tryd.prog 14 = true := by kernel_rfl
@[simp] theorem fld14_0 : fldi Tryd.prog 14 0 = some (0, 1, false) := by kernel_rfl
@[simp] theorem fld14_1 : fldi Tryd.prog 14 1 = some (1, 1, false) := by kernel_rfl
@[simp] theorem sz14 : sz Tryd.prog 14 = some 2 := by kernel_rfl
@[simp] theorem agg14 : aggB Tryd.prog 14 = some true := by kernel_rfl
@[simp] theorem zr14 : zr Tryd.prog 14 = some (.agg #[.string ⟨#[]⟩, .int .u64 0]) := by kernel_rfl
@[simp] theorem lesz14 : lesz Tryd.prog 14 = some 2 := by kernel_rfl
attribute [simp] Tryd.underlying15
@[simp] theorem sz15 : sz Tryd.prog 15 = some 1 := by kernel_rfl
@[simp] theorem agg15 : aggB Tryd.prog 15 = some false := by kernel_rfl
@[simp] theorem zr15 : zr Tryd.prog 15 = some (.pointer none) := by kernel_rfl
@[simp] theorem lesz15 : lesz Tryd.prog 15 = some 1 := by kernel_rfl
attribute [simp] Tryd.underlying16
@[simp] theorem sz16 : sz Tryd.prog 16 = some 1 := by kernel_rfl
@[simp] theorem agg16 : aggB Tryd.prog 16 = some false := by kernel_rfl
@[simp] theorem zr16 : zr Tryd.prog 16 = some (.pointer none) := by kernel_rfl
@[simp] theorem lesz16 : lesz Tryd.prog 16 = some 1 := by kernel_rfl
attribute [simp] Tryd.underlying17
@[simp] theorem sz17 : sz Tryd.prog 17 = some 1 := by kernel_rfl
@[simp] theorem agg17 : aggB Tryd.prog 17 = some false := by kernel_rfl
@[simp] theorem zr17 : zr Tryd.prog 17 = some (.pointer none) := by kernel_rfl
@[simp] theorem lesz17 : lesz Tryd.prog 17 = some 1 := by kernel_rfl
@[simp] theorem plc18 : plcB Tryd.prog 18 = true := by kernel_rfl
@[simp] theorem fld18_0 : fldi Tryd.prog 18 0 = some (0, 1, false) := by kernel_rfl
@[simp] theorem sz18 : sz Tryd.prog 18 = some 1 := by kernel_rfl
@[simp] theorem agg18 : aggB Tryd.prog 18 = some true := by kernel_rfl
@[simp] theorem zr18 : zr Tryd.prog 18 = some (.agg #[.pointer none]) := by kernel_rfl
@[simp] theorem lesz18 : lesz Tryd.prog 18 = some 1 := by kernel_rfl
@[simp] theorem plc19 : plcB Tryd.prog 19 = true := by kernel_rfl
@[simp] theorem fld19_0 : fldi Tryd.prog 19 0 = some (0, 1, false) := by kernel_rfl
@[simp] theorem sz19 : sz Tryd.prog 19 = some 1 := by kernel_rfl
@[simp] theorem agg19 : aggB Tryd.prog 19 = some true := by kernel_rfl
@[simp] theorem zr19 : zr Tryd.prog 19 = some (.agg #[.pointer none]) := by kernel_rfl
@[simp] theorem lesz19 : lesz Tryd.prog 19 = some 1 := by kernel_rfl
attribute [simp] Tryd.underlying20
attribute [simp] Tryd.underlying21
@[simp] theorem sz21 : sz Tryd.prog 21 = some 1 := by kernel_rfl
@[simp] theorem agg21 : aggB Tryd.prog 21 = some false := by kernel_rfl
@[simp] theorem zr21 : zr Tryd.prog 21 = some (.int .i32 0) := by kernel_rfl
@[simp] theorem lesz21 : lesz Tryd.prog 21 = some 1 := by kernel_rfl
attribute [simp] Tryd.underlying22
attribute [simp] Tryd.underlying23
@[simp] theorem sz23 : sz Tryd.prog 23 = some 1 := by kernel_rfl
@[simp] theorem zr23 : zr Tryd.prog 23 = some (.tuple #[.int .i64 0, .int .i64 0, .int .i64 0]) := by kernel_rfl
@[simp] theorem lesz23 : lesz Tryd.prog 23 = some 1 := by kernel_rfl
attribute [simp] Tryd.underlying24
attribute [simp] Tryd.underlying25
attribute [simp] Tryd.underlying26
attribute [simp] Tryd.underlying27
attribute [simp] Tryd.underlying28
@[simp] theorem sz28 : sz Tryd.prog 28 = some 1 := by kernel_rfl
@[simp] theorem agg28 : aggB Tryd.prog 28 = some false := by kernel_rfl
@[simp] theorem zr28 : zr Tryd.prog 28 = some (.pointer none) := by kernel_rfl
@[simp] theorem lesz28 : lesz Tryd.prog 28 = some 1 := by kernel_rfl
attribute [simp] Tryd.underlying29
attribute [simp] Tryd.underlying30
attribute [simp] Tryd.underlying31
@[simp] theorem sz31 : sz Tryd.prog 31 = some 1 := by kernel_rfl
@[simp] theorem zr31 : zr Tryd.prog 31 = some (.tuple #[.int .i64 0, .int .i64 0]) := by kernel_rfl
@[simp] theorem lesz31 : lesz Tryd.prog 31 = some 1 := by kernel_rfl
attribute [simp] Tryd.underlying32
attribute [simp] Tryd.underlying33
@[simp] theorem sz33 : sz Tryd.prog 33 = some 1 := by kernel_rfl
@[simp] theorem agg33 : aggB Tryd.prog 33 = some false := by kernel_rfl
@[simp] theorem zr33 : zr Tryd.prog 33 = some (.pointer none) := by kernel_rfl
@[simp] theorem lesz33 : lesz Tryd.prog 33 = some 1 := by kernel_rfl
attribute [simp] Tryd.underlying34
@[simp] theorem sz34 : sz Tryd.prog 34 = some 1 := by kernel_rfl
@[simp] theorem agg34 : aggB Tryd.prog 34 = some false := by kernel_rfl
@[simp] theorem zr34 : zr Tryd.prog 34 = some (.int .i64 0) := by kernel_rfl
@[simp] theorem lesz34 : lesz Tryd.prog 34 = some 1 := by kernel_rfl
attribute [simp] Tryd.underlying35
@[simp] theorem sz35 : sz Tryd.prog 35 = some 1 := by kernel_rfl
@[simp] theorem zr35 : zr Tryd.prog 35 = some (.tuple #[.pointer none, .int .i64 0]) := by kernel_rfl
@[simp] theorem lesz35 : lesz Tryd.prog 35 = some 1 := by kernel_rfl
attribute [simp] Tryd.underlying36
attribute [simp] Tryd.underlying37
attribute [simp] Tryd.underlying38
@[simp] theorem sz38 : sz Tryd.prog 38 = some 1 := by kernel_rfl
@[simp] theorem agg38 : aggB Tryd.prog 38 = some false := by kernel_rfl
@[simp] theorem zr38 : zr Tryd.prog 38 = some (.slice none 0 0) := by kernel_rfl
@[simp] theorem lesz38 : lesz Tryd.prog 38 = some 1 := by kernel_rfl
@[simp] theorem plc39 : plcB Tryd.prog 39 = true := by kernel_rfl
@[simp] theorem fld39_0 : fldi Tryd.prog 39 0 = some (0, 1, false) := by kernel_rfl
@[simp] theorem fld39_1 : fldi Tryd.prog 39 1 = some (1, 1, false) := by kernel_rfl
@[simp] theorem fld39_2 : fldi Tryd.prog 39 2 = some (2, 1, false) := by kernel_rfl
@[simp] theorem sz39 : sz Tryd.prog 39 = some 3 := by kernel_rfl
@[simp] theorem agg39 : aggB Tryd.prog 39 = some true := by kernel_rfl
@[simp] theorem zr39 : zr Tryd.prog 39 = some (.agg #[.bool false, .int .i64 0, .int .i64 0]) := by kernel_rfl
@[simp] theorem lesz39 : lesz Tryd.prog 39 = some 3 := by kernel_rfl
@[simp] theorem plc40 : plcB Tryd.prog 40 = true := by kernel_rfl
@[simp] theorem fld40_0 : fldi Tryd.prog 40 0 = some (0, 1, false) := by kernel_rfl
@[simp] theorem fld40_1 : fldi Tryd.prog 40 1 = some (1, 1, false) := by kernel_rfl
@[simp] theorem fld40_2 : fldi Tryd.prog 40 2 = some (2, 1, false) := by kernel_rfl
@[simp] theorem sz40 : sz Tryd.prog 40 = some 3 := by kernel_rfl
@[simp] theorem agg40 : aggB Tryd.prog 40 = some true := by kernel_rfl
@[simp] theorem zr40 : zr Tryd.prog 40 = some (.agg #[.bool false, .int .i64 0, .int .i64 0]) := by kernel_rfl
@[simp] theorem lesz40 : lesz Tryd.prog 40 = some 3 := by kernel_rfl
@[simp] theorem plc41 : plcB Tryd.prog 41 = true := by kernel_rfl
@[simp] theorem fld41_0 : fldi Tryd.prog 41 0 = some (0, 1, false) := by kernel_rfl
@[simp] theorem fld41_1 : fldi Tryd.prog 41 1 = some (1, 1, false) := by kernel_rfl
@[simp] theorem fld41_2 : fldi Tryd.prog 41 2 = some (2, 1, false) := by kernel_rfl
@[simp] theorem fld41_3 : fldi Tryd.prog 41 3 = some (3, 1, false) := by kernel_rfl
@[simp] theorem sz41 : sz Tryd.prog 41 = some 4 := by kernel_rfl
@[simp] theorem agg41 : aggB Tryd.prog 41 = some true := by kernel_rfl
@[simp] theorem zr41 : zr Tryd.prog 41 = some (.agg #[.int .i64 0, .string ⟨#[]⟩, .int .i64 0, .bool false]) := by kernel_rfl
@[simp] theorem lesz41 : lesz Tryd.prog 41 = some 4 := by kernel_rfl
@[simp] theorem plc42 : plcB Tryd.prog 42 = true := by kernel_rfl
@[simp] theorem fld42_0 : fldi Tryd.prog 42 0 = some (0, 1, false) := by kernel_rfl
@[simp] theorem fld42_1 : fldi Tryd.prog 42 1 = some (1, 1, false) := by kernel_rfl
@[simp] theorem fld42_2 : fldi Tryd.prog 42 2 = some (2, 1, false) := by kernel_rfl
@[simp] theorem fld42_3 : fldi Tryd.prog 42 3 = some (3, 1, false) := by kernel_rfl
@[simp] theorem sz42 : sz Tryd.prog 42 = some 4 := by kernel_rfl
@[simp] theorem agg42 : aggB Tryd.prog 42 = some true := by kernel_rfl
@[simp] theorem zr42 : zr Tryd.prog 42 = some (.agg #[.int .i64 0, .string ⟨#[]⟩, .int .i64 0, .bool false]) := by kernel_rfl
@[simp] theorem lesz42 : lesz Tryd.prog 42 = some 4 := by kernel_rfl
attribute [simp] Tryd.underlying43
attribute [simp] Tryd.underlying44
attribute [simp] Tryd.underlying45
attribute [simp] Tryd.underlying46
attribute [simp] Tryd.underlying47
attribute [simp] Tryd.underlying48
@[simp] theorem sz48 : sz Tryd.prog 48 = some 1 := by kernel_rfl
@[simp] theorem agg48 : aggB Tryd.prog 48 = some false := by kernel_rfl
@[simp] theorem zr48 : zr Tryd.prog 48 = some (.slice none 0 0) := by kernel_rfl
@[simp] theorem lesz48 : lesz Tryd.prog 48 = some 1 := by kernel_rfl
attribute [simp] Tryd.underlying49
attribute [simp] Tryd.underlying50
@[simp] theorem sz50 : sz Tryd.prog 50 = some 1 := by kernel_rfl
@[simp] theorem zr50 : zr Tryd.prog 50 = some (.tuple #[.pointer none, .int .i64 0]) := by kernel_rfl
@[simp] theorem lesz50 : lesz Tryd.prog 50 = some 1 := by kernel_rfl
attribute [simp] Tryd.underlying51
@[simp] theorem plc52 : plcB Tryd.prog 52 = true := by kernel_rfl
@[simp] theorem fld52_0 : fldi Tryd.prog 52 0 = some (0, 1, false) := by kernel_rfl
@[simp] theorem fld52_1 : fldi Tryd.prog 52 1 = some (1, 1, false) := by kernel_rfl
@[simp] theorem fld52_2 : fldi Tryd.prog 52 2 = some (2, 1, false) := by kernel_rfl
@[simp] theorem fld52_3 : fldi Tryd.prog 52 3 = some (3, 1, false) := by kernel_rfl
@[simp] theorem fld52_4 : fldi Tryd.prog 52 4 = some (4, 1, false) := by kernel_rfl
@[simp] theorem fld52_5 : fldi Tryd.prog 52 5 = some (5, 1, false) := by kernel_rfl
@[simp] theorem fld52_6 : fldi Tryd.prog 52 6 = some (6, 1, false) := by kernel_rfl
@[simp] theorem fld52_7 : fldi Tryd.prog 52 7 = some (7, 1, false) := by kernel_rfl
@[simp] theorem fld52_8 : fldi Tryd.prog 52 8 = some (8, 1, false) := by kernel_rfl
@[simp] theorem fld52_9 : fldi Tryd.prog 52 9 = some (9, 1, false) := by kernel_rfl
@[simp] theorem fld52_10 : fldi Tryd.prog 52 10 = some (10, 1, false) := by kernel_rfl
@[simp] theorem fld52_11 : fldi Tryd.prog 52 11 = some (11, 1, false) := by kernel_rfl
@[simp] theorem fld52_12 : fldi Tryd.prog 52 12 = some (12, 1, false) := by kernel_rfl
@[simp] theorem sz52 : sz Tryd.prog 52 = some 13 := by kernel_rfl
@[simp] theorem agg52 : aggB Tryd.prog 52 = some true := by kernel_rfl
@[simp] theorem zr52 : zr Tryd.prog 52 = some (.agg #[.int .i64 0, .slice none 0 0, .int .i64 0, .int .u8 0, .bool false, .string ⟨#[]⟩, .int .i64 0, .bool false, .bool false, .int .i64 0, .int .i64 0, .int .i64 0, .int .i64 0]) := by kernel_rfl
@[simp] theorem lesz52 : lesz Tryd.prog 52 = some 13 := by kernel_rfl
@[simp] theorem plc53 : plcB Tryd.prog 53 = true := by kernel_rfl
@[simp] theorem fld53_0 : fldi Tryd.prog 53 0 = some (0, 1, false) := by kernel_rfl
@[simp] theorem fld53_1 : fldi Tryd.prog 53 1 = some (1, 1, false) := by kernel_rfl
@[simp] theorem fld53_2 : fldi Tryd.prog 53 2 = some (2, 1, false) := by kernel_rfl
@[simp] theorem fld53_3 : fldi Tryd.prog 53 3 = some (3, 1, false) := by kernel_rfl
@[simp] theorem fld53_4 : fldi Tryd.prog 53 4 = some (4, 1, false) := by kernel_rfl
@[simp] theorem fld53_5 : fldi Tryd.prog 53 5 = some (5, 1, false) := by kernel_rfl
@[simp] theorem fld53_6 : fldi Tryd.prog 53 6 = some (6, 1, false) := by kernel_rfl
@[simp] theorem fld53_7 : fldi Tryd.prog 53 7 = some (7, 1, false) := by kernel_rfl
@[simp] theorem fld53_8 : fldi Tryd.prog 53 8 = some (8, 1, false) := by kernel_rfl
@[simp] theorem fld53_9 : fldi Tryd.prog 53 9 = some (9, 1, false) := by kernel_rfl
@[simp] theorem fld53_10 : fldi Tryd.prog 53 10 = some (10, 1, false) := by kernel_rfl
@[simp] theorem fld53_11 : fldi Tryd.prog 53 11 = some (11, 1, false) := by kernel_rfl
@[simp] theorem fld53_12 : fldi Tryd.prog 53 12 = some (12, 1, false) := by kernel_rfl
@[simp] theorem sz53 : sz Tryd.prog 53 = some 13 := by kernel_rfl
@[simp] theorem agg53 : aggB Tryd.prog 53 = some true := by kernel_rfl
@[simp] theorem zr53 : zr Tryd.prog 53 = some (.agg #[.int .i64 0, .slice none 0 0, .int .i64 0, .int .u8 0, .bool false, .string ⟨#[]⟩, .int .i64 0, .bool false, .bool false, .int .i64 0, .int .i64 0, .int .i64 0, .int .i64 0]) := by kernel_rfl
@[simp] theorem lesz53 : lesz Tryd.prog 53 = some 13 := by kernel_rfl
attribute [simp] Tryd.underlying54
@[simp] theorem plc55 : plcB Tryd.prog 55 = true := by kernel_rfl
@[simp] theorem fld55_0 : fldi Tryd.prog 55 0 = some (0, 1, false) := by kernel_rfl
@[simp] theorem fld55_1 : fldi Tryd.prog 55 1 = some (1, 1, false) := by kernel_rfl
@[simp] theorem sz55 : sz Tryd.prog 55 = some 2 := by kernel_rfl
@[simp] theorem agg55 : aggB Tryd.prog 55 = some true := by kernel_rfl
@[simp] theorem zr55 : zr Tryd.prog 55 = some (.agg #[.int .i64 0, .int .i64 0]) := by kernel_rfl
@[simp] theorem lesz55 : lesz Tryd.prog 55 = some 2 := by kernel_rfl
@[simp] theorem plc56 : plcB Tryd.prog 56 = true := by kernel_rfl
@[simp] theorem fld56_0 : fldi Tryd.prog 56 0 = some (0, 1, false) := by kernel_rfl
@[simp] theorem fld56_1 : fldi Tryd.prog 56 1 = some (1, 1, false) := by kernel_rfl
@[simp] theorem sz56 : sz Tryd.prog 56 = some 2 := by kernel_rfl
@[simp] theorem agg56 : aggB Tryd.prog 56 = some true := by kernel_rfl
@[simp] theorem zr56 : zr Tryd.prog 56 = some (.agg #[.int .i64 0, .int .i64 0]) := by kernel_rfl
@[simp] theorem lesz56 : lesz Tryd.prog 56 = some 2 := by kernel_rfl
attribute [simp] Tryd.underlying57
attribute [simp] Tryd.underlying58
attribute [simp] Tryd.underlying59
attribute [simp] Tryd.underlying60
attribute [simp] Tryd.underlying61
attribute [simp] Tryd.underlying62
@[simp] theorem sz62 : sz Tryd.prog 62 = some 1 := by kernel_rfl
@[simp] theorem agg62 : aggB Tryd.prog 62 = some false := by kernel_rfl
@[simp] theorem zr62 : zr Tryd.prog 62 = some (.pointer none) := by kernel_rfl
@[simp] theorem lesz62 : lesz Tryd.prog 62 = some 1 := by kernel_rfl
@[simp] theorem plc63 : plcB Tryd.prog 63 = true := by kernel_rfl
@[simp] theorem fld63_0 : fldi Tryd.prog 63 0 = some (0, 1, false) := by kernel_rfl
@[simp] theorem fld63_1 : fldi Tryd.prog 63 1 = some (1, 1, false) := by kernel_rfl
@[simp] theorem fld63_2 : fldi Tryd.prog 63 2 = some (2, 1, false) := by kernel_rfl
@[simp] theorem fld63_3 : fldi Tryd.prog 63 3 = some (3, 1, false) := by kernel_rfl
@[simp] theorem fld63_4 : fldi Tryd.prog 63 4 = some (4, 1, false) := by kernel_rfl
@[simp] theorem fld63_5 : fldi Tryd.prog 63 5 = some (5, 1, false) := by kernel_rfl
@[simp] theorem fld63_6 : fldi Tryd.prog 63 6 = some (6, 1, false) := by kernel_rfl
@[simp] theorem sz63 : sz Tryd.prog 63 = some 7 := by kernel_rfl
@[simp] theorem agg63 : aggB Tryd.prog 63 = some true := by kernel_rfl
@[simp] theorem zr63 : zr Tryd.prog 63 = some (.agg #[.pointer none, .pointer none, .int .i64 0, .string ⟨#[]⟩, .int .i64 0, .int .i64 0, .bool false]) := by kernel_rfl
@[simp] theorem lesz63 : lesz Tryd.prog 63 = some 7 := by kernel_rfl
@[simp] theorem plc64 : plcB Tryd.prog 64 = true := by kernel_rfl
@[simp] theorem fld64_0 : fldi Tryd.prog 64 0 = some (0, 1, false) := by kernel_rfl
@[simp] theorem fld64_1 : fldi Tryd.prog 64 1 = some (1, 1, false) := by kernel_rfl
@[simp] theorem fld64_2 : fldi Tryd.prog 64 2 = some (2, 1, false) := by kernel_rfl
@[simp] theorem fld64_3 : fldi Tryd.prog 64 3 = some (3, 1, false) := by kernel_rfl
@[simp] theorem fld64_4 : fldi Tryd.prog 64 4 = some (4, 1, false) := by kernel_rfl
@[simp] theorem fld64_5 : fldi Tryd.prog 64 5 = some (5, 1, false) := by kernel_rfl
@[simp] theorem fld64_6 : fldi Tryd.prog 64 6 = some (6, 1, false) := by kernel_rfl
@[simp] theorem sz64 : sz Tryd.prog 64 = some 7 := by kernel_rfl
@[simp] theorem agg64 : aggB Tryd.prog 64 = some true := by kernel_rfl
@[simp] theorem zr64 : zr Tryd.prog 64 = some (.agg #[.pointer none, .pointer none, .int .i64 0, .string ⟨#[]⟩, .int .i64 0, .int .i64 0, .bool false]) := by kernel_rfl
@[simp] theorem lesz64 : lesz Tryd.prog 64 = some 7 := by kernel_rfl
attribute [simp] Tryd.underlying65
attribute [simp] Tryd.underlying66
attribute [simp] Tryd.underlying67
@[simp] theorem sz67 : sz Tryd.prog 67 = some 1 := by kernel_rfl
@[simp] theorem agg67 : aggB Tryd.prog 67 = some false := by kernel_rfl
@[simp] theorem zr67 : zr Tryd.prog 67 = some (.slice none 0 0) := by kernel_rfl
@[simp] theorem lesz67 : lesz Tryd.prog 67 = some 1 := by kernel_rfl
attribute [simp] Tryd.underlying68
attribute [simp] Tryd.underlying69
attribute [simp] Tryd.underlying70
attribute [simp] Tryd.underlying71
attribute [simp] Tryd.underlying72
attribute [simp] Tryd.underlying73
@[simp] theorem sz73 : sz Tryd.prog 73 = some 1 := by kernel_rfl
@[simp] theorem zr73 : zr Tryd.prog 73 = some (.tuple #[.pointer none, .int .i64 0]) := by kernel_rfl
@[simp] theorem lesz73 : lesz Tryd.prog 73 = some 1 := by kernel_rfl
attribute [simp] Tryd.underlying74
attribute [simp] Tryd.underlying75
attribute [simp] Tryd.underlying76
attribute [simp] Tryd.underlying77
attribute [simp] Tryd.underlying78
attribute [simp] Tryd.underlying79
attribute [simp] Tryd.underlying80
attribute [simp] Tryd.underlying81
attribute [simp] Tryd.underlying82
@[simp] theorem plc83 : plcB Tryd.prog 83 = true := by kernel_rfl
@[simp] theorem fld83_0 : fldi Tryd.prog 83 0 = some (0, 1, false) := by kernel_rfl
@[simp] theorem fld83_1 : fldi Tryd.prog 83 1 = some (1, 1, false) := by kernel_rfl
@[simp] theorem fld83_2 : fldi Tryd.prog 83 2 = some (2, 1, false) := by kernel_rfl
@[simp] theorem fld83_3 : fldi Tryd.prog 83 3 = some (3, 1, false) := by kernel_rfl
@[simp] theorem fld83_4 : fldi Tryd.prog 83 4 = some (4, 1, false) := by kernel_rfl
@[simp] theorem fld83_5 : fldi Tryd.prog 83 5 = some (5, 1, false) := by kernel_rfl
@[simp] theorem fld83_6 : fldi Tryd.prog 83 6 = some (6, 1, false) := by kernel_rfl
@[simp] theorem fld83_7 : fldi Tryd.prog 83 7 = some (7, 1, false) := by kernel_rfl
@[simp] theorem fld83_8 : fldi Tryd.prog 83 8 = some (8, 1, false) := by kernel_rfl
@[simp] theorem fld83_9 : fldi Tryd.prog 83 9 = some (9, 1, false) := by kernel_rfl
@[simp] theorem sz83 : sz Tryd.prog 83 = some 10 := by kernel_rfl
@[simp] theorem agg83 : aggB Tryd.prog 83 = some true := by kernel_rfl
@[simp] theorem zr83 : zr Tryd.prog 83 = some (.agg #[.int .i64 0, .slice none 0 0, .int .i64 0, .bool false, .string ⟨#[]⟩, .int .i64 0, .bool false, .int .i64 0, .int .i64 0, .int .i64 0]) := by kernel_rfl
@[simp] theorem lesz83 : lesz Tryd.prog 83 = some 10 := by kernel_rfl
@[simp] theorem plc84 : plcB Tryd.prog 84 = true := by kernel_rfl
@[simp] theorem fld84_0 : fldi Tryd.prog 84 0 = some (0, 1, false) := by kernel_rfl
@[simp] theorem fld84_1 : fldi Tryd.prog 84 1 = some (1, 1, false) := by kernel_rfl
@[simp] theorem fld84_2 : fldi Tryd.prog 84 2 = some (2, 1, false) := by kernel_rfl
@[simp] theorem fld84_3 : fldi Tryd.prog 84 3 = some (3, 1, false) := by kernel_rfl
@[simp] theorem fld84_4 : fldi Tryd.prog 84 4 = some (4, 1, false) := by kernel_rfl
@[simp] theorem fld84_5 : fldi Tryd.prog 84 5 = some (5, 1, false) := by kernel_rfl
@[simp] theorem fld84_6 : fldi Tryd.prog 84 6 = some (6, 1, false) := by kernel_rfl
@[simp] theorem fld84_7 : fldi Tryd.prog 84 7 = some (7, 1, false) := by kernel_rfl
@[simp] theorem fld84_8 : fldi Tryd.prog 84 8 = some (8, 1, false) := by kernel_rfl
@[simp] theorem fld84_9 : fldi Tryd.prog 84 9 = some (9, 1, false) := by kernel_rfl
@[simp] theorem sz84 : sz Tryd.prog 84 = some 10 := by kernel_rfl
@[simp] theorem agg84 : aggB Tryd.prog 84 = some true := by kernel_rfl
@[simp] theorem zr84 : zr Tryd.prog 84 = some (.agg #[.int .i64 0, .slice none 0 0, .int .i64 0, .bool false, .string ⟨#[]⟩, .int .i64 0, .bool false, .int .i64 0, .int .i64 0, .int .i64 0]) := by kernel_rfl
@[simp] theorem lesz84 : lesz Tryd.prog 84 = some 10 := by kernel_rfl
attribute [simp] Tryd.underlying85
attribute [simp] Tryd.underlying86
attribute [simp] Tryd.underlying87
@[simp] theorem sz87 : sz Tryd.prog 87 = some 256 := by kernel_rfl
@[simp] theorem agg87 : aggB Tryd.prog 87 = some true := by kernel_rfl
@[simp] theorem zr87 : zr Tryd.prog 87 = some (.agg #[.int .u8 0, .int .u8 0, .int .u8 0, .int .u8 0, .int .u8 0, .int .u8 0, .int .u8 0, .int .u8 0, .int .u8 0, .int .u8 0, .int .u8 0, .int .u8 0, .int .u8 0, .int .u8 0, .int .u8 0, .int .u8 0, .int .u8 0, .int .u8 0, .int .u8 0, .int .u8 0, .int .u8 0, .int .u8 0, .int .u8 0, .int .u8 0, .int .u8 0, .int .u8 0, .int .u8 0, .int .u8 0, .int .u8 0, .int .u8 0, .int .u8 0, .int .u8 0, .int .u8 0, .int .u8 0, .int .u8 0, .int .u8 0, .int .u8 0, .int .u8 0, .int .u8 0, .int .u8 0, .int .u8 0, .int .u8 0, .int .u8 0, .int .u8 0, .int .u8 0, .int .u8 0, .int .u8 0, .int .u8 0, .int .u8 0, .int .u8 0, .int .u8 0, .int .u8 0, .int .u8 0, .int .u8 0, .int .u8 0, .int .u8 0, .int .u8 0, .int .u8 0, .int .u8 0, .int .u8 0, .int .u8 0, .int .u8 0, .int .u8 0, .int .u8 0, .int .u8 0, .int .u8 0, .int .u8 0, .int .u8 0, .int .u8 0, .int .u8 0, .int .u8 0, .int .u8 0, .int .u8 0, .int .u8 0, .int .u8 0, .int .u8 0, .int .u8 0, .int .u8 0, .int .u8 0, .int .u8 0, .int .u8 0, .int .u8 0, .int .u8 0, .int .u8 0, .int .u8 0, .int .u8 0, .int .u8 0, .int .u8 0, .int .u8 0, .int .u8 0, .int .u8 0, .int .u8 0, .int .u8 0, .int .u8 0, .int .u8 0, .int .u8 0, .int .u8 0, .int .u8 0, .int .u8 0, .int .u8 0, .int .u8 0, .int .u8 0, .int .u8 0, .int .u8 0, .int .u8 0, .int .u8 0, .int .u8 0, .int .u8 0, .int .u8 0, .int .u8 0, .int .u8 0, .int .u8 0, .int .u8 0, .int .u8 0, .int .u8 0, .int .u8 0, .int .u8 0, .int .u8 0, .int .u8 0, .int .u8 0, .int .u8 0, .int .u8 0, .int .u8 0, .int .u8 0, .int .u8 0, .int .u8 0, .int .u8 0, .int .u8 0, .int .u8 0, .int .u8 0, .int .u8 0, .int .u8 0, .int .u8 0, .int .u8 0, .int .u8 0, .int .u8 0, .int .u8 0, .int .u8 0, .int .u8 0, .int .u8 0, .int .u8 0, .int .u8 0, .int .u8 0, .int .u8 0, .int .u8 0, .int .u8 0, .int .u8 0, .int .u8 0, .int .u8 0, .int .u8 0, .int .u8 0, .int .u8 0, .int .u8 0, .int .u8 0, .int .u8 0, .int .u8 0, .int .u8 0, .int .u8 0, .int .u8 0, .int .u8 0, .int .u8 0, .int .u8 0, .int .u8 0, .int .u8 0, .int .u8 0, .int .u8 0, .int .u8 0, .int .u8 0, .int .u8 0, .int .u8 0, .int .u8 0, .int .u8 0, .int .u8 0, .int .u8 0, .int .u8 0, .int .u8 0, .int .u8 0, .int .u8 0, .int .u8 0, .int .u8 0, .int .u8 0, .int .u8 0, .int .u8 0, .int .u8 0, .int .u8 0, .int .u8 0, .int .u8 0, .int .u8 0, .int .u8 0, .int .u8 0, .int .u8 0, .int .u8 0, .int .u8 0, .int .u8 0, .int .u8 0, .int .u8 0, .int .u8 0, .int .u8 0, .int .u8 0, .int .u8 0, .int .u8 0, .int .u8 0, .int .u8 0, .int .u8 0, .int .u8 0, .int .u8 0, .int .u8 0, .int .u8 0, .int .u8 0, .int .u8 0, .int .u8 0, .int .u8 0, .int .u8 0, .int .u8 0, .int .u8 0, .int .u8 0, .int .u8 0, .int .u8 0, .int .u8 0, .int .u8 0, .int .u8 0, .int .u8 0, .int .u8 0, .int .u8 0, .int .u8 0, .int .u8 0, .int .u8 0, .int .u8 0, .int .u8 0, .int .u8 0, .int .u8 0, .int .u8 0, .int .u8 0, .int .u8 0, .int .u8 0, .int .u8 0, .int .u8 0, .int .u8 0, .int .u8 0, .int .u8 0, .int .u8 0, .int .u8 0, .int .u8 0, .int .u8 0, .int .u8 0, .int .u8 0, .int .u8 0, .int .u8 0, .int .u8 0, .int .u8 0, .int .u8 0, .int .u8 0, .int .u8 0, .int .u8 0, .int .u8 0, .int .u8 0]) := by kernel_rfl
@[simp] theorem lesz87 : lesz Tryd.prog 87 = some 256 := by kernel_rfl
attribute [simp] Tryd.underlying88
attribute [simp] Tryd.underlying89
attribute [simp] Tryd.underlying90
attribute [simp] Tryd.underlying91
@[simp] theorem sz91 : sz Tryd.prog 91 = some 1 := by kernel_rfl
@[simp] theorem zr91 : zr Tryd.prog 91 = some (.tuple #[.int .i32 0, .int .i64 0]) := by kernel_rfl
@[simp] theorem lesz91 : lesz Tryd.prog 91 = some 1 := by kernel_rfl
attribute [simp] Tryd.underlying92
attribute [simp] Tryd.underlying93
@[simp] theorem sz93 : sz Tryd.prog 93 = some 1 := by kernel_rfl
@[simp] theorem agg93 : aggB Tryd.prog 93 = some false := by kernel_rfl
@[simp] theorem zr93 : zr Tryd.prog 93 = some (.slice none 0 0) := by kernel_rfl
@[simp] theorem lesz93 : lesz Tryd.prog 93 = some 1 := by kernel_rfl
@[simp] theorem plc94 : plcB Tryd.prog 94 = true := by kernel_rfl
@[simp] theorem fld94_0 : fldi Tryd.prog 94 0 = some (0, 1, false) := by kernel_rfl
@[simp] theorem fld94_1 : fldi Tryd.prog 94 1 = some (1, 1, false) := by kernel_rfl
@[simp] theorem sz94 : sz Tryd.prog 94 = some 2 := by kernel_rfl
@[simp] theorem agg94 : aggB Tryd.prog 94 = some true := by kernel_rfl
@[simp] theorem zr94 : zr Tryd.prog 94 = some (.agg #[.int .i64 0, .int .i64 0]) := by kernel_rfl
@[simp] theorem lesz94 : lesz Tryd.prog 94 = some 2 := by kernel_rfl
@[simp] theorem plc95 : plcB Tryd.prog 95 = true := by kernel_rfl
@[simp] theorem fld95_0 : fldi Tryd.prog 95 0 = some (0, 1, false) := by kernel_rfl
@[simp] theorem fld95_1 : fldi Tryd.prog 95 1 = some (1, 1, false) := by kernel_rfl
@[simp] theorem sz95 : sz Tryd.prog 95 = some 2 := by kernel_rfl
@[simp] theorem agg95 : aggB Tryd.prog 95 = some true := by kernel_rfl
@[simp] theorem zr95 : zr Tryd.prog 95 = some (.agg #[.int .i64 0, .int .i64 0]) := by kernel_rfl
@[simp] theorem lesz95 : lesz Tryd.prog 95 = some 2 := by kernel_rfl
attribute [simp] Tryd.underlying96
@[simp] theorem sz96 : sz Tryd.prog 96 = some 1 := by kernel_rfl
@[simp] theorem agg96 : aggB Tryd.prog 96 = some false := by kernel_rfl
@[simp] theorem zr96 : zr Tryd.prog 96 = some (.int .u32 0) := by kernel_rfl
@[simp] theorem lesz96 : lesz Tryd.prog 96 = some 1 := by kernel_rfl
attribute [simp] Tryd.underlying97
attribute [simp] Tryd.underlying98
@[simp] theorem sz98 : sz Tryd.prog 98 = some 1 := by kernel_rfl
@[simp] theorem agg98 : aggB Tryd.prog 98 = some false := by kernel_rfl
@[simp] theorem zr98 : zr Tryd.prog 98 = some (.pointer none) := by kernel_rfl
@[simp] theorem lesz98 : lesz Tryd.prog 98 = some 1 := by kernel_rfl
attribute [simp] Tryd.underlying99
attribute [simp] Tryd.underlying100
attribute [simp] Tryd.underlying101
attribute [simp] Tryd.underlying102
@[simp] theorem sz102 : sz Tryd.prog 102 = some 1 := by kernel_rfl
@[simp] theorem zr102 : zr Tryd.prog 102 = some (.tuple #[.int .i64 0, .bool false]) := by kernel_rfl
@[simp] theorem lesz102 : lesz Tryd.prog 102 = some 1 := by kernel_rfl
attribute [simp] Tryd.underlying103
attribute [simp] Tryd.underlying104
@[simp] theorem sz104 : sz Tryd.prog 104 = some 1 := by kernel_rfl
@[simp] theorem agg104 : aggB Tryd.prog 104 = some false := by kernel_rfl
@[simp] theorem zr104 : zr Tryd.prog 104 = some (.int .u64 0) := by kernel_rfl
@[simp] theorem lesz104 : lesz Tryd.prog 104 = some 1 := by kernel_rfl
attribute [simp] Tryd.underlying105
@[simp] theorem sz105 : sz Tryd.prog 105 = some 1 := by kernel_rfl
@[simp] theorem agg105 : aggB Tryd.prog 105 = some false := by kernel_rfl
@[simp] theorem zr105 : zr Tryd.prog 105 = some (.slice none 0 0) := by kernel_rfl
@[simp] theorem lesz105 : lesz Tryd.prog 105 = some 1 := by kernel_rfl
attribute [simp] Tryd.underlying106
@[simp] theorem sz106 : sz Tryd.prog 106 = some 1 := by kernel_rfl
@[simp] theorem agg106 : aggB Tryd.prog 106 = some false := by kernel_rfl
@[simp] theorem zr106 : zr Tryd.prog 106 = some (.slice none 0 0) := by kernel_rfl
@[simp] theorem lesz106 : lesz Tryd.prog 106 = some 1 := by kernel_rfl
@[simp] theorem plc107 : plcB Tryd.prog 107 = true := by kernel_rfl
@[simp] theorem fld107_0 : fldi Tryd.prog 107 0 = some (0, 1, false) := by kernel_rfl
@[simp] theorem fld107_1 : fldi Tryd.prog 107 1 = some (1, 1, false) := by kernel_rfl
@[simp] theorem fld107_2 : fldi Tryd.prog 107 2 = some (2, 1, false) := by kernel_rfl
@[simp] theorem sz107 : sz Tryd.prog 107 = some 3 := by kernel_rfl
@[simp] theorem agg107 : aggB Tryd.prog 107 = some true := by kernel_rfl
@[simp] theorem zr107 : zr Tryd.prog 107 = some (.agg #[.slice none 0 0, .slice none 0 0, .int .i64 0]) := by kernel_rfl
@[simp] theorem lesz107 : lesz Tryd.prog 107 = some 3 := by kernel_rfl
@[simp] theorem plc108 : plcB Tryd.prog 108 = true := by kernel_rfl
@[simp] theorem fld108_0 : fldi Tryd.prog 108 0 = some (0, 1, false) := by kernel_rfl
@[simp] theorem fld108_1 : fldi Tryd.prog 108 1 = some (1, 1, false) := by kernel_rfl
@[simp] theorem fld108_2 : fldi Tryd.prog 108 2 = some (2, 1, false) := by kernel_rfl
@[simp] theorem sz108 : sz Tryd.prog 108 = some 3 := by kernel_rfl
@[simp] theorem agg108 : aggB Tryd.prog 108 = some true := by kernel_rfl
@[simp] theorem zr108 : zr Tryd.prog 108 = some (.agg #[.slice none 0 0, .slice none 0 0, .int .i64 0]) := by kernel_rfl
@[simp] theorem lesz108 : lesz Tryd.prog 108 = some 3 := by kernel_rfl
attribute [simp] Tryd.underlying109
@[simp] theorem sz109 : sz Tryd.prog 109 = some 1 := by kernel_rfl
@[simp] theorem agg109 : aggB Tryd.prog 109 = some false := by kernel_rfl
@[simp] theorem zr109 : zr Tryd.prog 109 = some (.int .u16 0) := by kernel_rfl
@[simp] theorem lesz109 : lesz Tryd.prog 109 = some 1 := by kernel_rfl
@[simp] theorem plc110 : plcB Tryd.prog 110 = true := by kernel_rfl
@[simp] theorem fld110_0 : fldi Tryd.prog 110 0 = some (0, 1, false) := by kernel_rfl
@[simp] theorem fld110_1 : fldi Tryd.prog 110 1 = some (1, 1, false) := by kernel_rfl
@[simp] theorem fld110_2 : fldi Tryd.prog 110 2 = some (2, 1, false) := by kernel_rfl
@[simp] theorem sz110 : sz Tryd.prog 110 = some 3 := by kernel_rfl
@[simp] theorem agg110 : aggB Tryd.prog 110 = some true := by kernel_rfl
@[simp] theorem zr110 : zr Tryd.prog 110 = some (.agg #[.int .u16 0, .int .u16 0, .int .u16 0]) := by kernel_rfl
@[simp] theorem lesz110 : lesz Tryd.prog 110 = some 3 := by kernel_rfl
@[simp] theorem plc111 : plcB Tryd.prog 111 = true := by kernel_rfl
@[simp] theorem fld111_0 : fldi Tryd.prog 111 0 = some (0, 1, false) := by kernel_rfl
@[simp] theorem fld111_1 : fldi Tryd.prog 111 1 = some (1, 1, false) := by kernel_rfl
@[simp] theorem fld111_2 : fldi Tryd.prog 111 2 = some (2, 1, false) := by kernel_rfl
@[simp] theorem sz111 : sz Tryd.prog 111 = some 3 := by kernel_rfl
@[simp] theorem agg111 : aggB Tryd.prog 111 = some true := by kernel_rfl
@[simp] theorem zr111 : zr Tryd.prog 111 = some (.agg #[.int .u16 0, .int .u16 0, .int .u16 0]) := by kernel_rfl
@[simp] theorem lesz111 : lesz Tryd.prog 111 = some 3 := by kernel_rfl
attribute [simp] Tryd.underlying112
@[simp] theorem plc113 : plcB Tryd.prog 113 = true := by kernel_rfl
@[simp] theorem fld113_0 : fldi Tryd.prog 113 0 = some (0, 1, false) := by kernel_rfl
@[simp] theorem fld113_1 : fldi Tryd.prog 113 1 = some (1, 1, false) := by kernel_rfl
@[simp] theorem fld113_2 : fldi Tryd.prog 113 2 = some (2, 1, false) := by kernel_rfl
@[simp] theorem sz113 : sz Tryd.prog 113 = some 3 := by kernel_rfl
@[simp] theorem agg113 : aggB Tryd.prog 113 = some true := by kernel_rfl
@[simp] theorem zr113 : zr Tryd.prog 113 = some (.agg #[.int .u32 0, .int .u32 0, .int .u32 0]) := by kernel_rfl
@[simp] theorem lesz113 : lesz Tryd.prog 113 = some 3 := by kernel_rfl
@[simp] theorem plc114 : plcB Tryd.prog 114 = true := by kernel_rfl
@[simp] theorem fld114_0 : fldi Tryd.prog 114 0 = some (0, 1, false) := by kernel_rfl
@[simp] theorem fld114_1 : fldi Tryd.prog 114 1 = some (1, 1, false) := by kernel_rfl
@[simp] theorem fld114_2 : fldi Tryd.prog 114 2 = some (2, 1, false) := by kernel_rfl
@[simp] theorem sz114 : sz Tryd.prog 114 = some 3 := by kernel_rfl
@[simp] theorem agg114 : aggB Tryd.prog 114 = some true := by kernel_rfl
@[simp] theorem zr114 : zr Tryd.prog 114 = some (.agg #[.int .u32 0, .int .u32 0, .int .u32 0]) := by kernel_rfl
@[simp] theorem lesz114 : lesz Tryd.prog 114 = some 3 := by kernel_rfl
attribute [simp] Tryd.underlying115
@[simp] theorem plc116 : plcB Tryd.prog 116 = true := by kernel_rfl
@[simp] theorem fld116_0 : fldi Tryd.prog 116 0 = some (0, 1, false) := by kernel_rfl
@[simp] theorem fld116_1 : fldi Tryd.prog 116 1 = some (1, 1, false) := by kernel_rfl
@[simp] theorem sz116 : sz Tryd.prog 116 = some 2 := by kernel_rfl
@[simp] theorem agg116 : aggB Tryd.prog 116 = some true := by kernel_rfl
@[simp] theorem zr116 : zr Tryd.prog 116 = some (.agg #[.int .u8 0, .int .u8 0]) := by kernel_rfl
@[simp] theorem lesz116 : lesz Tryd.prog 116 = some 2 := by kernel_rfl
@[simp] theorem plc117 : plcB Tryd.prog 117 = true := by kernel_rfl
@[simp] theorem fld117_0 : fldi Tryd.prog 117 0 = some (0, 1, false) := by kernel_rfl
@[simp] theorem fld117_1 : fldi Tryd.prog 117 1 = some (1, 1, false) := by kernel_rfl
@[simp] theorem sz117 : sz Tryd.prog 117 = some 2 := by kernel_rfl
@[simp] theorem agg117 : aggB Tryd.prog 117 = some true := by kernel_rfl
@[simp] theorem zr117 : zr Tryd.prog 117 = some (.agg #[.int .u8 0, .int .u8 0]) := by kernel_rfl
@[simp] theorem lesz117 : lesz Tryd.prog 117 = some 2 := by kernel_rfl
attribute [simp] Tryd.underlying118
@[simp] theorem sz118 : sz Tryd.prog 118 = some 32 := by kernel_rfl
@[simp] theorem agg118 : aggB Tryd.prog 118 = some true := by kernel_rfl
@[simp] theorem zr118 : zr Tryd.prog 118 = some (.agg #[.int .u8 0, .int .u8 0, .int .u8 0, .int .u8 0, .int .u8 0, .int .u8 0, .int .u8 0, .int .u8 0, .int .u8 0, .int .u8 0, .int .u8 0, .int .u8 0, .int .u8 0, .int .u8 0, .int .u8 0, .int .u8 0, .int .u8 0, .int .u8 0, .int .u8 0, .int .u8 0, .int .u8 0, .int .u8 0, .int .u8 0, .int .u8 0, .int .u8 0, .int .u8 0, .int .u8 0, .int .u8 0, .int .u8 0, .int .u8 0, .int .u8 0, .int .u8 0]) := by kernel_rfl
@[simp] theorem lesz118 : lesz Tryd.prog 118 = some 32 := by kernel_rfl
attribute [simp] Tryd.underlying119
@[simp] theorem sz119 : sz Tryd.prog 119 = some 1 := by kernel_rfl
@[simp] theorem zr119 : zr Tryd.prog 119 = some (.tuple #[.int .u32 0, .int .u32 0]) := by kernel_rfl
@[simp] theorem lesz119 : lesz Tryd.prog 119 = some 1 := by kernel_rfl
attribute [simp] Tryd.underlying120
attribute [simp] Tryd.underlying121
@[simp] theorem sz121 : sz Tryd.prog 121 = some 1 := by kernel_rfl
@[simp] theorem agg121 : aggB Tryd.prog 121 = some false := by kernel_rfl
@[simp] theorem zr121 : zr Tryd.prog 121 = some (.pointer none) := by kernel_rfl
@[simp] theorem lesz121 : lesz Tryd.prog 121 = some 1 := by kernel_rfl
attribute [simp] Tryd.underlying122
@[simp] theorem sz122 : sz Tryd.prog 122 = some 1 := by kernel_rfl
@[simp] theorem agg122 : aggB Tryd.prog 122 = some false := by kernel_rfl
@[simp] theorem zr122 : zr Tryd.prog 122 = some (.pointer none) := by kernel_rfl
@[simp] theorem lesz122 : lesz Tryd.prog 122 = some 1 := by kernel_rfl
@[simp] theorem plc123 : plcB Tryd.prog 123 = true := by kernel_rfl
@[simp] theorem fld123_0 : fldi Tryd.prog 123 0 = some (0, 1, false) := by kernel_rfl
@[simp] theorem fld123_1 : fldi Tryd.prog 123 1 = some (1, 1, false) := by kernel_rfl
@[simp] theorem fld123_2 : fldi Tryd.prog 123 2 = some (2, 1, false) := by kernel_rfl
@[simp] theorem fld123_3 : fldi Tryd.prog 123 3 = some (3, 1, false) := by kernel_rfl
@[simp] theorem sz123 : sz Tryd.prog 123 = some 4 := by kernel_rfl
@[simp] theorem agg123 : aggB Tryd.prog 123 = some true := by kernel_rfl
@[simp] theorem zr123 : zr Tryd.prog 123 = some (.agg #[.pointer none, .pointer none, .pointer none, .string ⟨#[]⟩]) := by kernel_rfl
@[simp] theorem lesz123 : lesz Tryd.prog 123 = some 4 := by kernel_rfl
@[simp] theorem plc124 : plcB Tryd.prog 124 = true := by kernel_rfl
@[simp] theorem fld124_0 : fldi Tryd.prog 124 0 = some (0, 1, false) := by kernel_rfl
@[simp] theorem fld124_1 : fldi Tryd.prog 124 1 = some (1, 1, false) := by kernel_rfl
@[simp] theorem fld124_2 : fldi Tryd.prog 124 2 = some (2, 1, false) := by kernel_rfl
@[simp] theorem fld124_3 : fldi Tryd.prog 124 3 = some (3, 1, false) := by kernel_rfl
@[simp] theorem sz124 : sz Tryd.prog 124 = some 4 := by kernel_rfl
@[simp] theorem agg124 : aggB Tryd.prog 124 = some true := by kernel_rfl
@[simp] theorem zr124 : zr Tryd.prog 124 = some (.agg #[.pointer none, .pointer none, .pointer none, .string ⟨#[]⟩]) := by kernel_rfl
@[simp] theorem lesz124 : lesz Tryd.prog 124 = some 4 := by kernel_rfl
attribute [simp] Tryd.underlying125
@[simp] theorem sz125 : sz Tryd.prog 125 = some 0 := by kernel_rfl
@[simp] theorem agg125 : aggB Tryd.prog 125 = some true := by kernel_rfl
@[simp] theorem zr125 : zr Tryd.prog 125 = some (.agg #[]) := by kernel_rfl
@[simp] theorem plc126 : plcB Tryd.prog 126 = true := by kernel_rfl
@[simp] theorem fld126_0 : fldi Tryd.prog 126 0 = some (0, 0, true) := by kernel_rfl
@[simp] theorem sz126 : sz Tryd.prog 126 = some 0 := by kernel_rfl
@[simp] theorem agg126 : aggB Tryd.prog 126 = some true := by kernel_rfl
@[simp] theorem zr126 : zr Tryd.prog 126 = some (.agg #[]) := by kernel_rfl
@[simp] theorem plc127 : plcB Tryd.prog 127 = true := by kernel_rfl
@[simp] theorem fld127_0 : fldi Tryd.prog 127 0 = some (0, 0, true) := by kernel_rfl
@[simp] theorem sz127 : sz Tryd.prog 127 = some 0 := by kernel_rfl
@[simp] theorem agg127 : aggB Tryd.prog 127 = some true := by kernel_rfl
@[simp] theorem zr127 : zr Tryd.prog 127 = some (.agg #[]) := by kernel_rfl
attribute [simp] Tryd.underlying128
@[simp] theorem sz128 : sz Tryd.prog 128 = some 1 := by kernel_rfl
@[simp] theorem agg128 : aggB Tryd.prog 128 = some false := by kernel_rfl
@[simp] theorem zr128 : zr Tryd.prog 128 = some (.int .u8 0) := by kernel_rfl
@[simp] theorem lesz128 : lesz Tryd.prog 128 = some 1 := by kernel_rfl
attribute [simp] Tryd.underlying129
@[simp] theorem sz129 : sz Tryd.prog 129 = some 1 := by kernel_rfl
@[simp] theorem agg129 : aggB Tryd.prog 129 = some false := by kernel_rfl
@[simp] theorem zr129 : zr Tryd.prog 129 = some (.int .u8 0) := by kernel_rfl
@[simp] theorem lesz129 : lesz Tryd.prog 129 = some 1 := by kernel_rfl
attribute [simp] Tryd.underlying130
attribute [simp] Tryd.underlying131
@[simp] theorem sz131 : sz Tryd.prog 131 = some 1 := by kernel_rfl
@[simp] theorem agg131 : aggB Tryd.prog 131 = some false := by kernel_rfl
@[simp] theorem zr131 : zr Tryd.prog 131 = some (.pointer none) := by kernel_rfl
@[simp] theorem lesz131 : lesz Tryd.prog 131 = some 1 := by kernel_rfl
attribute [simp] Tryd.underlying132
@[simp] theorem sz132 : sz Tryd.prog 132 = some 1 := by kernel_rfl
@[simp] theorem agg132 : aggB Tryd.prog 132 = some false := by kernel_rfl
@[simp] theorem zr132 : zr Tryd.prog 132 = some (.int .i32 0) := by kernel_rfl
@[simp] theorem lesz132 : lesz Tryd.prog 132 = some 1 := by kernel_rfl
attribute [simp] Tryd.underlying133
@[simp] theorem sz133 : sz Tryd.prog 133 = some 1 := by kernel_rfl
@[simp] theorem agg133 : aggB Tryd.prog 133 = some false := by kernel_rfl
@[simp] theorem zr133 : zr Tryd.prog 133 = some (.int .i32 0) := by kernel_rfl
@[simp] theorem lesz133 : lesz Tryd.prog 133 = some 1 := by kernel_rfl
@[simp] theorem plc134 : plcB Tryd.prog 134 = true := by kernel_rfl
@[simp] theorem fld134_0 : fldi Tryd.prog 134 0 = some (0, 1, false) := by kernel_rfl
@[simp] theorem fld134_1 : fldi Tryd.prog 134 1 = some (1, 1, false) := by kernel_rfl
@[simp] theorem fld134_2 : fldi Tryd.prog 134 2 = some (2, 1, false) := by kernel_rfl
@[simp] theorem fld134_3 : fldi Tryd.prog 134 3 = some (3, 1, false) := by kernel_rfl
@[simp] theorem fld134_4 : fldi Tryd.prog 134 4 = some (4, 1, false) := by kernel_rfl
@[simp] theorem fld134_5 : fldi Tryd.prog 134 5 = some (5, 1, false) := by kernel_rfl
@[simp] theorem fld134_6 : fldi Tryd.prog 134 6 = some (6, 1, false) := by kernel_rfl
@[simp] theorem fld134_7 : fldi Tryd.prog 134 7 = some (7, 1, false) := by kernel_rfl
@[simp] theorem fld134_8 : fldi Tryd.prog 134 8 = some (8, 1, false) := by kernel_rfl
@[simp] theorem fld134_9 : fldi Tryd.prog 134 9 = some (9, 1, false) := by kernel_rfl
@[simp] theorem fld134_10 : fldi Tryd.prog 134 10 = some (10, 1, false) := by kernel_rfl
@[simp] theorem sz134 : sz Tryd.prog 134 = some 11 := by kernel_rfl
@[simp] theorem agg134 : aggB Tryd.prog 134 = some true := by kernel_rfl
@[simp] theorem zr134 : zr Tryd.prog 134 = some (.agg #[.int .u64 0, .int .u64 0, .int .u32 0, .int .u8 0, .int .u8 0, .int .u8 0, .int .u8 0, .nilFunc, .pointer none, .int .i32 0, .int .i32 0]) := by kernel_rfl
@[simp] theorem lesz134 : lesz Tryd.prog 134 = some 11 := by kernel_rfl
@[simp] theorem plc135 : plcB Tryd.prog 135 = true := by kernel_rfl
@[simp] theorem fld135_0 : fldi Tryd.prog 135 0 = some (0, 1, false) := by kernel_rfl
@[simp] theorem fld135_1 : fldi Tryd.prog 135 1 = some (1, 1, false) := by kernel_rfl
@[simp] theorem fld135_2 : fldi Tryd.prog 135 2 = some (2, 1, false) := by kernel_rfl
@[simp] theorem fld135_3 : fldi Tryd.prog 135 3 = some (3, 1, false) := by kernel_rfl
@[simp] theorem fld135_4 : fldi Tryd.prog 135 4 = some (4, 1, false) := by kernel_rfl
@[simp] theorem fld135_5 : fldi Tryd.prog 135 5 = some (5, 1, false) := by kernel_rfl
@[simp] theorem fld135_6 : fldi Tryd.prog 135 6 = some (6, 1, false) := by kernel_rfl
@[simp] theorem fld135_7 : fldi Tryd.prog 135 7 = some (7, 1, false) := by kernel_rfl
@[simp] theorem fld135_8 : fldi Tryd.prog 135 8 = some (8, 1, false) := by kernel_rfl
@[simp] theorem fld135_9 : fldi Tryd.prog 135 9 = some (9, 1, false) := by kernel_rfl
@[simp] theorem fld135_10 : fldi Tryd.prog 135 10 = some (10, 1, false) := by kernel_rfl
@[simp] theorem sz135 : sz Tryd.prog 135 = some 11 := by kernel_rfl
@[simp] theorem agg135 : aggB Tryd.prog 135 = some true := by kernel_rfl
@[simp] theorem zr135 : zr Tryd.prog 135 = some (.agg #[.int .u64 0, .int .u64 0, .int .u32 0, .int .u8 0, .int .u8 0, .int .u8 0, .int .u8 0, .nilFunc, .pointer none, .int .i32 0, .int .i32 0]) := by kernel_rfl
@[simp] theorem lesz135 : lesz Tryd.prog 135 = some 11 := by kernel_rfl
attribute [simp] Tryd.underlying136
set_option linter.all false
attribute [simp] Tryd.results0 Tryd.ntmps0
attribute [simp] Tryd.results1 Tryd.ntmps1
attribute [simp] Tryd.results2 Tryd.ntmps2
attribute [simp] Tryd.results3 Tryd.ntmps3
attribute [simp] Tryd.results4 Tryd.ntmps4
attribute [simp] Tryd.results5 Tryd.ntmps5
attribute [simp] Tryd.results6 Tryd.ntmps6
attribute [simp] Tryd.results7 Tryd.ntmps7
attribute [simp] Tryd.results8 Tryd.ntmps8
attribute [simp] Tryd.results9 Tryd.ntmps9
attribute [simp] Tryd.results10 Tryd.ntmps10
attribute [simp] Tryd.results11 Tryd.ntmps11
attribute [simp] Tryd.results12 Tryd.ntmps12
attribute [simp] Tryd.results13 Tryd.ntmps13
attribute [simp] Tryd.results14 Tryd.ntmps14
attribute [simp] Tryd.results15 Tryd.ntmps15
attribute [simp] Tryd.results16 Tryd.ntmps16
attribute [simp] Tryd.results17 Tryd.ntmps17
attribute [simp] Tryd.results18 Tryd.ntmps18
attribute [simp] Tryd.results19 Tryd.ntmps19
attribute [simp] Tryd.results20 Tryd.ntmps20
attribute [simp] Tryd.results21 Tryd.ntmps21
attribute [simp] Tryd.results22 Tryd.ntmps22
attribute [simp] Tryd.results23 Tryd.ntmps23
attribute [simp] Tryd.results24 Tryd.ntmps24
attribute [simp] Tryd.results25 Tryd.ntmps25
attribute [simp] Tryd.results26 Tryd.ntmps26
attribute [simp] Tryd.results27 Tryd.ntmps27
attribute [simp] Tryd.results28 Tryd.ntmps28
attribute [simp] Tryd.results29 Tryd.ntmps29
attribute [simp] Tryd.results30 Tryd.ntmps30
attribute [simp] Tryd.results31 Tryd.ntmps31
attribute [simp] Tryd.results32 Tryd.ntmps32
attribute [simp] Tryd.results33 Tryd.ntmps33
attribute [simp] Tryd.results34 Tryd.ntmps34
attribute [simp] Tryd.results35 Tryd.ntmps35
attribute [simp] Tryd.results36 Tryd.ntmps36
attribute [simp] Tryd.results37 Tryd.ntmps37
attribute [simp] Tryd.results38 Tryd.ntmps38
attribute [simp] Tryd.results39 Tryd.ntmps39
attribute [simp] Tryd.results40 Tryd.ntmps40
attribute [simp] Tryd.results41 Tryd.ntmps41
attribute [simp] Tryd.results42 Tryd.ntmps42
attribute [simp] Tryd.results43 Tryd.ntmps43
attribute [simp] Tryd.results44 Tryd.ntmps44
attribute [simp] Tryd.results45 Tryd.ntmps45
attribute [simp] Tryd.results46 Tryd.ntmps46
attribute [simp] Tryd.results47 Tryd.ntmps47
attribute [simp] Tryd.results48 Tryd.ntmps48
attribute [simp] Tryd.results49 Tryd.ntmps49
attribute [simp] Tryd.results50 Tryd.ntmps50
attribute [simp] Tryd.results51 Tryd.ntmps51
attribute [simp] Tryd.results52 Tryd.ntmps52
attribute [simp] Tryd.results53 Tryd.ntmps53
attribute [simp] Tryd.results54 Tryd.ntmps54
attribute [simp] Tryd.results55 Tryd.ntmps55
attribute [simp] Tryd.results56 Tryd.ntmps56
attribute [simp] Tryd.results57 Tryd.ntmps57
attribute [simp] Tryd.results58 Tryd.ntmps58
attribute [simp] Tryd.results59 Tryd.ntmps59
attribute [simp] Tryd.results60 Tryd.ntmps60
attribute [simp] Tryd.results61 Tryd.ntmps61
attribute [simp] Tryd.results62 Tryd.ntmps62
attribute [simp] Tryd.results63 Tryd.ntmps63
attribute [simp] Tryd.results64 Tryd.ntmps64
attribute [simp] Tryd.results65 Tryd.ntmps65
attribute [simp] Tryd.results66 Tryd.ntmps66
attribute [simp] Tryd.results67 Tryd.ntmps67
attribute [simp] Tryd.results68 Tryd.ntmps68
attribute [simp] Tryd.results69 Tryd.ntmps69
attribute [simp] Tryd.results70 Tryd.ntmps70
attribute [simp] Tryd.results71 Tryd.ntmps71
attribute [simp] Tryd.results72 Tryd.ntmps72
attribute [simp] Tryd.results73 Tryd.ntmps73
attribute [simp] Tryd.results74 Tryd.ntmps74
attribute [simp] Tryd.results75 Tryd.ntmps75
attribute [simp] Tryd.results76 Tryd.ntmps76
attribute [simp] Tryd.results77 Tryd.ntmps77
attribute [simp] Tryd.results78 Tryd.ntmps78
attribute [simp] Tryd.results79 Tryd.ntmps79
attribute [simp] Tryd.results80 Tryd.ntmps80
attribute [simp] Tryd.results81 Tryd.ntmps81
attribute [simp] Tryd.results82 Tryd.ntmps82
attribute [simp] Tryd.results83 Tryd.ntmps83
attribute [simp] Tryd.results84 Tryd.ntmps84
attribute [simp] Tryd.results85 Tryd.ntmps85
attribute [simp] Tryd.results86 Tryd.ntmps86
attribute [simp] Tryd.results87 Tryd.ntmps87
attribute [simp] Tryd.results88 Tryd.ntmps88
attribute [simp] Tryd.results89 Tryd.ntmps89
attribute [simp] Tryd.results90 Tryd.ntmps90
attribute [simp] Tryd.results91 Tryd.ntmps91
attribute [simp] Tryd.results92 Tryd.ntmps92
attribute [simp] Tryd.results93 Tryd.ntmps93
attribute [simp] Tryd.results94 Tryd.ntmps94
attribute [simp] Tryd.results95 Tryd.ntmps95
attribute [simp] Tryd.results96 Tryd.ntmps96
attribute [simp] Tryd.results97 Tryd.ntmps97
attribute [simp] Tryd.results98 Tryd.ntmps98
attribute [simp] Tryd.results99 Tryd.ntmps99
attribute [simp] Tryd.results100 Tryd.ntmps100
attribute [simp] Tryd.results101 Tryd.ntmps101
attribute [simp] Tryd.results102 Tryd.ntmps102
attribute [simp] Tryd.results103 Tryd.ntmps103
attribute [simp] Tryd.results104 Tryd.ntmps104
attribute [simp] Tryd.results105 Tryd.ntmps105
attribute [simp] Tryd.results106 Tryd.ntmps106
attribute [simp] Tryd.results107 Tryd.ntmps107
attribute [simp] Tryd.results108 Tryd.ntmps108
attribute [simp] Tryd.results109 Tryd.ntmps109
attribute [simp] Tryd.results110 Tryd.ntmps110
attribute [simp] Tryd.results111 Tryd.ntmps111
attribute [simp] Tryd.results112 Tryd.ntmps112
attribute [simp] Tryd.results113 Tryd.ntmps113
attribute [simp] Tryd.results114 Tryd.ntmps114
attribute [simp] Tryd.results115 Tryd.ntmps115
attribute [simp] Tryd.results116 Tryd.ntmps116
attribute [simp] Tryd.results117 Tryd.ntmps117
attribute [simp] Tryd.results118 Tryd.ntmps118
attribute [simp] Tryd.results119 Tryd.ntmps119
attribute [simp] Tryd.results120 Tryd.ntmps120
attribute [simp] Tryd.results121 Tryd.ntmps121
attribute [simp] Tryd.results122 Tryd.ntmps122
attribute [simp] Tryd.results123 Tryd.ntmps123
attribute [simp] Tryd.results124 Tryd.ntmps124
attribute [simp] Tryd.results125 Tryd.ntmps125
attribute [simp] Tryd.results126 Tryd.ntmps126
attribute [simp] Tryd.results127 Tryd.ntmps127
attribute [simp] Tryd.results128 Tryd.ntmps128
attribute [simp] Tryd.results129 Tryd.ntmps129
attribute [simp] Tryd.results130 Tryd.ntmps130
attribute [simp] Tryd.results131 Tryd.ntmps131
attribute [simp] Tryd.results132 Tryd.ntmps132
attribute [simp] Tryd.results133 Tryd.ntmps133
attribute [simp] Tryd.results134 Tryd.ntmps134
attribute [simp] Tryd.results135 Tryd.ntmps135
attribute [simp] Tryd.results136 Tryd.ntmps136
attribute [simp] Tryd.results137 Tryd.ntmps137
attribute [simp] Tryd.results138 Tryd.ntmps138
attribute [simp] Tryd.results139 Tryd.ntmps139
attribute [simp] Tryd.results140 Tryd.ntmps140
attribute [simp] Tryd.results141 Tryd.ntmps141
attribute [simp] Tryd.results142 Tryd.ntmps142
attribute [simp] Tryd.results143 Tryd.ntmps143
attribute [simp] Tryd.results144 Tryd.ntmps144
attribute [simp] Tryd.results145 Tryd.ntmps145
attribute [simp] Tryd.results146 Tryd.ntmps146
attribute [simp] Tryd.results147 Tryd.ntmps147
attribute [simp] Tryd.results148 Tryd.ntmps148
attribute [simp] Tryd.results149 Tryd.ntmps149
attribute [simp] Tryd.results150 Tryd.ntmps150
attribute [simp] Tryd.results151 Tryd.ntmps151
attribute [simp] Tryd.results152 Tryd.ntmps152
attribute [simp] Tryd.results153 Tryd.ntmps153
attribute [simp] Tryd.results154 Tryd.ntmps154
attribute [simp] Tryd.results155 Tryd.ntmps155
attribute [simp] Tryd.results156 Tryd.ntmps156
attribute [simp] Tryd.results157 Tryd.ntmps157
theorem mixed : Tryd.prog.follows .mixedOrders = true := by kernel_rfl
end Go.Proofs.YtgnefbngkhjfcaaDoor
