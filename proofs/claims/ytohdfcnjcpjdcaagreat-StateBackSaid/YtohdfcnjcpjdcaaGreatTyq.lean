/- What the walk asks of the program's types. Conditions: none. -/
import Derived.Test.YtohdfcnjcpjdcaaGreatProg
import Derived.Test.YtohdfcnjcpjdcaaGreatA3q
namespace Go.Proofs.YtohdfcnjcpjdcaaGreat
theorem follows_mixed : Tryz.prog.follows .mixedOrders = true := by kernel_rfl
@[go_sem] theorem tySize2 : tSize Tryz.prog 2 = some 1 := by kernel_rfl
@[go_sem] theorem tyRow2 : tRow Tryz.prog 2 = some false := by kernel_rfl
@[go_sem] theorem tyZero2 : tZero Tryz.prog 2 = some [(.int .i64 0)] := by kernel_rfl
@[go_sem] theorem tyInt2 : tInt Tryz.prog 2 = some .i64 := by kernel_rfl
@[go_sem] theorem tyStr2 : tStr Tryz.prog 2 = false := by kernel_rfl
@[go_sem] theorem tySize3 : tSize Tryz.prog 3 = some 1 := by kernel_rfl
@[go_sem] theorem tyRow3 : tRow Tryz.prog 3 = some false := by kernel_rfl
@[go_sem] theorem tyZero3 : tZero Tryz.prog 3 = some [(.int .i64 0)] := by kernel_rfl
@[go_sem] theorem tyInt3 : tInt Tryz.prog 3 = some .i64 := by kernel_rfl
@[go_sem] theorem tyStr3 : tStr Tryz.prog 3 = false := by kernel_rfl
@[go_sem] theorem tySize4 : tSize Tryz.prog 4 = some 1 := by kernel_rfl
@[go_sem] theorem tyRow4 : tRow Tryz.prog 4 = some false := by kernel_rfl
@[go_sem] theorem tyZero4 : tZero Tryz.prog 4 = some [(.bool false)] := by kernel_rfl
@[go_sem] theorem tyStr4 : tStr Tryz.prog 4 = false := by kernel_rfl
@[go_sem] theorem tySize5 : tSize Tryz.prog 5 = some 1 := by kernel_rfl
@[go_sem] theorem tyRow5 : tRow Tryz.prog 5 = some false := by kernel_rfl
@[go_sem] theorem tyZero5 : tZero Tryz.prog 5 = some [(.int .u8 0)] := by kernel_rfl
@[go_sem] theorem tyInt5 : tInt Tryz.prog 5 = some .u8 := by kernel_rfl
@[go_sem] theorem tyStr5 : tStr Tryz.prog 5 = false := by kernel_rfl
@[go_sem] theorem tySize6 : tSize Tryz.prog 6 = some 1 := by kernel_rfl
@[go_sem] theorem tyRow6 : tRow Tryz.prog 6 = some false := by kernel_rfl
@[go_sem] theorem tyZero6 : tZero Tryz.prog 6 = some [(.int .u8 0)] := by kernel_rfl
@[go_sem] theorem tyInt6 : tInt Tryz.prog 6 = some .u8 := by kernel_rfl
@[go_sem] theorem tyStr6 : tStr Tryz.prog 6 = false := by kernel_rfl
@[go_sem] theorem tySize7 : tSize Tryz.prog 7 = some 4 := by kernel_rfl
@[go_sem] theorem tyRow7 : tRow Tryz.prog 7 = some true := by kernel_rfl
@[go_sem] theorem tyZero7 : tZero Tryz.prog 7 = some [(.int .i64 0), (.int .i64 0), (.bool false), (.int .u8 0)] := by kernel_rfl
@[go_sem] theorem tyField7_0 : tField Tryz.prog 7 0 = some (0, 2) := by kernel_rfl
@[go_sem] theorem tyField7_1 : tField Tryz.prog 7 1 = some (1, 3) := by kernel_rfl
@[go_sem] theorem tyField7_2 : tField Tryz.prog 7 2 = some (2, 4) := by kernel_rfl
@[go_sem] theorem tyField7_3 : tField Tryz.prog 7 3 = some (3, 6) := by kernel_rfl
@[go_sem] theorem tyFields7 : tFields Tryz.prog 7 = some [(0, 1), (1, 1), (2, 1), (3, 1)] := by kernel_rfl
@[go_sem] theorem tyStr7 : tStr Tryz.prog 7 = false := by kernel_rfl
@[go_sem] theorem tySize8 : tSize Tryz.prog 8 = some 4 := by kernel_rfl
@[go_sem] theorem tyRow8 : tRow Tryz.prog 8 = some true := by kernel_rfl
@[go_sem] theorem tyZero8 : tZero Tryz.prog 8 = some [(.int .i64 0), (.int .i64 0), (.bool false), (.int .u8 0)] := by kernel_rfl
@[go_sem] theorem tyField8_0 : tField Tryz.prog 8 0 = some (0, 2) := by kernel_rfl
@[go_sem] theorem tyField8_1 : tField Tryz.prog 8 1 = some (1, 3) := by kernel_rfl
@[go_sem] theorem tyField8_2 : tField Tryz.prog 8 2 = some (2, 4) := by kernel_rfl
@[go_sem] theorem tyField8_3 : tField Tryz.prog 8 3 = some (3, 6) := by kernel_rfl
@[go_sem] theorem tyFields8 : tFields Tryz.prog 8 = some [(0, 1), (1, 1), (2, 1), (3, 1)] := by kernel_rfl
@[go_sem] theorem tyStr8 : tStr Tryz.prog 8 = false := by kernel_rfl
@[go_sem] theorem tySize9 : tSize Tryz.prog 9 = some 1 := by kernel_rfl
@[go_sem] theorem tyRow9 : tRow Tryz.prog 9 = some false := by kernel_rfl
@[go_sem] theorem tyZero9 : tZero Tryz.prog 9 = some [(.string ⟨#[]⟩)] := by kernel_rfl
@[go_sem] theorem tyStr9 : tStr Tryz.prog 9 = true := by kernel_rfl
@[go_sem] theorem tySize10 : tSize Tryz.prog 10 = some 1 := by kernel_rfl
@[go_sem] theorem tyRow10 : tRow Tryz.prog 10 = some false := by kernel_rfl
@[go_sem] theorem tyZero10 : tZero Tryz.prog 10 = some [(.string ⟨#[]⟩)] := by kernel_rfl
@[go_sem] theorem tyStr10 : tStr Tryz.prog 10 = true := by kernel_rfl
@[go_sem] theorem tySize11 : tSize Tryz.prog 11 = some 1 := by kernel_rfl
@[go_sem] theorem tyRow11 : tRow Tryz.prog 11 = some false := by kernel_rfl
@[go_sem] theorem tyZero11 : tZero Tryz.prog 11 = some [(.string ⟨#[]⟩)] := by kernel_rfl
@[go_sem] theorem tyStr11 : tStr Tryz.prog 11 = true := by kernel_rfl
@[go_sem] theorem tySize12 : tSize Tryz.prog 12 = some 1 := by kernel_rfl
@[go_sem] theorem tyRow12 : tRow Tryz.prog 12 = some false := by kernel_rfl
@[go_sem] theorem tyZero12 : tZero Tryz.prog 12 = some [(.int .u64 0)] := by kernel_rfl
@[go_sem] theorem tyInt12 : tInt Tryz.prog 12 = some .u64 := by kernel_rfl
@[go_sem] theorem tyStr12 : tStr Tryz.prog 12 = false := by kernel_rfl
@[go_sem] theorem tySize13 : tSize Tryz.prog 13 = some 2 := by kernel_rfl
@[go_sem] theorem tyRow13 : tRow Tryz.prog 13 = some true := by kernel_rfl
@[go_sem] theorem tyZero13 : tZero Tryz.prog 13 = some [(.string ⟨#[]⟩), (.int .u64 0)] := by kernel_rfl
@[go_sem] theorem tyField13_0 : tField Tryz.prog 13 0 = some (0, 9) := by kernel_rfl
@[go_sem] theorem tyField13_1 : tField Tryz.prog 13 1 = some (1, 12) := by kernel_rfl
@[go_sem] theorem tyFields13 : tFields Tryz.prog 13 = some [(0, 1), (1, 1)] := by kernel_rfl
@[go_sem] theorem tyStr13 : tStr Tryz.prog 13 = false := by kernel_rfl
@[go_sem] theorem tySize14 : tSize Tryz.prog 14 = some 2 := by kernel_rfl
@[go_sem] theorem tyRow14 : tRow Tryz.prog 14 = some true := by kernel_rfl
@[go_sem] theorem tyZero14 : tZero Tryz.prog 14 = some [(.string ⟨#[]⟩), (.int .u64 0)] := by kernel_rfl
@[go_sem] theorem tyField14_0 : tField Tryz.prog 14 0 = some (0, 9) := by kernel_rfl
@[go_sem] theorem tyField14_1 : tField Tryz.prog 14 1 = some (1, 12) := by kernel_rfl
@[go_sem] theorem tyFields14 : tFields Tryz.prog 14 = some [(0, 1), (1, 1)] := by kernel_rfl
@[go_sem] theorem tyStr14 : tStr Tryz.prog 14 = false := by kernel_rfl
@[go_sem] theorem tySize15 : tSize Tryz.prog 15 = some 1 := by kernel_rfl
@[go_sem] theorem tyRow15 : tRow Tryz.prog 15 = some false := by kernel_rfl
@[go_sem] theorem tyZero15 : tZero Tryz.prog 15 = some [(.pointer none)] := by kernel_rfl
@[go_sem] theorem tyStr15 : tStr Tryz.prog 15 = false := by kernel_rfl
@[go_sem] theorem tySize16 : tSize Tryz.prog 16 = some 1 := by kernel_rfl
@[go_sem] theorem tyRow16 : tRow Tryz.prog 16 = some false := by kernel_rfl
@[go_sem] theorem tyZero16 : tZero Tryz.prog 16 = some [(.pointer none)] := by kernel_rfl
@[go_sem] theorem tyStr16 : tStr Tryz.prog 16 = false := by kernel_rfl
@[go_sem] theorem tySize17 : tSize Tryz.prog 17 = some 1 := by kernel_rfl
@[go_sem] theorem tyRow17 : tRow Tryz.prog 17 = some false := by kernel_rfl
@[go_sem] theorem tyZero17 : tZero Tryz.prog 17 = some [(.pointer none)] := by kernel_rfl
@[go_sem] theorem tyStr17 : tStr Tryz.prog 17 = false := by kernel_rfl
@[go_sem] theorem tySize18 : tSize Tryz.prog 18 = some 1 := by kernel_rfl
@[go_sem] theorem tyRow18 : tRow Tryz.prog 18 = some true := by kernel_rfl
@[go_sem] theorem tyZero18 : tZero Tryz.prog 18 = some [(.pointer none)] := by kernel_rfl
@[go_sem] theorem tyField18_0 : tField Tryz.prog 18 0 = some (0, 17) := by kernel_rfl
@[go_sem] theorem tyFields18 : tFields Tryz.prog 18 = some [(0, 1)] := by kernel_rfl
@[go_sem] theorem tyStr18 : tStr Tryz.prog 18 = false := by kernel_rfl
@[go_sem] theorem tySize19 : tSize Tryz.prog 19 = some 1 := by kernel_rfl
@[go_sem] theorem tyRow19 : tRow Tryz.prog 19 = some true := by kernel_rfl
@[go_sem] theorem tyZero19 : tZero Tryz.prog 19 = some [(.pointer none)] := by kernel_rfl
@[go_sem] theorem tyField19_0 : tField Tryz.prog 19 0 = some (0, 17) := by kernel_rfl
@[go_sem] theorem tyFields19 : tFields Tryz.prog 19 = some [(0, 1)] := by kernel_rfl
@[go_sem] theorem tyStr19 : tStr Tryz.prog 19 = false := by kernel_rfl
@[go_sem] theorem tySize21 : tSize Tryz.prog 21 = some 1 := by kernel_rfl
@[go_sem] theorem tyRow21 : tRow Tryz.prog 21 = some false := by kernel_rfl
@[go_sem] theorem tyZero21 : tZero Tryz.prog 21 = some [(.int .i32 0)] := by kernel_rfl
@[go_sem] theorem tyInt21 : tInt Tryz.prog 21 = some .i32 := by kernel_rfl
@[go_sem] theorem tyStr21 : tStr Tryz.prog 21 = false := by kernel_rfl
@[go_sem] theorem tySize22 : tSize Tryz.prog 22 = some 1 := by kernel_rfl
@[go_sem] theorem tyRow22 : tRow Tryz.prog 22 = some false := by kernel_rfl
@[go_sem] theorem tyZero22 : tZero Tryz.prog 22 = some [(.slice none 0 0)] := by kernel_rfl
@[go_sem] theorem tySlice22 : tSlice Tryz.prog 22 = some 66 := by kernel_rfl
@[go_sem] theorem tyStr22 : tStr Tryz.prog 22 = false := by kernel_rfl
@[go_sem] theorem tySize24 : tSize Tryz.prog 24 = some 1 := by kernel_rfl
@[go_sem] theorem tyRow24 : tRow Tryz.prog 24 = some false := by kernel_rfl
@[go_sem] theorem tyZero24 : tZero Tryz.prog 24 = some [(.slice none 0 0)] := by kernel_rfl
@[go_sem] theorem tySlice24 : tSlice Tryz.prog 24 = some 42 := by kernel_rfl
@[go_sem] theorem tyStr24 : tStr Tryz.prog 24 = false := by kernel_rfl
@[go_sem] theorem tySize25 : tSize Tryz.prog 25 = some 1 := by kernel_rfl
@[go_sem] theorem tyRow25 : tRow Tryz.prog 25 = some false := by kernel_rfl
@[go_sem] theorem tyZero25 : tZero Tryz.prog 25 = some [(.slice none 0 0)] := by kernel_rfl
@[go_sem] theorem tySlice25 : tSlice Tryz.prog 25 = some 38 := by kernel_rfl
@[go_sem] theorem tyStr25 : tStr Tryz.prog 25 = false := by kernel_rfl
@[go_sem] theorem tySize26 : tSize Tryz.prog 26 = some 1 := by kernel_rfl
@[go_sem] theorem tyRow26 : tRow Tryz.prog 26 = some false := by kernel_rfl
@[go_sem] theorem tyZero26 : tZero Tryz.prog 26 = some [(.slice none 0 0)] := by kernel_rfl
@[go_sem] theorem tySlice26 : tSlice Tryz.prog 26 = some 89 := by kernel_rfl
@[go_sem] theorem tyStr26 : tStr Tryz.prog 26 = false := by kernel_rfl
@[go_sem] theorem tySize27 : tSize Tryz.prog 27 = some 1 := by kernel_rfl
@[go_sem] theorem tyRow27 : tRow Tryz.prog 27 = some false := by kernel_rfl
@[go_sem] theorem tyZero27 : tZero Tryz.prog 27 = some [(.slice none 0 0)] := by kernel_rfl
@[go_sem] theorem tySlice27 : tSlice Tryz.prog 27 = some 68 := by kernel_rfl
@[go_sem] theorem tyStr27 : tStr Tryz.prog 27 = false := by kernel_rfl
@[go_sem] theorem tySize28 : tSize Tryz.prog 28 = some 1 := by kernel_rfl
@[go_sem] theorem tyRow28 : tRow Tryz.prog 28 = some false := by kernel_rfl
@[go_sem] theorem tyZero28 : tZero Tryz.prog 28 = some [(.slice none 0 0)] := by kernel_rfl
@[go_sem] theorem tySlice28 : tSlice Tryz.prog 28 = some 3 := by kernel_rfl
@[go_sem] theorem tyStr28 : tStr Tryz.prog 28 = false := by kernel_rfl
@[go_sem] theorem tySize29 : tSize Tryz.prog 29 = some 7 := by kernel_rfl
@[go_sem] theorem tyRow29 : tRow Tryz.prog 29 = some true := by kernel_rfl
@[go_sem] theorem tyZero29 : tZero Tryz.prog 29 = some [(.int .i64 0), (.int .i64 0), (.slice none 0 0), (.slice none 0 0), (.slice none 0 0), (.slice none 0 0), (.slice none 0 0)] := by kernel_rfl
@[go_sem] theorem tyField29_0 : tField Tryz.prog 29 0 = some (0, 3) := by kernel_rfl
@[go_sem] theorem tyField29_1 : tField Tryz.prog 29 1 = some (1, 3) := by kernel_rfl
@[go_sem] theorem tyField29_2 : tField Tryz.prog 29 2 = some (2, 24) := by kernel_rfl
@[go_sem] theorem tyField29_3 : tField Tryz.prog 29 3 = some (3, 25) := by kernel_rfl
@[go_sem] theorem tyField29_4 : tField Tryz.prog 29 4 = some (4, 26) := by kernel_rfl
@[go_sem] theorem tyField29_5 : tField Tryz.prog 29 5 = some (5, 27) := by kernel_rfl
@[go_sem] theorem tyField29_6 : tField Tryz.prog 29 6 = some (6, 28) := by kernel_rfl
@[go_sem] theorem tyFields29 : tFields Tryz.prog 29 = some [(0, 1), (1, 1), (2, 1), (3, 1), (4, 1), (5, 1), (6, 1)] := by kernel_rfl
@[go_sem] theorem tyStr29 : tStr Tryz.prog 29 = false := by kernel_rfl
@[go_sem] theorem tySize30 : tSize Tryz.prog 30 = some 7 := by kernel_rfl
@[go_sem] theorem tyRow30 : tRow Tryz.prog 30 = some true := by kernel_rfl
@[go_sem] theorem tyZero30 : tZero Tryz.prog 30 = some [(.int .i64 0), (.int .i64 0), (.slice none 0 0), (.slice none 0 0), (.slice none 0 0), (.slice none 0 0), (.slice none 0 0)] := by kernel_rfl
@[go_sem] theorem tyField30_0 : tField Tryz.prog 30 0 = some (0, 3) := by kernel_rfl
@[go_sem] theorem tyField30_1 : tField Tryz.prog 30 1 = some (1, 3) := by kernel_rfl
@[go_sem] theorem tyField30_2 : tField Tryz.prog 30 2 = some (2, 24) := by kernel_rfl
@[go_sem] theorem tyField30_3 : tField Tryz.prog 30 3 = some (3, 25) := by kernel_rfl
@[go_sem] theorem tyField30_4 : tField Tryz.prog 30 4 = some (4, 26) := by kernel_rfl
@[go_sem] theorem tyField30_5 : tField Tryz.prog 30 5 = some (5, 27) := by kernel_rfl
@[go_sem] theorem tyField30_6 : tField Tryz.prog 30 6 = some (6, 28) := by kernel_rfl
@[go_sem] theorem tyFields30 : tFields Tryz.prog 30 = some [(0, 1), (1, 1), (2, 1), (3, 1), (4, 1), (5, 1), (6, 1)] := by kernel_rfl
@[go_sem] theorem tyStr30 : tStr Tryz.prog 30 = false := by kernel_rfl
@[go_sem] theorem tySize31 : tSize Tryz.prog 31 = some 1 := by kernel_rfl
@[go_sem] theorem tyRow31 : tRow Tryz.prog 31 = some false := by kernel_rfl
@[go_sem] theorem tyZero31 : tZero Tryz.prog 31 = some [(.slice none 0 0)] := by kernel_rfl
@[go_sem] theorem tySlice31 : tSlice Tryz.prog 31 = some 72 := by kernel_rfl
@[go_sem] theorem tyStr31 : tStr Tryz.prog 31 = false := by kernel_rfl
@[go_sem] theorem tySize34 : tSize Tryz.prog 34 = some 1 := by kernel_rfl
@[go_sem] theorem tyRow34 : tRow Tryz.prog 34 = some false := by kernel_rfl
@[go_sem] theorem tyZero34 : tZero Tryz.prog 34 = some [(.int .i64 0)] := by kernel_rfl
@[go_sem] theorem tyInt34 : tInt Tryz.prog 34 = some .i64 := by kernel_rfl
@[go_sem] theorem tyStr34 : tStr Tryz.prog 34 = false := by kernel_rfl
@[go_sem] theorem tySize37 : tSize Tryz.prog 37 = some 12 := by kernel_rfl
@[go_sem] theorem tyRow37 : tRow Tryz.prog 37 = some true := by kernel_rfl
@[go_sem] theorem tyZero37 : tZero Tryz.prog 37 = some [(.int .i64 0), (.string ⟨#[]⟩), (.string ⟨#[]⟩), (.bool false), (.bool false), (.int .i64 0), (.int .i64 0), (.int .i64 0), (.slice none 0 0), (.int .i64 0), (.int .i64 0), (.int .i64 0)] := by kernel_rfl
@[go_sem] theorem tyField37_0 : tField Tryz.prog 37 0 = some (0, 3) := by kernel_rfl
@[go_sem] theorem tyField37_1 : tField Tryz.prog 37 1 = some (1, 9) := by kernel_rfl
@[go_sem] theorem tyField37_2 : tField Tryz.prog 37 2 = some (2, 9) := by kernel_rfl
@[go_sem] theorem tyField37_3 : tField Tryz.prog 37 3 = some (3, 4) := by kernel_rfl
@[go_sem] theorem tyField37_4 : tField Tryz.prog 37 4 = some (4, 4) := by kernel_rfl
@[go_sem] theorem tyField37_5 : tField Tryz.prog 37 5 = some (5, 3) := by kernel_rfl
@[go_sem] theorem tyField37_6 : tField Tryz.prog 37 6 = some (6, 3) := by kernel_rfl
@[go_sem] theorem tyField37_7 : tField Tryz.prog 37 7 = some (7, 3) := by kernel_rfl
@[go_sem] theorem tyField37_8 : tField Tryz.prog 37 8 = some (8, 28) := by kernel_rfl
@[go_sem] theorem tyField37_9 : tField Tryz.prog 37 9 = some (9, 3) := by kernel_rfl
@[go_sem] theorem tyField37_10 : tField Tryz.prog 37 10 = some (10, 3) := by kernel_rfl
@[go_sem] theorem tyField37_11 : tField Tryz.prog 37 11 = some (11, 3) := by kernel_rfl
@[go_sem] theorem tyFields37 : tFields Tryz.prog 37 = some [(0, 1), (1, 1), (2, 1), (3, 1), (4, 1), (5, 1), (6, 1), (7, 1), (8, 1), (9, 1), (10, 1), (11, 1)] := by kernel_rfl
@[go_sem] theorem tyStr37 : tStr Tryz.prog 37 = false := by kernel_rfl
@[go_sem] theorem tySize38 : tSize Tryz.prog 38 = some 12 := by kernel_rfl
@[go_sem] theorem tyRow38 : tRow Tryz.prog 38 = some true := by kernel_rfl
@[go_sem] theorem tyZero38 : tZero Tryz.prog 38 = some [(.int .i64 0), (.string ⟨#[]⟩), (.string ⟨#[]⟩), (.bool false), (.bool false), (.int .i64 0), (.int .i64 0), (.int .i64 0), (.slice none 0 0), (.int .i64 0), (.int .i64 0), (.int .i64 0)] := by kernel_rfl
@[go_sem] theorem tyField38_0 : tField Tryz.prog 38 0 = some (0, 3) := by kernel_rfl
@[go_sem] theorem tyField38_1 : tField Tryz.prog 38 1 = some (1, 9) := by kernel_rfl
@[go_sem] theorem tyField38_2 : tField Tryz.prog 38 2 = some (2, 9) := by kernel_rfl
@[go_sem] theorem tyField38_3 : tField Tryz.prog 38 3 = some (3, 4) := by kernel_rfl
@[go_sem] theorem tyField38_4 : tField Tryz.prog 38 4 = some (4, 4) := by kernel_rfl
@[go_sem] theorem tyField38_5 : tField Tryz.prog 38 5 = some (5, 3) := by kernel_rfl
@[go_sem] theorem tyField38_6 : tField Tryz.prog 38 6 = some (6, 3) := by kernel_rfl
@[go_sem] theorem tyField38_7 : tField Tryz.prog 38 7 = some (7, 3) := by kernel_rfl
@[go_sem] theorem tyField38_8 : tField Tryz.prog 38 8 = some (8, 28) := by kernel_rfl
@[go_sem] theorem tyField38_9 : tField Tryz.prog 38 9 = some (9, 3) := by kernel_rfl
@[go_sem] theorem tyField38_10 : tField Tryz.prog 38 10 = some (10, 3) := by kernel_rfl
@[go_sem] theorem tyField38_11 : tField Tryz.prog 38 11 = some (11, 3) := by kernel_rfl
@[go_sem] theorem tyFields38 : tFields Tryz.prog 38 = some [(0, 1), (1, 1), (2, 1), (3, 1), (4, 1), (5, 1), (6, 1), (7, 1), (8, 1), (9, 1), (10, 1), (11, 1)] := by kernel_rfl
@[go_sem] theorem tyStr38 : tStr Tryz.prog 38 = false := by kernel_rfl
@[go_sem] theorem tySize39 : tSize Tryz.prog 39 = some 3 := by kernel_rfl
@[go_sem] theorem tyRow39 : tRow Tryz.prog 39 = some true := by kernel_rfl
@[go_sem] theorem tyZero39 : tZero Tryz.prog 39 = some [(.string ⟨#[]⟩), (.int .i64 0), (.int .i64 0)] := by kernel_rfl
@[go_sem] theorem tyField39_0 : tField Tryz.prog 39 0 = some (0, 9) := by kernel_rfl
@[go_sem] theorem tyField39_1 : tField Tryz.prog 39 1 = some (1, 3) := by kernel_rfl
@[go_sem] theorem tyField39_2 : tField Tryz.prog 39 2 = some (2, 3) := by kernel_rfl
@[go_sem] theorem tyFields39 : tFields Tryz.prog 39 = some [(0, 1), (1, 1), (2, 1)] := by kernel_rfl
@[go_sem] theorem tyStr39 : tStr Tryz.prog 39 = false := by kernel_rfl
@[go_sem] theorem tySize40 : tSize Tryz.prog 40 = some 3 := by kernel_rfl
@[go_sem] theorem tyRow40 : tRow Tryz.prog 40 = some true := by kernel_rfl
@[go_sem] theorem tyZero40 : tZero Tryz.prog 40 = some [(.string ⟨#[]⟩), (.int .i64 0), (.int .i64 0)] := by kernel_rfl
@[go_sem] theorem tyField40_0 : tField Tryz.prog 40 0 = some (0, 9) := by kernel_rfl
@[go_sem] theorem tyField40_1 : tField Tryz.prog 40 1 = some (1, 3) := by kernel_rfl
@[go_sem] theorem tyField40_2 : tField Tryz.prog 40 2 = some (2, 3) := by kernel_rfl
@[go_sem] theorem tyFields40 : tFields Tryz.prog 40 = some [(0, 1), (1, 1), (2, 1)] := by kernel_rfl
@[go_sem] theorem tyStr40 : tStr Tryz.prog 40 = false := by kernel_rfl
@[go_sem] theorem tySize41 : tSize Tryz.prog 41 = some 5 := by kernel_rfl
@[go_sem] theorem tyRow41 : tRow Tryz.prog 41 = some true := by kernel_rfl
@[go_sem] theorem tyZero41 : tZero Tryz.prog 41 = some [(.string ⟨#[]⟩), (.int .i64 0), (.string ⟨#[]⟩), (.int .i64 0), (.int .i64 0)] := by kernel_rfl
@[go_sem] theorem tyField41_0 : tField Tryz.prog 41 0 = some (0, 9) := by kernel_rfl
@[go_sem] theorem tyField41_1 : tField Tryz.prog 41 1 = some (1, 3) := by kernel_rfl
@[go_sem] theorem tyField41_2 : tField Tryz.prog 41 2 = some (2, 40) := by kernel_rfl
@[go_sem] theorem tyFields41 : tFields Tryz.prog 41 = some [(0, 1), (1, 1), (2, 3)] := by kernel_rfl
@[go_sem] theorem tyStr41 : tStr Tryz.prog 41 = false := by kernel_rfl
@[go_sem] theorem tySize42 : tSize Tryz.prog 42 = some 5 := by kernel_rfl
@[go_sem] theorem tyRow42 : tRow Tryz.prog 42 = some true := by kernel_rfl
@[go_sem] theorem tyZero42 : tZero Tryz.prog 42 = some [(.string ⟨#[]⟩), (.int .i64 0), (.string ⟨#[]⟩), (.int .i64 0), (.int .i64 0)] := by kernel_rfl
@[go_sem] theorem tyField42_0 : tField Tryz.prog 42 0 = some (0, 9) := by kernel_rfl
@[go_sem] theorem tyField42_1 : tField Tryz.prog 42 1 = some (1, 3) := by kernel_rfl
@[go_sem] theorem tyField42_2 : tField Tryz.prog 42 2 = some (2, 40) := by kernel_rfl
@[go_sem] theorem tyFields42 : tFields Tryz.prog 42 = some [(0, 1), (1, 1), (2, 3)] := by kernel_rfl
@[go_sem] theorem tyStr42 : tStr Tryz.prog 42 = false := by kernel_rfl
@[go_sem] theorem tySize44 : tSize Tryz.prog 44 = some 1 := by kernel_rfl
@[go_sem] theorem tyRow44 : tRow Tryz.prog 44 = some false := by kernel_rfl
@[go_sem] theorem tyZero44 : tZero Tryz.prog 44 = some [(.slice none 0 0)] := by kernel_rfl
@[go_sem] theorem tySlice44 : tSlice Tryz.prog 44 = some 5 := by kernel_rfl
@[go_sem] theorem tyStr44 : tStr Tryz.prog 44 = false := by kernel_rfl
@[go_sem] theorem tySize52 : tSize Tryz.prog 52 = some 1 := by kernel_rfl
@[go_sem] theorem tyRow52 : tRow Tryz.prog 52 = some false := by kernel_rfl
@[go_sem] theorem tyZero52 : tZero Tryz.prog 52 = some [(.slice none 0 0)] := by kernel_rfl
@[go_sem] theorem tySlice52 : tSlice Tryz.prog 52 = some 57 := by kernel_rfl
@[go_sem] theorem tyStr52 : tStr Tryz.prog 52 = false := by kernel_rfl
@[go_sem] theorem tySize56 : tSize Tryz.prog 56 = some 7 := by kernel_rfl
@[go_sem] theorem tyRow56 : tRow Tryz.prog 56 = some true := by kernel_rfl
@[go_sem] theorem tyZero56 : tZero Tryz.prog 56 = some [(.string ⟨#[]⟩), (.bool false), (.int .i64 0), (.bool false), (.bool false), (.int .i64 0), (.int .i64 0)] := by kernel_rfl
@[go_sem] theorem tyField56_0 : tField Tryz.prog 56 0 = some (0, 9) := by kernel_rfl
@[go_sem] theorem tyField56_1 : tField Tryz.prog 56 1 = some (1, 4) := by kernel_rfl
@[go_sem] theorem tyField56_2 : tField Tryz.prog 56 2 = some (2, 3) := by kernel_rfl
@[go_sem] theorem tyField56_3 : tField Tryz.prog 56 3 = some (3, 4) := by kernel_rfl
@[go_sem] theorem tyField56_4 : tField Tryz.prog 56 4 = some (4, 4) := by kernel_rfl
@[go_sem] theorem tyField56_5 : tField Tryz.prog 56 5 = some (5, 3) := by kernel_rfl
@[go_sem] theorem tyField56_6 : tField Tryz.prog 56 6 = some (6, 3) := by kernel_rfl
@[go_sem] theorem tyFields56 : tFields Tryz.prog 56 = some [(0, 1), (1, 1), (2, 1), (3, 1), (4, 1), (5, 1), (6, 1)] := by kernel_rfl
@[go_sem] theorem tyStr56 : tStr Tryz.prog 56 = false := by kernel_rfl
@[go_sem] theorem tySize57 : tSize Tryz.prog 57 = some 7 := by kernel_rfl
@[go_sem] theorem tyRow57 : tRow Tryz.prog 57 = some true := by kernel_rfl
@[go_sem] theorem tyZero57 : tZero Tryz.prog 57 = some [(.string ⟨#[]⟩), (.bool false), (.int .i64 0), (.bool false), (.bool false), (.int .i64 0), (.int .i64 0)] := by kernel_rfl
@[go_sem] theorem tyField57_0 : tField Tryz.prog 57 0 = some (0, 9) := by kernel_rfl
@[go_sem] theorem tyField57_1 : tField Tryz.prog 57 1 = some (1, 4) := by kernel_rfl
@[go_sem] theorem tyField57_2 : tField Tryz.prog 57 2 = some (2, 3) := by kernel_rfl
@[go_sem] theorem tyField57_3 : tField Tryz.prog 57 3 = some (3, 4) := by kernel_rfl
@[go_sem] theorem tyField57_4 : tField Tryz.prog 57 4 = some (4, 4) := by kernel_rfl
@[go_sem] theorem tyField57_5 : tField Tryz.prog 57 5 = some (5, 3) := by kernel_rfl
@[go_sem] theorem tyField57_6 : tField Tryz.prog 57 6 = some (6, 3) := by kernel_rfl
@[go_sem] theorem tyFields57 : tFields Tryz.prog 57 = some [(0, 1), (1, 1), (2, 1), (3, 1), (4, 1), (5, 1), (6, 1)] := by kernel_rfl
@[go_sem] theorem tyStr57 : tStr Tryz.prog 57 = false := by kernel_rfl
@[go_sem] theorem tySize61 : tSize Tryz.prog 61 = some 1 := by kernel_rfl
@[go_sem] theorem tyRow61 : tRow Tryz.prog 61 = some false := by kernel_rfl
@[go_sem] theorem tyZero61 : tZero Tryz.prog 61 = some [(.slice none 0 0)] := by kernel_rfl
@[go_sem] theorem tySlice61 : tSlice Tryz.prog 61 = some 9 := by kernel_rfl
@[go_sem] theorem tyStr61 : tStr Tryz.prog 61 = false := by kernel_rfl
@[go_sem] theorem tySize65 : tSize Tryz.prog 65 = some 6 := by kernel_rfl
@[go_sem] theorem tyRow65 : tRow Tryz.prog 65 = some true := by kernel_rfl
@[go_sem] theorem tyZero65 : tZero Tryz.prog 65 = some [(.int .i64 0), (.int .i64 0), (.int .i64 0), (.int .i64 0), (.int .i64 0), (.string ⟨#[]⟩)] := by kernel_rfl
@[go_sem] theorem tyField65_0 : tField Tryz.prog 65 0 = some (0, 3) := by kernel_rfl
@[go_sem] theorem tyField65_1 : tField Tryz.prog 65 1 = some (1, 3) := by kernel_rfl
@[go_sem] theorem tyField65_2 : tField Tryz.prog 65 2 = some (2, 3) := by kernel_rfl
@[go_sem] theorem tyField65_3 : tField Tryz.prog 65 3 = some (3, 3) := by kernel_rfl
@[go_sem] theorem tyField65_4 : tField Tryz.prog 65 4 = some (4, 3) := by kernel_rfl
@[go_sem] theorem tyField65_5 : tField Tryz.prog 65 5 = some (5, 9) := by kernel_rfl
@[go_sem] theorem tyFields65 : tFields Tryz.prog 65 = some [(0, 1), (1, 1), (2, 1), (3, 1), (4, 1), (5, 1)] := by kernel_rfl
@[go_sem] theorem tyStr65 : tStr Tryz.prog 65 = false := by kernel_rfl
@[go_sem] theorem tySize66 : tSize Tryz.prog 66 = some 6 := by kernel_rfl
@[go_sem] theorem tyRow66 : tRow Tryz.prog 66 = some true := by kernel_rfl
@[go_sem] theorem tyZero66 : tZero Tryz.prog 66 = some [(.int .i64 0), (.int .i64 0), (.int .i64 0), (.int .i64 0), (.int .i64 0), (.string ⟨#[]⟩)] := by kernel_rfl
@[go_sem] theorem tyField66_0 : tField Tryz.prog 66 0 = some (0, 3) := by kernel_rfl
@[go_sem] theorem tyField66_1 : tField Tryz.prog 66 1 = some (1, 3) := by kernel_rfl
@[go_sem] theorem tyField66_2 : tField Tryz.prog 66 2 = some (2, 3) := by kernel_rfl
@[go_sem] theorem tyField66_3 : tField Tryz.prog 66 3 = some (3, 3) := by kernel_rfl
@[go_sem] theorem tyField66_4 : tField Tryz.prog 66 4 = some (4, 3) := by kernel_rfl
@[go_sem] theorem tyField66_5 : tField Tryz.prog 66 5 = some (5, 9) := by kernel_rfl
@[go_sem] theorem tyFields66 : tFields Tryz.prog 66 = some [(0, 1), (1, 1), (2, 1), (3, 1), (4, 1), (5, 1)] := by kernel_rfl
@[go_sem] theorem tyStr66 : tStr Tryz.prog 66 = false := by kernel_rfl
@[go_sem] theorem tySize67 : tSize Tryz.prog 67 = some 3 := by kernel_rfl
@[go_sem] theorem tyRow67 : tRow Tryz.prog 67 = some true := by kernel_rfl
@[go_sem] theorem tyZero67 : tZero Tryz.prog 67 = some [(.int .i64 0), (.int .i64 0), (.int .i64 0)] := by kernel_rfl
@[go_sem] theorem tyField67_0 : tField Tryz.prog 67 0 = some (0, 3) := by kernel_rfl
@[go_sem] theorem tyField67_1 : tField Tryz.prog 67 1 = some (1, 3) := by kernel_rfl
@[go_sem] theorem tyField67_2 : tField Tryz.prog 67 2 = some (2, 3) := by kernel_rfl
@[go_sem] theorem tyFields67 : tFields Tryz.prog 67 = some [(0, 1), (1, 1), (2, 1)] := by kernel_rfl
@[go_sem] theorem tyStr67 : tStr Tryz.prog 67 = false := by kernel_rfl
@[go_sem] theorem tySize68 : tSize Tryz.prog 68 = some 3 := by kernel_rfl
@[go_sem] theorem tyRow68 : tRow Tryz.prog 68 = some true := by kernel_rfl
@[go_sem] theorem tyZero68 : tZero Tryz.prog 68 = some [(.int .i64 0), (.int .i64 0), (.int .i64 0)] := by kernel_rfl
@[go_sem] theorem tyField68_0 : tField Tryz.prog 68 0 = some (0, 3) := by kernel_rfl
@[go_sem] theorem tyField68_1 : tField Tryz.prog 68 1 = some (1, 3) := by kernel_rfl
@[go_sem] theorem tyField68_2 : tField Tryz.prog 68 2 = some (2, 3) := by kernel_rfl
@[go_sem] theorem tyFields68 : tFields Tryz.prog 68 = some [(0, 1), (1, 1), (2, 1)] := by kernel_rfl
@[go_sem] theorem tyStr68 : tStr Tryz.prog 68 = false := by kernel_rfl
@[go_sem] theorem tySize69 : tSize Tryz.prog 69 = some 3 := by kernel_rfl
@[go_sem] theorem tyRow69 : tRow Tryz.prog 69 = some true := by kernel_rfl
@[go_sem] theorem tyZero69 : tZero Tryz.prog 69 = some [(.int .i64 0), (.int .i64 0), (.slice none 0 0)] := by kernel_rfl
@[go_sem] theorem tyField69_0 : tField Tryz.prog 69 0 = some (0, 3) := by kernel_rfl
@[go_sem] theorem tyField69_1 : tField Tryz.prog 69 1 = some (1, 3) := by kernel_rfl
@[go_sem] theorem tyField69_2 : tField Tryz.prog 69 2 = some (2, 28) := by kernel_rfl
@[go_sem] theorem tyFields69 : tFields Tryz.prog 69 = some [(0, 1), (1, 1), (2, 1)] := by kernel_rfl
@[go_sem] theorem tyStr69 : tStr Tryz.prog 69 = false := by kernel_rfl
@[go_sem] theorem tySize70 : tSize Tryz.prog 70 = some 3 := by kernel_rfl
@[go_sem] theorem tyRow70 : tRow Tryz.prog 70 = some true := by kernel_rfl
@[go_sem] theorem tyZero70 : tZero Tryz.prog 70 = some [(.int .i64 0), (.int .i64 0), (.slice none 0 0)] := by kernel_rfl
@[go_sem] theorem tyField70_0 : tField Tryz.prog 70 0 = some (0, 3) := by kernel_rfl
@[go_sem] theorem tyField70_1 : tField Tryz.prog 70 1 = some (1, 3) := by kernel_rfl
@[go_sem] theorem tyField70_2 : tField Tryz.prog 70 2 = some (2, 28) := by kernel_rfl
@[go_sem] theorem tyFields70 : tFields Tryz.prog 70 = some [(0, 1), (1, 1), (2, 1)] := by kernel_rfl
@[go_sem] theorem tyStr70 : tStr Tryz.prog 70 = false := by kernel_rfl
@[go_sem] theorem tySize71 : tSize Tryz.prog 71 = some 29 := by kernel_rfl
@[go_sem] theorem tyRow71 : tRow Tryz.prog 71 = some true := by kernel_rfl
@[go_sem] theorem tyZero71 : tZero Tryz.prog 71 = some [(.int .i64 0), (.int .i64 0), (.int .i64 0), (.string ⟨#[]⟩), (.string ⟨#[]⟩), (.string ⟨#[]⟩), (.int .i64 0), (.int .i64 0), (.int .i64 0), (.string ⟨#[]⟩), (.string ⟨#[]⟩), (.bool false), (.bool false), (.int .i64 0), (.int .i64 0), (.int .i64 0), (.slice none 0 0), (.int .i64 0), (.int .i64 0), (.int .i64 0), (.int .i64 0), (.int .i64 0), (.int .i64 0), (.int .i64 0), (.int .i64 0), (.slice none 0 0), (.slice none 0 0), (.int .i64 0), (.int .i64 0)] := by kernel_rfl
@[go_sem] theorem tyField71_0 : tField Tryz.prog 71 0 = some (0, 3) := by kernel_rfl
@[go_sem] theorem tyField71_1 : tField Tryz.prog 71 1 = some (1, 3) := by kernel_rfl
@[go_sem] theorem tyField71_2 : tField Tryz.prog 71 2 = some (2, 3) := by kernel_rfl
@[go_sem] theorem tyField71_3 : tField Tryz.prog 71 3 = some (3, 9) := by kernel_rfl
@[go_sem] theorem tyField71_4 : tField Tryz.prog 71 4 = some (4, 9) := by kernel_rfl
@[go_sem] theorem tyField71_5 : tField Tryz.prog 71 5 = some (5, 40) := by kernel_rfl
@[go_sem] theorem tyField71_6 : tField Tryz.prog 71 6 = some (8, 38) := by kernel_rfl
@[go_sem] theorem tyField71_7 : tField Tryz.prog 71 7 = some (20, 68) := by kernel_rfl
@[go_sem] theorem tyField71_8 : tField Tryz.prog 71 8 = some (23, 70) := by kernel_rfl
@[go_sem] theorem tyField71_9 : tField Tryz.prog 71 9 = some (26, 28) := by kernel_rfl
@[go_sem] theorem tyField71_10 : tField Tryz.prog 71 10 = some (27, 3) := by kernel_rfl
@[go_sem] theorem tyField71_11 : tField Tryz.prog 71 11 = some (28, 3) := by kernel_rfl
@[go_sem] theorem tyFields71 : tFields Tryz.prog 71 = some [(0, 1), (1, 1), (2, 1), (3, 1), (4, 1), (5, 3), (8, 12), (20, 3), (23, 3), (26, 1), (27, 1), (28, 1)] := by kernel_rfl
@[go_sem] theorem tyStr71 : tStr Tryz.prog 71 = false := by kernel_rfl
@[go_sem] theorem tySize72 : tSize Tryz.prog 72 = some 29 := by kernel_rfl
@[go_sem] theorem tyRow72 : tRow Tryz.prog 72 = some true := by kernel_rfl
@[go_sem] theorem tyZero72 : tZero Tryz.prog 72 = some [(.int .i64 0), (.int .i64 0), (.int .i64 0), (.string ⟨#[]⟩), (.string ⟨#[]⟩), (.string ⟨#[]⟩), (.int .i64 0), (.int .i64 0), (.int .i64 0), (.string ⟨#[]⟩), (.string ⟨#[]⟩), (.bool false), (.bool false), (.int .i64 0), (.int .i64 0), (.int .i64 0), (.slice none 0 0), (.int .i64 0), (.int .i64 0), (.int .i64 0), (.int .i64 0), (.int .i64 0), (.int .i64 0), (.int .i64 0), (.int .i64 0), (.slice none 0 0), (.slice none 0 0), (.int .i64 0), (.int .i64 0)] := by kernel_rfl
@[go_sem] theorem tyField72_0 : tField Tryz.prog 72 0 = some (0, 3) := by kernel_rfl
@[go_sem] theorem tyField72_1 : tField Tryz.prog 72 1 = some (1, 3) := by kernel_rfl
@[go_sem] theorem tyField72_2 : tField Tryz.prog 72 2 = some (2, 3) := by kernel_rfl
@[go_sem] theorem tyField72_3 : tField Tryz.prog 72 3 = some (3, 9) := by kernel_rfl
@[go_sem] theorem tyField72_4 : tField Tryz.prog 72 4 = some (4, 9) := by kernel_rfl
@[go_sem] theorem tyField72_5 : tField Tryz.prog 72 5 = some (5, 40) := by kernel_rfl
@[go_sem] theorem tyField72_6 : tField Tryz.prog 72 6 = some (8, 38) := by kernel_rfl
@[go_sem] theorem tyField72_7 : tField Tryz.prog 72 7 = some (20, 68) := by kernel_rfl
@[go_sem] theorem tyField72_8 : tField Tryz.prog 72 8 = some (23, 70) := by kernel_rfl
@[go_sem] theorem tyField72_9 : tField Tryz.prog 72 9 = some (26, 28) := by kernel_rfl
@[go_sem] theorem tyField72_10 : tField Tryz.prog 72 10 = some (27, 3) := by kernel_rfl
@[go_sem] theorem tyField72_11 : tField Tryz.prog 72 11 = some (28, 3) := by kernel_rfl
@[go_sem] theorem tyFields72 : tFields Tryz.prog 72 = some [(0, 1), (1, 1), (2, 1), (3, 1), (4, 1), (5, 3), (8, 12), (20, 3), (23, 3), (26, 1), (27, 1), (28, 1)] := by kernel_rfl
@[go_sem] theorem tyStr72 : tStr Tryz.prog 72 = false := by kernel_rfl
@[go_sem] theorem tySize80 : tSize Tryz.prog 80 = some 1 := by kernel_rfl
@[go_sem] theorem tyRow80 : tRow Tryz.prog 80 = some false := by kernel_rfl
@[go_sem] theorem tyZero80 : tZero Tryz.prog 80 = some [(.pointer none)] := by kernel_rfl
@[go_sem] theorem tyStr80 : tStr Tryz.prog 80 = false := by kernel_rfl
@[go_sem] theorem tySize81 : tSize Tryz.prog 81 = some 1 := by kernel_rfl
@[go_sem] theorem tyRow81 : tRow Tryz.prog 81 = some true := by kernel_rfl
@[go_sem] theorem tyZero81 : tZero Tryz.prog 81 = some [(.slice none 0 0)] := by kernel_rfl
@[go_sem] theorem tyField81_0 : tField Tryz.prog 81 0 = some (0, 44) := by kernel_rfl
@[go_sem] theorem tyFields81 : tFields Tryz.prog 81 = some [(0, 1)] := by kernel_rfl
@[go_sem] theorem tyStr81 : tStr Tryz.prog 81 = false := by kernel_rfl
@[go_sem] theorem tySize82 : tSize Tryz.prog 82 = some 1 := by kernel_rfl
@[go_sem] theorem tyRow82 : tRow Tryz.prog 82 = some true := by kernel_rfl
@[go_sem] theorem tyZero82 : tZero Tryz.prog 82 = some [(.slice none 0 0)] := by kernel_rfl
@[go_sem] theorem tyField82_0 : tField Tryz.prog 82 0 = some (0, 44) := by kernel_rfl
@[go_sem] theorem tyFields82 : tFields Tryz.prog 82 = some [(0, 1)] := by kernel_rfl
@[go_sem] theorem tyStr82 : tStr Tryz.prog 82 = false := by kernel_rfl
@[go_sem] theorem tySize87 : tSize Tryz.prog 87 = some 1 := by kernel_rfl
@[go_sem] theorem tyRow87 : tRow Tryz.prog 87 = some false := by kernel_rfl
@[go_sem] theorem tyZero87 : tZero Tryz.prog 87 = some [(.slice none 0 0)] := by kernel_rfl
@[go_sem] theorem tySlice87 : tSlice Tryz.prog 87 = some 70 := by kernel_rfl
@[go_sem] theorem tyStr87 : tStr Tryz.prog 87 = false := by kernel_rfl
@[go_sem] theorem tySize88 : tSize Tryz.prog 88 = some 4 := by kernel_rfl
@[go_sem] theorem tyRow88 : tRow Tryz.prog 88 = some true := by kernel_rfl
@[go_sem] theorem tyZero88 : tZero Tryz.prog 88 = some [(.int .i64 0), (.string ⟨#[]⟩), (.string ⟨#[]⟩), (.slice none 0 0)] := by kernel_rfl
@[go_sem] theorem tyField88_0 : tField Tryz.prog 88 0 = some (0, 3) := by kernel_rfl
@[go_sem] theorem tyField88_1 : tField Tryz.prog 88 1 = some (1, 9) := by kernel_rfl
@[go_sem] theorem tyField88_2 : tField Tryz.prog 88 2 = some (2, 9) := by kernel_rfl
@[go_sem] theorem tyField88_3 : tField Tryz.prog 88 3 = some (3, 87) := by kernel_rfl
@[go_sem] theorem tyFields88 : tFields Tryz.prog 88 = some [(0, 1), (1, 1), (2, 1), (3, 1)] := by kernel_rfl
@[go_sem] theorem tyStr88 : tStr Tryz.prog 88 = false := by kernel_rfl
@[go_sem] theorem tySize89 : tSize Tryz.prog 89 = some 4 := by kernel_rfl
@[go_sem] theorem tyRow89 : tRow Tryz.prog 89 = some true := by kernel_rfl
@[go_sem] theorem tyZero89 : tZero Tryz.prog 89 = some [(.int .i64 0), (.string ⟨#[]⟩), (.string ⟨#[]⟩), (.slice none 0 0)] := by kernel_rfl
@[go_sem] theorem tyField89_0 : tField Tryz.prog 89 0 = some (0, 3) := by kernel_rfl
@[go_sem] theorem tyField89_1 : tField Tryz.prog 89 1 = some (1, 9) := by kernel_rfl
@[go_sem] theorem tyField89_2 : tField Tryz.prog 89 2 = some (2, 9) := by kernel_rfl
@[go_sem] theorem tyField89_3 : tField Tryz.prog 89 3 = some (3, 87) := by kernel_rfl
@[go_sem] theorem tyFields89 : tFields Tryz.prog 89 = some [(0, 1), (1, 1), (2, 1), (3, 1)] := by kernel_rfl
@[go_sem] theorem tyStr89 : tStr Tryz.prog 89 = false := by kernel_rfl
@[go_sem] theorem tySize93 : tSize Tryz.prog 93 = some 1 := by kernel_rfl
@[go_sem] theorem tyRow93 : tRow Tryz.prog 93 = some false := by kernel_rfl
@[go_sem] theorem tyZero93 : tZero Tryz.prog 93 = some [(.pointer none)] := by kernel_rfl
@[go_sem] theorem tyStr93 : tStr Tryz.prog 93 = false := by kernel_rfl
@[go_sem] theorem tySize95 : tSize Tryz.prog 95 = some 2 := by kernel_rfl
@[go_sem] theorem tyRow95 : tRow Tryz.prog 95 = some true := by kernel_rfl
@[go_sem] theorem tyZero95 : tZero Tryz.prog 95 = some [(.slice none 0 0), (.int .i64 0)] := by kernel_rfl
@[go_sem] theorem tyField95_0 : tField Tryz.prog 95 0 = some (0, 44) := by kernel_rfl
@[go_sem] theorem tyField95_1 : tField Tryz.prog 95 1 = some (1, 34) := by kernel_rfl
@[go_sem] theorem tyFields95 : tFields Tryz.prog 95 = some [(0, 1), (1, 1)] := by kernel_rfl
@[go_sem] theorem tyStr95 : tStr Tryz.prog 95 = false := by kernel_rfl
@[go_sem] theorem tySize96 : tSize Tryz.prog 96 = some 2 := by kernel_rfl
@[go_sem] theorem tyRow96 : tRow Tryz.prog 96 = some true := by kernel_rfl
@[go_sem] theorem tyZero96 : tZero Tryz.prog 96 = some [(.slice none 0 0), (.int .i64 0)] := by kernel_rfl
@[go_sem] theorem tyField96_0 : tField Tryz.prog 96 0 = some (0, 44) := by kernel_rfl
@[go_sem] theorem tyField96_1 : tField Tryz.prog 96 1 = some (1, 34) := by kernel_rfl
@[go_sem] theorem tyFields96 : tFields Tryz.prog 96 = some [(0, 1), (1, 1)] := by kernel_rfl
@[go_sem] theorem tyStr96 : tStr Tryz.prog 96 = false := by kernel_rfl
@[go_sem] theorem tySize110 : tSize Tryz.prog 110 = some 1 := by kernel_rfl
@[go_sem] theorem tyRow110 : tRow Tryz.prog 110 = some false := by kernel_rfl
@[go_sem] theorem tyZero110 : tZero Tryz.prog 110 = some [(.slice none 0 0)] := by kernel_rfl
@[go_sem] theorem tySlice110 : tSlice Tryz.prog 110 = some 25 := by kernel_rfl
@[go_sem] theorem tyStr110 : tStr Tryz.prog 110 = false := by kernel_rfl
@[go_sem] theorem tySize124 : tSize Tryz.prog 124 = some 1 := by kernel_rfl
@[go_sem] theorem tyRow124 : tRow Tryz.prog 124 = some false := by kernel_rfl
@[go_sem] theorem tyZero124 : tZero Tryz.prog 124 = some [(.pointer none)] := by kernel_rfl
@[go_sem] theorem tyStr124 : tStr Tryz.prog 124 = false := by kernel_rfl
@[go_sem] theorem tySize125 : tSize Tryz.prog 125 = some 1 := by kernel_rfl
@[go_sem] theorem tyRow125 : tRow Tryz.prog 125 = some false := by kernel_rfl
@[go_sem] theorem tyZero125 : tZero Tryz.prog 125 = some [(.map none)] := by kernel_rfl
@[go_sem] theorem tyStr125 : tStr Tryz.prog 125 = false := by kernel_rfl
@[go_sem] theorem tySize126 : tSize Tryz.prog 126 = some 1 := by kernel_rfl
@[go_sem] theorem tyRow126 : tRow Tryz.prog 126 = some false := by kernel_rfl
@[go_sem] theorem tyZero126 : tZero Tryz.prog 126 = some [(.map none)] := by kernel_rfl
@[go_sem] theorem tyStr126 : tStr Tryz.prog 126 = false := by kernel_rfl
@[go_sem] theorem tySize134 : tSize Tryz.prog 134 = some 1 := by kernel_rfl
@[go_sem] theorem tyRow134 : tRow Tryz.prog 134 = some false := by kernel_rfl
@[go_sem] theorem tyZero134 : tZero Tryz.prog 134 = some [(.int .u64 0)] := by kernel_rfl
@[go_sem] theorem tyInt134 : tInt Tryz.prog 134 = some .u64 := by kernel_rfl
@[go_sem] theorem tyStr134 : tStr Tryz.prog 134 = false := by kernel_rfl
@[go_sem] theorem tySize153 : tSize Tryz.prog 153 = some 1 := by kernel_rfl
@[go_sem] theorem tyRow153 : tRow Tryz.prog 153 = some false := by kernel_rfl
@[go_sem] theorem tyZero153 : tZero Tryz.prog 153 = some [(.map none)] := by kernel_rfl
@[go_sem] theorem tyStr153 : tStr Tryz.prog 153 = false := by kernel_rfl
@[go_sem] theorem tySize155 : tSize Tryz.prog 155 = some 2 := by kernel_rfl
@[go_sem] theorem tyRow155 : tRow Tryz.prog 155 = some true := by kernel_rfl
@[go_sem] theorem tyZero155 : tZero Tryz.prog 155 = some [(.string ⟨#[]⟩), (.string ⟨#[]⟩)] := by kernel_rfl
@[go_sem] theorem tyFields155 : tFields Tryz.prog 155 = some [(0, 1), (1, 1)] := by kernel_rfl
@[go_sem] theorem tyStr155 : tStr Tryz.prog 155 = false := by kernel_rfl
@[go_sem] theorem tySize170 : tSize Tryz.prog 170 = some 1 := by kernel_rfl
@[go_sem] theorem tyRow170 : tRow Tryz.prog 170 = some false := by kernel_rfl
@[go_sem] theorem tyZero170 : tZero Tryz.prog 170 = some [(.pointer none)] := by kernel_rfl
@[go_sem] theorem tyStr170 : tStr Tryz.prog 170 = false := by kernel_rfl
@[go_sem] theorem tySize172 : tSize Tryz.prog 172 = some 1 := by kernel_rfl
@[go_sem] theorem tyRow172 : tRow Tryz.prog 172 = some false := by kernel_rfl
@[go_sem] theorem tyZero172 : tZero Tryz.prog 172 = some [(.pointer none)] := by kernel_rfl
@[go_sem] theorem tyStr172 : tStr Tryz.prog 172 = false := by kernel_rfl
@[go_sem] theorem tySize182 : tSize Tryz.prog 182 = some 1 := by kernel_rfl
@[go_sem] theorem tyRow182 : tRow Tryz.prog 182 = some false := by kernel_rfl
@[go_sem] theorem tyZero182 : tZero Tryz.prog 182 = some [(.int .i64 0)] := by kernel_rfl
@[go_sem] theorem tyInt182 : tInt Tryz.prog 182 = some .i64 := by kernel_rfl
@[go_sem] theorem tyStr182 : tStr Tryz.prog 182 = false := by kernel_rfl
@[go_sem] theorem tySize189 : tSize Tryz.prog 189 = some 1 := by kernel_rfl
@[go_sem] theorem tyRow189 : tRow Tryz.prog 189 = some false := by kernel_rfl
@[go_sem] theorem tyZero189 : tZero Tryz.prog 189 = some [(.int .u32 0)] := by kernel_rfl
@[go_sem] theorem tyInt189 : tInt Tryz.prog 189 = some .u32 := by kernel_rfl
@[go_sem] theorem tyStr189 : tStr Tryz.prog 189 = false := by kernel_rfl
@[go_sem] theorem tySize191 : tSize Tryz.prog 191 = some 1 := by kernel_rfl
@[go_sem] theorem tyRow191 : tRow Tryz.prog 191 = some false := by kernel_rfl
@[go_sem] theorem tyZero191 : tZero Tryz.prog 191 = some [(.int .u64 0)] := by kernel_rfl
@[go_sem] theorem tyInt191 : tInt Tryz.prog 191 = some .u64 := by kernel_rfl
@[go_sem] theorem tyStr191 : tStr Tryz.prog 191 = false := by kernel_rfl
@[go_sem] theorem tySize203 : tSize Tryz.prog 203 = some 1 := by kernel_rfl
@[go_sem] theorem tyRow203 : tRow Tryz.prog 203 = some false := by kernel_rfl
@[go_sem] theorem tyZero203 : tZero Tryz.prog 203 = some [(.int .u64 0)] := by kernel_rfl
@[go_sem] theorem tyInt203 : tInt Tryz.prog 203 = some .u64 := by kernel_rfl
@[go_sem] theorem tyStr203 : tStr Tryz.prog 203 = false := by kernel_rfl
@[go_sem] theorem tySize207 : tSize Tryz.prog 207 = some 1 := by kernel_rfl
@[go_sem] theorem tyRow207 : tRow Tryz.prog 207 = some false := by kernel_rfl
@[go_sem] theorem tyZero207 : tZero Tryz.prog 207 = some [(.pointer none)] := by kernel_rfl
@[go_sem] theorem tyStr207 : tStr Tryz.prog 207 = false := by kernel_rfl
@[go_sem] theorem tySize210 : tSize Tryz.prog 210 = some 1 := by kernel_rfl
@[go_sem] theorem tyRow210 : tRow Tryz.prog 210 = some false := by kernel_rfl
@[go_sem] theorem tyZero210 : tZero Tryz.prog 210 = some [(.pointer none)] := by kernel_rfl
@[go_sem] theorem tyStr210 : tStr Tryz.prog 210 = false := by kernel_rfl
@[go_sem] theorem tySize215 : tSize Tryz.prog 215 = some 4 := by kernel_rfl
@[go_sem] theorem tyRow215 : tRow Tryz.prog 215 = some true := by kernel_rfl
@[go_sem] theorem tyZero215 : tZero Tryz.prog 215 = some [(.pointer none), (.pointer none), (.pointer none), (.string ⟨#[]⟩)] := by kernel_rfl
@[go_sem] theorem tyField215_0 : tField Tryz.prog 215 0 = some (0, 17) := by kernel_rfl
@[go_sem] theorem tyField215_1 : tField Tryz.prog 215 1 = some (1, 17) := by kernel_rfl
@[go_sem] theorem tyField215_2 : tField Tryz.prog 215 2 = some (2, 17) := by kernel_rfl
@[go_sem] theorem tyField215_3 : tField Tryz.prog 215 3 = some (3, 9) := by kernel_rfl
@[go_sem] theorem tyFields215 : tFields Tryz.prog 215 = some [(0, 1), (1, 1), (2, 1), (3, 1)] := by kernel_rfl
@[go_sem] theorem tyStr215 : tStr Tryz.prog 215 = false := by kernel_rfl
@[go_sem] theorem tySize216 : tSize Tryz.prog 216 = some 4 := by kernel_rfl
@[go_sem] theorem tyRow216 : tRow Tryz.prog 216 = some true := by kernel_rfl
@[go_sem] theorem tyZero216 : tZero Tryz.prog 216 = some [(.pointer none), (.pointer none), (.pointer none), (.string ⟨#[]⟩)] := by kernel_rfl
@[go_sem] theorem tyField216_0 : tField Tryz.prog 216 0 = some (0, 17) := by kernel_rfl
@[go_sem] theorem tyField216_1 : tField Tryz.prog 216 1 = some (1, 17) := by kernel_rfl
@[go_sem] theorem tyField216_2 : tField Tryz.prog 216 2 = some (2, 17) := by kernel_rfl
@[go_sem] theorem tyField216_3 : tField Tryz.prog 216 3 = some (3, 9) := by kernel_rfl
@[go_sem] theorem tyFields216 : tFields Tryz.prog 216 = some [(0, 1), (1, 1), (2, 1), (3, 1)] := by kernel_rfl
@[go_sem] theorem tyStr216 : tStr Tryz.prog 216 = false := by kernel_rfl
@[go_sem] theorem tySize217 : tSize Tryz.prog 217 = some 0 := by kernel_rfl
@[go_sem] theorem tyRow217 : tRow Tryz.prog 217 = some true := by kernel_rfl
@[go_sem] theorem tyFields217 : tFields Tryz.prog 217 = some [] := by kernel_rfl
@[go_sem] theorem tyStr217 : tStr Tryz.prog 217 = false := by kernel_rfl
@[go_sem] theorem tySize218 : tSize Tryz.prog 218 = some 0 := by kernel_rfl
@[go_sem] theorem tyRow218 : tRow Tryz.prog 218 = some true := by kernel_rfl
@[go_sem] theorem tyField218_0 : tField Tryz.prog 218 0 = some (0, 217) := by kernel_rfl
@[go_sem] theorem tyFields218 : tFields Tryz.prog 218 = some [(0, 0)] := by kernel_rfl
@[go_sem] theorem tyStr218 : tStr Tryz.prog 218 = false := by kernel_rfl
@[go_sem] theorem tySize219 : tSize Tryz.prog 219 = some 0 := by kernel_rfl
@[go_sem] theorem tyRow219 : tRow Tryz.prog 219 = some true := by kernel_rfl
@[go_sem] theorem tyField219_0 : tField Tryz.prog 219 0 = some (0, 217) := by kernel_rfl
@[go_sem] theorem tyFields219 : tFields Tryz.prog 219 = some [(0, 0)] := by kernel_rfl
@[go_sem] theorem tyStr219 : tStr Tryz.prog 219 = false := by kernel_rfl
@[go_sem] theorem tySize221 : tSize Tryz.prog 221 = some 1 := by kernel_rfl
@[go_sem] theorem tyRow221 : tRow Tryz.prog 221 = some false := by kernel_rfl
@[go_sem] theorem tyZero221 : tZero Tryz.prog 221 = some [(.int .u8 0)] := by kernel_rfl
@[go_sem] theorem tyInt221 : tInt Tryz.prog 221 = some .u8 := by kernel_rfl
@[go_sem] theorem tyStr221 : tStr Tryz.prog 221 = false := by kernel_rfl
@[go_sem] theorem tySize222 : tSize Tryz.prog 222 = some 1 := by kernel_rfl
@[go_sem] theorem tyRow222 : tRow Tryz.prog 222 = some false := by kernel_rfl
@[go_sem] theorem tyZero222 : tZero Tryz.prog 222 = some [(.int .u8 0)] := by kernel_rfl
@[go_sem] theorem tyInt222 : tInt Tryz.prog 222 = some .u8 := by kernel_rfl
@[go_sem] theorem tyStr222 : tStr Tryz.prog 222 = false := by kernel_rfl
@[go_sem] theorem tySize224 : tSize Tryz.prog 224 = some 1 := by kernel_rfl
@[go_sem] theorem tyRow224 : tRow Tryz.prog 224 = some false := by kernel_rfl
@[go_sem] theorem tyZero224 : tZero Tryz.prog 224 = some [(.pointer none)] := by kernel_rfl
@[go_sem] theorem tyStr224 : tStr Tryz.prog 224 = false := by kernel_rfl
@[go_sem] theorem tySize225 : tSize Tryz.prog 225 = some 1 := by kernel_rfl
@[go_sem] theorem tyRow225 : tRow Tryz.prog 225 = some false := by kernel_rfl
@[go_sem] theorem tyZero225 : tZero Tryz.prog 225 = some [(.int .i32 0)] := by kernel_rfl
@[go_sem] theorem tyInt225 : tInt Tryz.prog 225 = some .i32 := by kernel_rfl
@[go_sem] theorem tyStr225 : tStr Tryz.prog 225 = false := by kernel_rfl
@[go_sem] theorem tySize226 : tSize Tryz.prog 226 = some 1 := by kernel_rfl
@[go_sem] theorem tyRow226 : tRow Tryz.prog 226 = some false := by kernel_rfl
@[go_sem] theorem tyZero226 : tZero Tryz.prog 226 = some [(.int .i32 0)] := by kernel_rfl
@[go_sem] theorem tyInt226 : tInt Tryz.prog 226 = some .i32 := by kernel_rfl
@[go_sem] theorem tyStr226 : tStr Tryz.prog 226 = false := by kernel_rfl
@[go_sem] theorem tySize227 : tSize Tryz.prog 227 = some 11 := by kernel_rfl
@[go_sem] theorem tyRow227 : tRow Tryz.prog 227 = some true := by kernel_rfl
@[go_sem] theorem tyZero227 : tZero Tryz.prog 227 = some [(.int .u64 0), (.int .u64 0), (.int .u32 0), (.int .u8 0), (.int .u8 0), (.int .u8 0), (.int .u8 0), .nilFunc, (.pointer none), (.int .i32 0), (.int .i32 0)] := by kernel_rfl
@[go_sem] theorem tyField227_0 : tField Tryz.prog 227 0 = some (0, 12) := by kernel_rfl
@[go_sem] theorem tyField227_1 : tField Tryz.prog 227 1 = some (1, 12) := by kernel_rfl
@[go_sem] theorem tyField227_2 : tField Tryz.prog 227 2 = some (2, 189) := by kernel_rfl
@[go_sem] theorem tyField227_3 : tField Tryz.prog 227 3 = some (3, 221) := by kernel_rfl
@[go_sem] theorem tyField227_4 : tField Tryz.prog 227 4 = some (4, 5) := by kernel_rfl
@[go_sem] theorem tyField227_5 : tField Tryz.prog 227 5 = some (5, 5) := by kernel_rfl
@[go_sem] theorem tyField227_6 : tField Tryz.prog 227 6 = some (6, 222) := by kernel_rfl
@[go_sem] theorem tyField227_7 : tField Tryz.prog 227 7 = some (7, 223) := by kernel_rfl
@[go_sem] theorem tyField227_8 : tField Tryz.prog 227 8 = some (8, 224) := by kernel_rfl
@[go_sem] theorem tyField227_9 : tField Tryz.prog 227 9 = some (9, 225) := by kernel_rfl
@[go_sem] theorem tyField227_10 : tField Tryz.prog 227 10 = some (10, 226) := by kernel_rfl
@[go_sem] theorem tyFields227 : tFields Tryz.prog 227 = some [(0, 1), (1, 1), (2, 1), (3, 1), (4, 1), (5, 1), (6, 1), (7, 1), (8, 1), (9, 1), (10, 1)] := by kernel_rfl
@[go_sem] theorem tyStr227 : tStr Tryz.prog 227 = false := by kernel_rfl
@[go_sem] theorem tySize228 : tSize Tryz.prog 228 = some 11 := by kernel_rfl
@[go_sem] theorem tyRow228 : tRow Tryz.prog 228 = some true := by kernel_rfl
@[go_sem] theorem tyZero228 : tZero Tryz.prog 228 = some [(.int .u64 0), (.int .u64 0), (.int .u32 0), (.int .u8 0), (.int .u8 0), (.int .u8 0), (.int .u8 0), .nilFunc, (.pointer none), (.int .i32 0), (.int .i32 0)] := by kernel_rfl
@[go_sem] theorem tyField228_0 : tField Tryz.prog 228 0 = some (0, 12) := by kernel_rfl
@[go_sem] theorem tyField228_1 : tField Tryz.prog 228 1 = some (1, 12) := by kernel_rfl
@[go_sem] theorem tyField228_2 : tField Tryz.prog 228 2 = some (2, 189) := by kernel_rfl
@[go_sem] theorem tyField228_3 : tField Tryz.prog 228 3 = some (3, 221) := by kernel_rfl
@[go_sem] theorem tyField228_4 : tField Tryz.prog 228 4 = some (4, 5) := by kernel_rfl
@[go_sem] theorem tyField228_5 : tField Tryz.prog 228 5 = some (5, 5) := by kernel_rfl
@[go_sem] theorem tyField228_6 : tField Tryz.prog 228 6 = some (6, 222) := by kernel_rfl
@[go_sem] theorem tyField228_7 : tField Tryz.prog 228 7 = some (7, 223) := by kernel_rfl
@[go_sem] theorem tyField228_8 : tField Tryz.prog 228 8 = some (8, 224) := by kernel_rfl
@[go_sem] theorem tyField228_9 : tField Tryz.prog 228 9 = some (9, 225) := by kernel_rfl
@[go_sem] theorem tyField228_10 : tField Tryz.prog 228 10 = some (10, 226) := by kernel_rfl
@[go_sem] theorem tyFields228 : tFields Tryz.prog 228 = some [(0, 1), (1, 1), (2, 1), (3, 1), (4, 1), (5, 1), (6, 1), (7, 1), (8, 1), (9, 1), (10, 1)] := by kernel_rfl
@[go_sem] theorem tyStr228 : tStr Tryz.prog 228 = false := by kernel_rfl
@[go_sem] theorem tySize229 : tSize Tryz.prog 229 = some 1 := by kernel_rfl
@[go_sem] theorem tyRow229 : tRow Tryz.prog 229 = some false := by kernel_rfl
@[go_sem] theorem tyZero229 : tZero Tryz.prog 229 = some [(.pointer none)] := by kernel_rfl
@[go_sem] theorem tyStr229 : tStr Tryz.prog 229 = false := by kernel_rfl
theorem tyApp2 : tApp Tryz.prog 2 = some (1, 8) := by kernel_rfl
theorem tyApp3 : tApp Tryz.prog 3 = some (1, 8) := by kernel_rfl
theorem tyApp4 : tApp Tryz.prog 4 = some (1, 1) := by kernel_rfl
theorem tyApp5 : tApp Tryz.prog 5 = some (1, 1) := by kernel_rfl
theorem tyApp6 : tApp Tryz.prog 6 = some (1, 1) := by kernel_rfl
theorem tyApp7 : tApp Tryz.prog 7 = some (4, 24) := by kernel_rfl
theorem tyApp8 : tApp Tryz.prog 8 = some (4, 24) := by kernel_rfl
theorem tyApp9 : tApp Tryz.prog 9 = some (1, 16) := by kernel_rfl
theorem tyApp10 : tApp Tryz.prog 10 = some (1, 16) := by kernel_rfl
theorem tyApp11 : tApp Tryz.prog 11 = some (1, 16) := by kernel_rfl
theorem tyApp12 : tApp Tryz.prog 12 = some (1, 8) := by kernel_rfl
theorem tyApp13 : tApp Tryz.prog 13 = some (2, 24) := by kernel_rfl
theorem tyApp14 : tApp Tryz.prog 14 = some (2, 24) := by kernel_rfl
theorem tyApp15 : tApp Tryz.prog 15 = some (1, 8) := by kernel_rfl
theorem tyApp16 : tApp Tryz.prog 16 = some (1, 8) := by kernel_rfl
theorem tyApp17 : tApp Tryz.prog 17 = some (1, 8) := by kernel_rfl
theorem tyApp18 : tApp Tryz.prog 18 = some (1, 8) := by kernel_rfl
theorem tyApp19 : tApp Tryz.prog 19 = some (1, 8) := by kernel_rfl
theorem tyApp21 : tApp Tryz.prog 21 = some (1, 4) := by kernel_rfl
theorem tyApp22 : tApp Tryz.prog 22 = some (1, 24) := by kernel_rfl
theorem tyApp24 : tApp Tryz.prog 24 = some (1, 24) := by kernel_rfl
theorem tyApp25 : tApp Tryz.prog 25 = some (1, 24) := by kernel_rfl
theorem tyApp26 : tApp Tryz.prog 26 = some (1, 24) := by kernel_rfl
theorem tyApp27 : tApp Tryz.prog 27 = some (1, 24) := by kernel_rfl
theorem tyApp28 : tApp Tryz.prog 28 = some (1, 24) := by kernel_rfl
theorem tyApp29 : tApp Tryz.prog 29 = some (7, 136) := by kernel_rfl
theorem tyApp30 : tApp Tryz.prog 30 = some (7, 136) := by kernel_rfl
theorem tyApp31 : tApp Tryz.prog 31 = some (1, 24) := by kernel_rfl
theorem tyApp34 : tApp Tryz.prog 34 = some (1, 8) := by kernel_rfl
theorem tyApp37 : tApp Tryz.prog 37 = some (12, 120) := by kernel_rfl
theorem tyApp38 : tApp Tryz.prog 38 = some (12, 120) := by kernel_rfl
theorem tyApp39 : tApp Tryz.prog 39 = some (3, 32) := by kernel_rfl
theorem tyApp40 : tApp Tryz.prog 40 = some (3, 32) := by kernel_rfl
theorem tyApp41 : tApp Tryz.prog 41 = some (5, 56) := by kernel_rfl
theorem tyApp42 : tApp Tryz.prog 42 = some (5, 56) := by kernel_rfl
theorem tyApp44 : tApp Tryz.prog 44 = some (1, 24) := by kernel_rfl
theorem tyApp52 : tApp Tryz.prog 52 = some (1, 24) := by kernel_rfl
theorem tyApp56 : tApp Tryz.prog 56 = some (7, 56) := by kernel_rfl
theorem tyApp57 : tApp Tryz.prog 57 = some (7, 56) := by kernel_rfl
theorem tyApp61 : tApp Tryz.prog 61 = some (1, 24) := by kernel_rfl
theorem tyApp65 : tApp Tryz.prog 65 = some (6, 56) := by kernel_rfl
theorem tyApp66 : tApp Tryz.prog 66 = some (6, 56) := by kernel_rfl
theorem tyApp67 : tApp Tryz.prog 67 = some (3, 24) := by kernel_rfl
theorem tyApp68 : tApp Tryz.prog 68 = some (3, 24) := by kernel_rfl
theorem tyApp69 : tApp Tryz.prog 69 = some (3, 40) := by kernel_rfl
theorem tyApp70 : tApp Tryz.prog 70 = some (3, 40) := by kernel_rfl
theorem tyApp71 : tApp Tryz.prog 71 = some (29, 312) := by kernel_rfl
theorem tyApp72 : tApp Tryz.prog 72 = some (29, 312) := by kernel_rfl
theorem tyApp80 : tApp Tryz.prog 80 = some (1, 8) := by kernel_rfl
theorem tyApp81 : tApp Tryz.prog 81 = some (1, 24) := by kernel_rfl
theorem tyApp82 : tApp Tryz.prog 82 = some (1, 24) := by kernel_rfl
theorem tyApp87 : tApp Tryz.prog 87 = some (1, 24) := by kernel_rfl
theorem tyApp88 : tApp Tryz.prog 88 = some (4, 64) := by kernel_rfl
theorem tyApp89 : tApp Tryz.prog 89 = some (4, 64) := by kernel_rfl
theorem tyApp93 : tApp Tryz.prog 93 = some (1, 8) := by kernel_rfl
theorem tyApp95 : tApp Tryz.prog 95 = some (2, 32) := by kernel_rfl
theorem tyApp96 : tApp Tryz.prog 96 = some (2, 32) := by kernel_rfl
theorem tyApp110 : tApp Tryz.prog 110 = some (1, 24) := by kernel_rfl
theorem tyApp124 : tApp Tryz.prog 124 = some (1, 8) := by kernel_rfl
theorem tyApp125 : tApp Tryz.prog 125 = some (1, 8) := by kernel_rfl
theorem tyApp126 : tApp Tryz.prog 126 = some (1, 8) := by kernel_rfl
theorem tyApp134 : tApp Tryz.prog 134 = some (1, 8) := by kernel_rfl
theorem tyApp153 : tApp Tryz.prog 153 = some (1, 8) := by kernel_rfl
theorem tyApp155 : tApp Tryz.prog 155 = some (2, 32) := by kernel_rfl
theorem tyApp170 : tApp Tryz.prog 170 = some (1, 8) := by kernel_rfl
theorem tyApp172 : tApp Tryz.prog 172 = some (1, 8) := by kernel_rfl
theorem tyApp182 : tApp Tryz.prog 182 = some (1, 8) := by kernel_rfl
theorem tyApp189 : tApp Tryz.prog 189 = some (1, 4) := by kernel_rfl
theorem tyApp191 : tApp Tryz.prog 191 = some (1, 8) := by kernel_rfl
theorem tyApp203 : tApp Tryz.prog 203 = some (1, 8) := by kernel_rfl
theorem tyApp207 : tApp Tryz.prog 207 = some (1, 8) := by kernel_rfl
theorem tyApp210 : tApp Tryz.prog 210 = some (1, 8) := by kernel_rfl
theorem tyApp215 : tApp Tryz.prog 215 = some (4, 40) := by kernel_rfl
theorem tyApp216 : tApp Tryz.prog 216 = some (4, 40) := by kernel_rfl
theorem tyApp221 : tApp Tryz.prog 221 = some (1, 1) := by kernel_rfl
theorem tyApp222 : tApp Tryz.prog 222 = some (1, 1) := by kernel_rfl
theorem tyApp224 : tApp Tryz.prog 224 = some (1, 8) := by kernel_rfl
theorem tyApp225 : tApp Tryz.prog 225 = some (1, 4) := by kernel_rfl
theorem tyApp226 : tApp Tryz.prog 226 = some (1, 4) := by kernel_rfl
theorem tyApp227 : tApp Tryz.prog 227 = some (11, 48) := by kernel_rfl
theorem tyApp228 : tApp Tryz.prog 228 = some (11, 48) := by kernel_rfl
theorem tyApp229 : tApp Tryz.prog 229 = some (1, 8) := by kernel_rfl
end Go.Proofs.YtohdfcnjcpjdcaaGreat
