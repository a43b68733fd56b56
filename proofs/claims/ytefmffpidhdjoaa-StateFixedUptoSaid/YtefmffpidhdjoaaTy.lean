/- What the walk asks of the program's types. Conditions: none. -/
import Derived.Test.YtefmffpidhdjoaaProg
import Derived.Test.YtefmffpidhdjoaaA3
namespace Go.Proofs.Ytefmffpidhdjoaa
theorem follows_mixed : Try.prog.follows .mixedOrders = true := by kernel_rfl
@[go_sem] theorem tySize2 : tSize Try.prog 2 = some 1 := by kernel_rfl
@[go_sem] theorem tyRow2 : tRow Try.prog 2 = some false := by kernel_rfl
@[go_sem] theorem tyZero2 : tZero Try.prog 2 = some [(.int .i64 0)] := by kernel_rfl
@[go_sem] theorem tyInt2 : tInt Try.prog 2 = some .i64 := by kernel_rfl
@[go_sem] theorem tyStr2 : tStr Try.prog 2 = false := by kernel_rfl
@[go_sem] theorem tySize3 : tSize Try.prog 3 = some 1 := by kernel_rfl
@[go_sem] theorem tyRow3 : tRow Try.prog 3 = some false := by kernel_rfl
@[go_sem] theorem tyZero3 : tZero Try.prog 3 = some [(.int .i64 0)] := by kernel_rfl
@[go_sem] theorem tyInt3 : tInt Try.prog 3 = some .i64 := by kernel_rfl
@[go_sem] theorem tyStr3 : tStr Try.prog 3 = false := by kernel_rfl
@[go_sem] theorem tySize4 : tSize Try.prog 4 = some 1 := by kernel_rfl
@[go_sem] theorem tyRow4 : tRow Try.prog 4 = some false := by kernel_rfl
@[go_sem] theorem tyZero4 : tZero Try.prog 4 = some [(.bool false)] := by kernel_rfl
@[go_sem] theorem tyStr4 : tStr Try.prog 4 = false := by kernel_rfl
@[go_sem] theorem tySize5 : tSize Try.prog 5 = some 1 := by kernel_rfl
@[go_sem] theorem tyRow5 : tRow Try.prog 5 = some false := by kernel_rfl
@[go_sem] theorem tyZero5 : tZero Try.prog 5 = some [(.int .u8 0)] := by kernel_rfl
@[go_sem] theorem tyInt5 : tInt Try.prog 5 = some .u8 := by kernel_rfl
@[go_sem] theorem tyStr5 : tStr Try.prog 5 = false := by kernel_rfl
@[go_sem] theorem tySize6 : tSize Try.prog 6 = some 1 := by kernel_rfl
@[go_sem] theorem tyRow6 : tRow Try.prog 6 = some false := by kernel_rfl
@[go_sem] theorem tyZero6 : tZero Try.prog 6 = some [(.int .u8 0)] := by kernel_rfl
@[go_sem] theorem tyInt6 : tInt Try.prog 6 = some .u8 := by kernel_rfl
@[go_sem] theorem tyStr6 : tStr Try.prog 6 = false := by kernel_rfl
@[go_sem] theorem tySize7 : tSize Try.prog 7 = some 4 := by kernel_rfl
@[go_sem] theorem tyRow7 : tRow Try.prog 7 = some true := by kernel_rfl
@[go_sem] theorem tyZero7 : tZero Try.prog 7 = some [(.int .i64 0), (.int .i64 0), (.bool false), (.int .u8 0)] := by kernel_rfl
@[go_sem] theorem tyField7_0 : tField Try.prog 7 0 = some (0, 2) := by kernel_rfl
@[go_sem] theorem tyField7_1 : tField Try.prog 7 1 = some (1, 3) := by kernel_rfl
@[go_sem] theorem tyField7_2 : tField Try.prog 7 2 = some (2, 4) := by kernel_rfl
@[go_sem] theorem tyField7_3 : tField Try.prog 7 3 = some (3, 6) := by kernel_rfl
@[go_sem] theorem tyFields7 : tFields Try.prog 7 = some [(0, 1), (1, 1), (2, 1), (3, 1)] := by kernel_rfl
@[go_sem] theorem tyStr7 : tStr Try.prog 7 = false := by kernel_rfl
@[go_sem] theorem tySize8 : tSize Try.prog 8 = some 4 := by kernel_rfl
@[go_sem] theorem tyRow8 : tRow Try.prog 8 = some true := by kernel_rfl
@[go_sem] theorem tyZero8 : tZero Try.prog 8 = some [(.int .i64 0), (.int .i64 0), (.bool false), (.int .u8 0)] := by kernel_rfl
@[go_sem] theorem tyField8_0 : tField Try.prog 8 0 = some (0, 2) := by kernel_rfl
@[go_sem] theorem tyField8_1 : tField Try.prog 8 1 = some (1, 3) := by kernel_rfl
@[go_sem] theorem tyField8_2 : tField Try.prog 8 2 = some (2, 4) := by kernel_rfl
@[go_sem] theorem tyField8_3 : tField Try.prog 8 3 = some (3, 6) := by kernel_rfl
@[go_sem] theorem tyFields8 : tFields Try.prog 8 = some [(0, 1), (1, 1), (2, 1), (3, 1)] := by kernel_rfl
@[go_sem] theorem tyStr8 : tStr Try.prog 8 = false := by kernel_rfl
@[go_sem] theorem tySize9 : tSize Try.prog 9 = some 1 := by kernel_rfl
@[go_sem] theorem tyRow9 : tRow Try.prog 9 = some false := by kernel_rfl
@[go_sem] theorem tyZero9 : tZero Try.prog 9 = some [(.string ⟨#[]⟩)] := by kernel_rfl
@[go_sem] theorem tyStr9 : tStr Try.prog 9 = true := by kernel_rfl
@[go_sem] theorem tySize10 : tSize Try.prog 10 = some 1 := by kernel_rfl
@[go_sem] theorem tyRow10 : tRow Try.prog 10 = some false := by kernel_rfl
@[go_sem] theorem tyZero10 : tZero Try.prog 10 = some [(.string ⟨#[]⟩)] := by kernel_rfl
@[go_sem] theorem tyStr10 : tStr Try.prog 10 = true := by kernel_rfl
@[go_sem] theorem tySize11 : tSize Try.prog 11 = some 1 := by kernel_rfl
@[go_sem] theorem tyRow11 : tRow Try.prog 11 = some false := by kernel_rfl
@[go_sem] theorem tyZero11 : tZero Try.prog 11 = some [(.string ⟨#[]⟩)] := by kernel_rfl
@[go_sem] theorem tyStr11 : tStr Try.prog 11 = true := by kernel_rfl
@[go_sem] theorem tySize12 : tSize Try.prog 12 = some 1 := by kernel_rfl
@[go_sem] theorem tyRow12 : tRow Try.prog 12 = some false := by kernel_rfl
@[go_sem] theorem tyZero12 : tZero Try.prog 12 = some [(.int .u64 0)] := by kernel_rfl
@[go_sem] theorem tyInt12 : tInt Try.prog 12 = some .u64 := by kernel_rfl
@[go_sem] theorem tyStr12 : tStr Try.prog 12 = false := by kernel_rfl
@[go_sem] theorem tySize13 : tSize Try.prog 13 = some 2 := by kernel_rfl
@[go_sem] theorem tyRow13 : tRow Try.prog 13 = some true := by kernel_rfl
@[go_sem] theorem tyZero13 : tZero Try.prog 13 = some [(.string ⟨#[]⟩), (.int .u64 0)] := by kernel_rfl
@[go_sem] theorem tyField13_0 : tField Try.prog 13 0 = some (0, 9) := by kernel_rfl
@[go_sem] theorem tyField13_1 : tField Try.prog 13 1 = some (1, 12) := by kernel_rfl
@[go_sem] theorem tyFields13 : tFields Try.prog 13 = some [(0, 1), (1, 1)] := by kernel_rfl
@[go_sem] theorem tyStr13 : tStr Try.prog 13 = false := by kernel_rfl
@[go_sem] theorem tySize14 : tSize Try.prog 14 = some 2 := by kernel_rfl
@[go_sem] theorem tyRow14 : tRow Try.prog 14 = some true := by kernel_rfl
@[go_sem] theorem tyZero14 : tZero Try.prog 14 = some [(.string ⟨#[]⟩), (.int .u64 0)] := by kernel_rfl
@[go_sem] theorem tyField14_0 : tField Try.prog 14 0 = some (0, 9) := by kernel_rfl
@[go_sem] theorem tyField14_1 : tField Try.prog 14 1 = some (1, 12) := by kernel_rfl
@[go_sem] theorem tyFields14 : tFields Try.prog 14 = some [(0, 1), (1, 1)] := by kernel_rfl
@[go_sem] theorem tyStr14 : tStr Try.prog 14 = false := by kernel_rfl
@[go_sem] theorem tySize15 : tSize Try.prog 15 = some 1 := by kernel_rfl
@[go_sem] theorem tyRow15 : tRow Try.prog 15 = some false := by kernel_rfl
@[go_sem] theorem tyZero15 : tZero Try.prog 15 = some [(.pointer none)] := by kernel_rfl
@[go_sem] theorem tyStr15 : tStr Try.prog 15 = false := by kernel_rfl
@[go_sem] theorem tySize16 : tSize Try.prog 16 = some 1 := by kernel_rfl
@[go_sem] theorem tyRow16 : tRow Try.prog 16 = some false := by kernel_rfl
@[go_sem] theorem tyZero16 : tZero Try.prog 16 = some [(.pointer none)] := by kernel_rfl
@[go_sem] theorem tyStr16 : tStr Try.prog 16 = false := by kernel_rfl
@[go_sem] theorem tySize17 : tSize Try.prog 17 = some 1 := by kernel_rfl
@[go_sem] theorem tyRow17 : tRow Try.prog 17 = some false := by kernel_rfl
@[go_sem] theorem tyZero17 : tZero Try.prog 17 = some [(.pointer none)] := by kernel_rfl
@[go_sem] theorem tyStr17 : tStr Try.prog 17 = false := by kernel_rfl
@[go_sem] theorem tySize18 : tSize Try.prog 18 = some 1 := by kernel_rfl
@[go_sem] theorem tyRow18 : tRow Try.prog 18 = some true := by kernel_rfl
@[go_sem] theorem tyZero18 : tZero Try.prog 18 = some [(.pointer none)] := by kernel_rfl
@[go_sem] theorem tyField18_0 : tField Try.prog 18 0 = some (0, 17) := by kernel_rfl
@[go_sem] theorem tyFields18 : tFields Try.prog 18 = some [(0, 1)] := by kernel_rfl
@[go_sem] theorem tyStr18 : tStr Try.prog 18 = false := by kernel_rfl
@[go_sem] theorem tySize19 : tSize Try.prog 19 = some 1 := by kernel_rfl
@[go_sem] theorem tyRow19 : tRow Try.prog 19 = some true := by kernel_rfl
@[go_sem] theorem tyZero19 : tZero Try.prog 19 = some [(.pointer none)] := by kernel_rfl
@[go_sem] theorem tyField19_0 : tField Try.prog 19 0 = some (0, 17) := by kernel_rfl
@[go_sem] theorem tyFields19 : tFields Try.prog 19 = some [(0, 1)] := by kernel_rfl
@[go_sem] theorem tyStr19 : tStr Try.prog 19 = false := by kernel_rfl
@[go_sem] theorem tySize21 : tSize Try.prog 21 = some 1 := by kernel_rfl
@[go_sem] theorem tyRow21 : tRow Try.prog 21 = some false := by kernel_rfl
@[go_sem] theorem tyZero21 : tZero Try.prog 21 = some [(.int .i32 0)] := by kernel_rfl
@[go_sem] theorem tyInt21 : tInt Try.prog 21 = some .i32 := by kernel_rfl
@[go_sem] theorem tyStr21 : tStr Try.prog 21 = false := by kernel_rfl
@[go_sem] theorem tySize22 : tSize Try.prog 22 = some 1 := by kernel_rfl
@[go_sem] theorem tyRow22 : tRow Try.prog 22 = some false := by kernel_rfl
@[go_sem] theorem tyZero22 : tZero Try.prog 22 = some [(.slice none 0 0)] := by kernel_rfl
@[go_sem] theorem tySlice22 : tSlice Try.prog 22 = some 5 := by kernel_rfl
@[go_sem] theorem tyStr22 : tStr Try.prog 22 = false := by kernel_rfl
@[go_sem] theorem tySize23 : tSize Try.prog 23 = some 1 := by kernel_rfl
@[go_sem] theorem tyRow23 : tRow Try.prog 23 = some false := by kernel_rfl
@[go_sem] theorem tyZero23 : tZero Try.prog 23 = some [(.slice none 0 0)] := by kernel_rfl
@[go_sem] theorem tySlice23 : tSlice Try.prog 23 = some 67 := by kernel_rfl
@[go_sem] theorem tyStr23 : tStr Try.prog 23 = false := by kernel_rfl
@[go_sem] theorem tySize24 : tSize Try.prog 24 = some 1 := by kernel_rfl
@[go_sem] theorem tyRow24 : tRow Try.prog 24 = some false := by kernel_rfl
@[go_sem] theorem tyZero24 : tZero Try.prog 24 = some [(.slice none 0 0)] := by kernel_rfl
@[go_sem] theorem tySlice24 : tSlice Try.prog 24 = some 44 := by kernel_rfl
@[go_sem] theorem tyStr24 : tStr Try.prog 24 = false := by kernel_rfl
@[go_sem] theorem tySize25 : tSize Try.prog 25 = some 1 := by kernel_rfl
@[go_sem] theorem tyRow25 : tRow Try.prog 25 = some false := by kernel_rfl
@[go_sem] theorem tyZero25 : tZero Try.prog 25 = some [(.slice none 0 0)] := by kernel_rfl
@[go_sem] theorem tySlice25 : tSlice Try.prog 25 = some 65 := by kernel_rfl
@[go_sem] theorem tyStr25 : tStr Try.prog 25 = false := by kernel_rfl
@[go_sem] theorem tySize26 : tSize Try.prog 26 = some 1 := by kernel_rfl
@[go_sem] theorem tyRow26 : tRow Try.prog 26 = some false := by kernel_rfl
@[go_sem] theorem tyZero26 : tZero Try.prog 26 = some [(.slice none 0 0)] := by kernel_rfl
@[go_sem] theorem tySlice26 : tSlice Try.prog 26 = some 46 := by kernel_rfl
@[go_sem] theorem tyStr26 : tStr Try.prog 26 = false := by kernel_rfl
@[go_sem] theorem tySize27 : tSize Try.prog 27 = some 1 := by kernel_rfl
@[go_sem] theorem tyRow27 : tRow Try.prog 27 = some false := by kernel_rfl
@[go_sem] theorem tyZero27 : tZero Try.prog 27 = some [(.slice none 0 0)] := by kernel_rfl
@[go_sem] theorem tySlice27 : tSlice Try.prog 27 = some 3 := by kernel_rfl
@[go_sem] theorem tyStr27 : tStr Try.prog 27 = false := by kernel_rfl
@[go_sem] theorem tySize28 : tSize Try.prog 28 = some 7 := by kernel_rfl
@[go_sem] theorem tyRow28 : tRow Try.prog 28 = some true := by kernel_rfl
@[go_sem] theorem tyZero28 : tZero Try.prog 28 = some [(.int .i64 0), (.int .i64 0), (.slice none 0 0), (.slice none 0 0), (.slice none 0 0), (.slice none 0 0), (.slice none 0 0)] := by kernel_rfl
@[go_sem] theorem tyField28_0 : tField Try.prog 28 0 = some (0, 3) := by kernel_rfl
@[go_sem] theorem tyField28_1 : tField Try.prog 28 1 = some (1, 3) := by kernel_rfl
@[go_sem] theorem tyField28_2 : tField Try.prog 28 2 = some (2, 23) := by kernel_rfl
@[go_sem] theorem tyField28_3 : tField Try.prog 28 3 = some (3, 24) := by kernel_rfl
@[go_sem] theorem tyField28_4 : tField Try.prog 28 4 = some (4, 25) := by kernel_rfl
@[go_sem] theorem tyField28_5 : tField Try.prog 28 5 = some (5, 26) := by kernel_rfl
@[go_sem] theorem tyField28_6 : tField Try.prog 28 6 = some (6, 27) := by kernel_rfl
@[go_sem] theorem tyFields28 : tFields Try.prog 28 = some [(0, 1), (1, 1), (2, 1), (3, 1), (4, 1), (5, 1), (6, 1)] := by kernel_rfl
@[go_sem] theorem tyStr28 : tStr Try.prog 28 = false := by kernel_rfl
@[go_sem] theorem tySize29 : tSize Try.prog 29 = some 7 := by kernel_rfl
@[go_sem] theorem tyRow29 : tRow Try.prog 29 = some true := by kernel_rfl
@[go_sem] theorem tyZero29 : tZero Try.prog 29 = some [(.int .i64 0), (.int .i64 0), (.slice none 0 0), (.slice none 0 0), (.slice none 0 0), (.slice none 0 0), (.slice none 0 0)] := by kernel_rfl
@[go_sem] theorem tyField29_0 : tField Try.prog 29 0 = some (0, 3) := by kernel_rfl
@[go_sem] theorem tyField29_1 : tField Try.prog 29 1 = some (1, 3) := by kernel_rfl
@[go_sem] theorem tyField29_2 : tField Try.prog 29 2 = some (2, 23) := by kernel_rfl
@[go_sem] theorem tyField29_3 : tField Try.prog 29 3 = some (3, 24) := by kernel_rfl
@[go_sem] theorem tyField29_4 : tField Try.prog 29 4 = some (4, 25) := by kernel_rfl
@[go_sem] theorem tyField29_5 : tField Try.prog 29 5 = some (5, 26) := by kernel_rfl
@[go_sem] theorem tyField29_6 : tField Try.prog 29 6 = some (6, 27) := by kernel_rfl
@[go_sem] theorem tyFields29 : tFields Try.prog 29 = some [(0, 1), (1, 1), (2, 1), (3, 1), (4, 1), (5, 1), (6, 1)] := by kernel_rfl
@[go_sem] theorem tyStr29 : tStr Try.prog 29 = false := by kernel_rfl
@[go_sem] theorem tySize30 : tSize Try.prog 30 = some 1 := by kernel_rfl
@[go_sem] theorem tyRow30 : tRow Try.prog 30 = some false := by kernel_rfl
@[go_sem] theorem tyZero30 : tZero Try.prog 30 = some [(.int .i64 0)] := by kernel_rfl
@[go_sem] theorem tyInt30 : tInt Try.prog 30 = some .i64 := by kernel_rfl
@[go_sem] theorem tyStr30 : tStr Try.prog 30 = false := by kernel_rfl
@[go_sem] theorem tySize36 : tSize Try.prog 36 = some 1 := by kernel_rfl
@[go_sem] theorem tyRow36 : tRow Try.prog 36 = some false := by kernel_rfl
@[go_sem] theorem tyZero36 : tZero Try.prog 36 = some [(.slice none 0 0)] := by kernel_rfl
@[go_sem] theorem tySlice36 : tSlice Try.prog 36 = some 54 := by kernel_rfl
@[go_sem] theorem tyStr36 : tStr Try.prog 36 = false := by kernel_rfl
@[go_sem] theorem tySize37 : tSize Try.prog 37 = some 1 := by kernel_rfl
@[go_sem] theorem tyRow37 : tRow Try.prog 37 = some false := by kernel_rfl
@[go_sem] theorem tyZero37 : tZero Try.prog 37 = some [(.slice none 0 0)] := by kernel_rfl
@[go_sem] theorem tySlice37 : tSlice Try.prog 37 = some 50 := by kernel_rfl
@[go_sem] theorem tyStr37 : tStr Try.prog 37 = false := by kernel_rfl
@[go_sem] theorem tySize41 : tSize Try.prog 41 = some 3 := by kernel_rfl
@[go_sem] theorem tyRow41 : tRow Try.prog 41 = some true := by kernel_rfl
@[go_sem] theorem tyZero41 : tZero Try.prog 41 = some [(.string ⟨#[]⟩), (.int .i64 0), (.int .i64 0)] := by kernel_rfl
@[go_sem] theorem tyField41_0 : tField Try.prog 41 0 = some (0, 9) := by kernel_rfl
@[go_sem] theorem tyField41_1 : tField Try.prog 41 1 = some (1, 3) := by kernel_rfl
@[go_sem] theorem tyField41_2 : tField Try.prog 41 2 = some (2, 3) := by kernel_rfl
@[go_sem] theorem tyFields41 : tFields Try.prog 41 = some [(0, 1), (1, 1), (2, 1)] := by kernel_rfl
@[go_sem] theorem tyStr41 : tStr Try.prog 41 = false := by kernel_rfl
@[go_sem] theorem tySize42 : tSize Try.prog 42 = some 3 := by kernel_rfl
@[go_sem] theorem tyRow42 : tRow Try.prog 42 = some true := by kernel_rfl
@[go_sem] theorem tyZero42 : tZero Try.prog 42 = some [(.string ⟨#[]⟩), (.int .i64 0), (.int .i64 0)] := by kernel_rfl
@[go_sem] theorem tyField42_0 : tField Try.prog 42 0 = some (0, 9) := by kernel_rfl
@[go_sem] theorem tyField42_1 : tField Try.prog 42 1 = some (1, 3) := by kernel_rfl
@[go_sem] theorem tyField42_2 : tField Try.prog 42 2 = some (2, 3) := by kernel_rfl
@[go_sem] theorem tyFields42 : tFields Try.prog 42 = some [(0, 1), (1, 1), (2, 1)] := by kernel_rfl
@[go_sem] theorem tyStr42 : tStr Try.prog 42 = false := by kernel_rfl
@[go_sem] theorem tySize43 : tSize Try.prog 43 = some 12 := by kernel_rfl
@[go_sem] theorem tyRow43 : tRow Try.prog 43 = some true := by kernel_rfl
@[go_sem] theorem tyZero43 : tZero Try.prog 43 = some [(.int .i64 0), (.string ⟨#[]⟩), (.string ⟨#[]⟩), (.bool false), (.bool false), (.int .i64 0), (.int .i64 0), (.int .i64 0), (.slice none 0 0), (.int .i64 0), (.int .i64 0), (.int .i64 0)] := by kernel_rfl
@[go_sem] theorem tyField43_0 : tField Try.prog 43 0 = some (0, 3) := by kernel_rfl
@[go_sem] theorem tyField43_1 : tField Try.prog 43 1 = some (1, 9) := by kernel_rfl
@[go_sem] theorem tyField43_2 : tField Try.prog 43 2 = some (2, 9) := by kernel_rfl
@[go_sem] theorem tyField43_3 : tField Try.prog 43 3 = some (3, 4) := by kernel_rfl
@[go_sem] theorem tyField43_4 : tField Try.prog 43 4 = some (4, 4) := by kernel_rfl
@[go_sem] theorem tyField43_5 : tField Try.prog 43 5 = some (5, 3) := by kernel_rfl
@[go_sem] theorem tyField43_6 : tField Try.prog 43 6 = some (6, 3) := by kernel_rfl
@[go_sem] theorem tyField43_7 : tField Try.prog 43 7 = some (7, 3) := by kernel_rfl
@[go_sem] theorem tyField43_8 : tField Try.prog 43 8 = some (8, 27) := by kernel_rfl
@[go_sem] theorem tyField43_9 : tField Try.prog 43 9 = some (9, 3) := by kernel_rfl
@[go_sem] theorem tyField43_10 : tField Try.prog 43 10 = some (10, 3) := by kernel_rfl
@[go_sem] theorem tyField43_11 : tField Try.prog 43 11 = some (11, 3) := by kernel_rfl
@[go_sem] theorem tyFields43 : tFields Try.prog 43 = some [(0, 1), (1, 1), (2, 1), (3, 1), (4, 1), (5, 1), (6, 1), (7, 1), (8, 1), (9, 1), (10, 1), (11, 1)] := by kernel_rfl
@[go_sem] theorem tyStr43 : tStr Try.prog 43 = false := by kernel_rfl
@[go_sem] theorem tySize44 : tSize Try.prog 44 = some 12 := by kernel_rfl
@[go_sem] theorem tyRow44 : tRow Try.prog 44 = some true := by kernel_rfl
@[go_sem] theorem tyZero44 : tZero Try.prog 44 = some [(.int .i64 0), (.string ⟨#[]⟩), (.string ⟨#[]⟩), (.bool false), (.bool false), (.int .i64 0), (.int .i64 0), (.int .i64 0), (.slice none 0 0), (.int .i64 0), (.int .i64 0), (.int .i64 0)] := by kernel_rfl
@[go_sem] theorem tyField44_0 : tField Try.prog 44 0 = some (0, 3) := by kernel_rfl
@[go_sem] theorem tyField44_1 : tField Try.prog 44 1 = some (1, 9) := by kernel_rfl
@[go_sem] theorem tyField44_2 : tField Try.prog 44 2 = some (2, 9) := by kernel_rfl
@[go_sem] theorem tyField44_3 : tField Try.prog 44 3 = some (3, 4) := by kernel_rfl
@[go_sem] theorem tyField44_4 : tField Try.prog 44 4 = some (4, 4) := by kernel_rfl
@[go_sem] theorem tyField44_5 : tField Try.prog 44 5 = some (5, 3) := by kernel_rfl
@[go_sem] theorem tyField44_6 : tField Try.prog 44 6 = some (6, 3) := by kernel_rfl
@[go_sem] theorem tyField44_7 : tField Try.prog 44 7 = some (7, 3) := by kernel_rfl
@[go_sem] theorem tyField44_8 : tField Try.prog 44 8 = some (8, 27) := by kernel_rfl
@[go_sem] theorem tyField44_9 : tField Try.prog 44 9 = some (9, 3) := by kernel_rfl
@[go_sem] theorem tyField44_10 : tField Try.prog 44 10 = some (10, 3) := by kernel_rfl
@[go_sem] theorem tyField44_11 : tField Try.prog 44 11 = some (11, 3) := by kernel_rfl
@[go_sem] theorem tyFields44 : tFields Try.prog 44 = some [(0, 1), (1, 1), (2, 1), (3, 1), (4, 1), (5, 1), (6, 1), (7, 1), (8, 1), (9, 1), (10, 1), (11, 1)] := by kernel_rfl
@[go_sem] theorem tyStr44 : tStr Try.prog 44 = false := by kernel_rfl
@[go_sem] theorem tySize45 : tSize Try.prog 45 = some 3 := by kernel_rfl
@[go_sem] theorem tyRow45 : tRow Try.prog 45 = some true := by kernel_rfl
@[go_sem] theorem tyZero45 : tZero Try.prog 45 = some [(.int .i64 0), (.int .i64 0), (.int .i64 0)] := by kernel_rfl
@[go_sem] theorem tyField45_0 : tField Try.prog 45 0 = some (0, 3) := by kernel_rfl
@[go_sem] theorem tyField45_1 : tField Try.prog 45 1 = some (1, 3) := by kernel_rfl
@[go_sem] theorem tyField45_2 : tField Try.prog 45 2 = some (2, 3) := by kernel_rfl
@[go_sem] theorem tyFields45 : tFields Try.prog 45 = some [(0, 1), (1, 1), (2, 1)] := by kernel_rfl
@[go_sem] theorem tyStr45 : tStr Try.prog 45 = false := by kernel_rfl
@[go_sem] theorem tySize46 : tSize Try.prog 46 = some 3 := by kernel_rfl
@[go_sem] theorem tyRow46 : tRow Try.prog 46 = some true := by kernel_rfl
@[go_sem] theorem tyZero46 : tZero Try.prog 46 = some [(.int .i64 0), (.int .i64 0), (.int .i64 0)] := by kernel_rfl
@[go_sem] theorem tyField46_0 : tField Try.prog 46 0 = some (0, 3) := by kernel_rfl
@[go_sem] theorem tyField46_1 : tField Try.prog 46 1 = some (1, 3) := by kernel_rfl
@[go_sem] theorem tyField46_2 : tField Try.prog 46 2 = some (2, 3) := by kernel_rfl
@[go_sem] theorem tyFields46 : tFields Try.prog 46 = some [(0, 1), (1, 1), (2, 1)] := by kernel_rfl
@[go_sem] theorem tyStr46 : tStr Try.prog 46 = false := by kernel_rfl
@[go_sem] theorem tySize47 : tSize Try.prog 47 = some 3 := by kernel_rfl
@[go_sem] theorem tyRow47 : tRow Try.prog 47 = some true := by kernel_rfl
@[go_sem] theorem tyZero47 : tZero Try.prog 47 = some [(.int .i64 0), (.int .i64 0), (.slice none 0 0)] := by kernel_rfl
@[go_sem] theorem tyField47_0 : tField Try.prog 47 0 = some (0, 3) := by kernel_rfl
@[go_sem] theorem tyField47_1 : tField Try.prog 47 1 = some (1, 3) := by kernel_rfl
@[go_sem] theorem tyField47_2 : tField Try.prog 47 2 = some (2, 27) := by kernel_rfl
@[go_sem] theorem tyFields47 : tFields Try.prog 47 = some [(0, 1), (1, 1), (2, 1)] := by kernel_rfl
@[go_sem] theorem tyStr47 : tStr Try.prog 47 = false := by kernel_rfl
@[go_sem] theorem tySize48 : tSize Try.prog 48 = some 3 := by kernel_rfl
@[go_sem] theorem tyRow48 : tRow Try.prog 48 = some true := by kernel_rfl
@[go_sem] theorem tyZero48 : tZero Try.prog 48 = some [(.int .i64 0), (.int .i64 0), (.slice none 0 0)] := by kernel_rfl
@[go_sem] theorem tyField48_0 : tField Try.prog 48 0 = some (0, 3) := by kernel_rfl
@[go_sem] theorem tyField48_1 : tField Try.prog 48 1 = some (1, 3) := by kernel_rfl
@[go_sem] theorem tyField48_2 : tField Try.prog 48 2 = some (2, 27) := by kernel_rfl
@[go_sem] theorem tyFields48 : tFields Try.prog 48 = some [(0, 1), (1, 1), (2, 1)] := by kernel_rfl
@[go_sem] theorem tyStr48 : tStr Try.prog 48 = false := by kernel_rfl
@[go_sem] theorem tySize49 : tSize Try.prog 49 = some 29 := by kernel_rfl
@[go_sem] theorem tyRow49 : tRow Try.prog 49 = some true := by kernel_rfl
@[go_sem] theorem tyZero49 : tZero Try.prog 49 = some [(.int .i64 0), (.int .i64 0), (.int .i64 0), (.string ⟨#[]⟩), (.string ⟨#[]⟩), (.string ⟨#[]⟩), (.int .i64 0), (.int .i64 0), (.int .i64 0), (.string ⟨#[]⟩), (.string ⟨#[]⟩), (.bool false), (.bool false), (.int .i64 0), (.int .i64 0), (.int .i64 0), (.slice none 0 0), (.int .i64 0), (.int .i64 0), (.int .i64 0), (.int .i64 0), (.int .i64 0), (.int .i64 0), (.int .i64 0), (.int .i64 0), (.slice none 0 0), (.slice none 0 0), (.int .i64 0), (.int .i64 0)] := by kernel_rfl
@[go_sem] theorem tyField49_0 : tField Try.prog 49 0 = some (0, 3) := by kernel_rfl
@[go_sem] theorem tyField49_1 : tField Try.prog 49 1 = some (1, 3) := by kernel_rfl
@[go_sem] theorem tyField49_2 : tField Try.prog 49 2 = some (2, 3) := by kernel_rfl
@[go_sem] theorem tyField49_3 : tField Try.prog 49 3 = some (3, 9) := by kernel_rfl
@[go_sem] theorem tyField49_4 : tField Try.prog 49 4 = some (4, 9) := by kernel_rfl
@[go_sem] theorem tyField49_5 : tField Try.prog 49 5 = some (5, 42) := by kernel_rfl
@[go_sem] theorem tyField49_6 : tField Try.prog 49 6 = some (8, 44) := by kernel_rfl
@[go_sem] theorem tyField49_7 : tField Try.prog 49 7 = some (20, 46) := by kernel_rfl
@[go_sem] theorem tyField49_8 : tField Try.prog 49 8 = some (23, 48) := by kernel_rfl
@[go_sem] theorem tyField49_9 : tField Try.prog 49 9 = some (26, 27) := by kernel_rfl
@[go_sem] theorem tyField49_10 : tField Try.prog 49 10 = some (27, 3) := by kernel_rfl
@[go_sem] theorem tyField49_11 : tField Try.prog 49 11 = some (28, 3) := by kernel_rfl
@[go_sem] theorem tyFields49 : tFields Try.prog 49 = some [(0, 1), (1, 1), (2, 1), (3, 1), (4, 1), (5, 3), (8, 12), (20, 3), (23, 3), (26, 1), (27, 1), (28, 1)] := by kernel_rfl
@[go_sem] theorem tyStr49 : tStr Try.prog 49 = false := by kernel_rfl
@[go_sem] theorem tySize50 : tSize Try.prog 50 = some 29 := by kernel_rfl
@[go_sem] theorem tyRow50 : tRow Try.prog 50 = some true := by kernel_rfl
@[go_sem] theorem tyZero50 : tZero Try.prog 50 = some [(.int .i64 0), (.int .i64 0), (.int .i64 0), (.string ⟨#[]⟩), (.string ⟨#[]⟩), (.string ⟨#[]⟩), (.int .i64 0), (.int .i64 0), (.int .i64 0), (.string ⟨#[]⟩), (.string ⟨#[]⟩), (.bool false), (.bool false), (.int .i64 0), (.int .i64 0), (.int .i64 0), (.slice none 0 0), (.int .i64 0), (.int .i64 0), (.int .i64 0), (.int .i64 0), (.int .i64 0), (.int .i64 0), (.int .i64 0), (.int .i64 0), (.slice none 0 0), (.slice none 0 0), (.int .i64 0), (.int .i64 0)] := by kernel_rfl
@[go_sem] theorem tyField50_0 : tField Try.prog 50 0 = some (0, 3) := by kernel_rfl
@[go_sem] theorem tyField50_1 : tField Try.prog 50 1 = some (1, 3) := by kernel_rfl
@[go_sem] theorem tyField50_2 : tField Try.prog 50 2 = some (2, 3) := by kernel_rfl
@[go_sem] theorem tyField50_3 : tField Try.prog 50 3 = some (3, 9) := by kernel_rfl
@[go_sem] theorem tyField50_4 : tField Try.prog 50 4 = some (4, 9) := by kernel_rfl
@[go_sem] theorem tyField50_5 : tField Try.prog 50 5 = some (5, 42) := by kernel_rfl
@[go_sem] theorem tyField50_6 : tField Try.prog 50 6 = some (8, 44) := by kernel_rfl
@[go_sem] theorem tyField50_7 : tField Try.prog 50 7 = some (20, 46) := by kernel_rfl
@[go_sem] theorem tyField50_8 : tField Try.prog 50 8 = some (23, 48) := by kernel_rfl
@[go_sem] theorem tyField50_9 : tField Try.prog 50 9 = some (26, 27) := by kernel_rfl
@[go_sem] theorem tyField50_10 : tField Try.prog 50 10 = some (27, 3) := by kernel_rfl
@[go_sem] theorem tyField50_11 : tField Try.prog 50 11 = some (28, 3) := by kernel_rfl
@[go_sem] theorem tyFields50 : tFields Try.prog 50 = some [(0, 1), (1, 1), (2, 1), (3, 1), (4, 1), (5, 3), (8, 12), (20, 3), (23, 3), (26, 1), (27, 1), (28, 1)] := by kernel_rfl
@[go_sem] theorem tyStr50 : tStr Try.prog 50 = false := by kernel_rfl
@[go_sem] theorem tySize53 : tSize Try.prog 53 = some 6 := by kernel_rfl
@[go_sem] theorem tyRow53 : tRow Try.prog 53 = some true := by kernel_rfl
@[go_sem] theorem tyZero53 : tZero Try.prog 53 = some [(.int .i64 0), (.int .i64 0), (.int .i64 0), (.int .i64 0), (.int .i64 0), (.string ⟨#[]⟩)] := by kernel_rfl
@[go_sem] theorem tyField53_0 : tField Try.prog 53 0 = some (0, 3) := by kernel_rfl
@[go_sem] theorem tyField53_1 : tField Try.prog 53 1 = some (1, 3) := by kernel_rfl
@[go_sem] theorem tyField53_2 : tField Try.prog 53 2 = some (2, 3) := by kernel_rfl
@[go_sem] theorem tyField53_3 : tField Try.prog 53 3 = some (3, 3) := by kernel_rfl
@[go_sem] theorem tyField53_4 : tField Try.prog 53 4 = some (4, 3) := by kernel_rfl
@[go_sem] theorem tyField53_5 : tField Try.prog 53 5 = some (5, 9) := by kernel_rfl
@[go_sem] theorem tyFields53 : tFields Try.prog 53 = some [(0, 1), (1, 1), (2, 1), (3, 1), (4, 1), (5, 1)] := by kernel_rfl
@[go_sem] theorem tyStr53 : tStr Try.prog 53 = false := by kernel_rfl
@[go_sem] theorem tySize54 : tSize Try.prog 54 = some 6 := by kernel_rfl
@[go_sem] theorem tyRow54 : tRow Try.prog 54 = some true := by kernel_rfl
@[go_sem] theorem tyZero54 : tZero Try.prog 54 = some [(.int .i64 0), (.int .i64 0), (.int .i64 0), (.int .i64 0), (.int .i64 0), (.string ⟨#[]⟩)] := by kernel_rfl
@[go_sem] theorem tyField54_0 : tField Try.prog 54 0 = some (0, 3) := by kernel_rfl
@[go_sem] theorem tyField54_1 : tField Try.prog 54 1 = some (1, 3) := by kernel_rfl
@[go_sem] theorem tyField54_2 : tField Try.prog 54 2 = some (2, 3) := by kernel_rfl
@[go_sem] theorem tyField54_3 : tField Try.prog 54 3 = some (3, 3) := by kernel_rfl
@[go_sem] theorem tyField54_4 : tField Try.prog 54 4 = some (4, 3) := by kernel_rfl
@[go_sem] theorem tyField54_5 : tField Try.prog 54 5 = some (5, 9) := by kernel_rfl
@[go_sem] theorem tyFields54 : tFields Try.prog 54 = some [(0, 1), (1, 1), (2, 1), (3, 1), (4, 1), (5, 1)] := by kernel_rfl
@[go_sem] theorem tyStr54 : tStr Try.prog 54 = false := by kernel_rfl
@[go_sem] theorem tySize62 : tSize Try.prog 62 = some 1 := by kernel_rfl
@[go_sem] theorem tyRow62 : tRow Try.prog 62 = some false := by kernel_rfl
@[go_sem] theorem tyZero62 : tZero Try.prog 62 = some [(.slice none 0 0)] := by kernel_rfl
@[go_sem] theorem tySlice62 : tSlice Try.prog 62 = some 4 := by kernel_rfl
@[go_sem] theorem tyStr62 : tStr Try.prog 62 = false := by kernel_rfl
@[go_sem] theorem tySize63 : tSize Try.prog 63 = some 1 := by kernel_rfl
@[go_sem] theorem tyRow63 : tRow Try.prog 63 = some false := by kernel_rfl
@[go_sem] theorem tyZero63 : tZero Try.prog 63 = some [(.slice none 0 0)] := by kernel_rfl
@[go_sem] theorem tySlice63 : tSlice Try.prog 63 = some 48 := by kernel_rfl
@[go_sem] theorem tyStr63 : tStr Try.prog 63 = false := by kernel_rfl
@[go_sem] theorem tySize64 : tSize Try.prog 64 = some 4 := by kernel_rfl
@[go_sem] theorem tyRow64 : tRow Try.prog 64 = some true := by kernel_rfl
@[go_sem] theorem tyZero64 : tZero Try.prog 64 = some [(.int .i64 0), (.string ⟨#[]⟩), (.string ⟨#[]⟩), (.slice none 0 0)] := by kernel_rfl
@[go_sem] theorem tyField64_0 : tField Try.prog 64 0 = some (0, 3) := by kernel_rfl
@[go_sem] theorem tyField64_1 : tField Try.prog 64 1 = some (1, 9) := by kernel_rfl
@[go_sem] theorem tyField64_2 : tField Try.prog 64 2 = some (2, 9) := by kernel_rfl
@[go_sem] theorem tyField64_3 : tField Try.prog 64 3 = some (3, 63) := by kernel_rfl
@[go_sem] theorem tyFields64 : tFields Try.prog 64 = some [(0, 1), (1, 1), (2, 1), (3, 1)] := by kernel_rfl
@[go_sem] theorem tyStr64 : tStr Try.prog 64 = false := by kernel_rfl
@[go_sem] theorem tySize65 : tSize Try.prog 65 = some 4 := by kernel_rfl
@[go_sem] theorem tyRow65 : tRow Try.prog 65 = some true := by kernel_rfl
@[go_sem] theorem tyZero65 : tZero Try.prog 65 = some [(.int .i64 0), (.string ⟨#[]⟩), (.string ⟨#[]⟩), (.slice none 0 0)] := by kernel_rfl
@[go_sem] theorem tyField65_0 : tField Try.prog 65 0 = some (0, 3) := by kernel_rfl
@[go_sem] theorem tyField65_1 : tField Try.prog 65 1 = some (1, 9) := by kernel_rfl
@[go_sem] theorem tyField65_2 : tField Try.prog 65 2 = some (2, 9) := by kernel_rfl
@[go_sem] theorem tyField65_3 : tField Try.prog 65 3 = some (3, 63) := by kernel_rfl
@[go_sem] theorem tyFields65 : tFields Try.prog 65 = some [(0, 1), (1, 1), (2, 1), (3, 1)] := by kernel_rfl
@[go_sem] theorem tyStr65 : tStr Try.prog 65 = false := by kernel_rfl
@[go_sem] theorem tySize66 : tSize Try.prog 66 = some 5 := by kernel_rfl
@[go_sem] theorem tyRow66 : tRow Try.prog 66 = some true := by kernel_rfl
@[go_sem] theorem tyZero66 : tZero Try.prog 66 = some [(.string ⟨#[]⟩), (.int .i64 0), (.string ⟨#[]⟩), (.int .i64 0), (.int .i64 0)] := by kernel_rfl
@[go_sem] theorem tyField66_0 : tField Try.prog 66 0 = some (0, 9) := by kernel_rfl
@[go_sem] theorem tyField66_1 : tField Try.prog 66 1 = some (1, 3) := by kernel_rfl
@[go_sem] theorem tyField66_2 : tField Try.prog 66 2 = some (2, 42) := by kernel_rfl
@[go_sem] theorem tyFields66 : tFields Try.prog 66 = some [(0, 1), (1, 1), (2, 3)] := by kernel_rfl
@[go_sem] theorem tyStr66 : tStr Try.prog 66 = false := by kernel_rfl
@[go_sem] theorem tySize67 : tSize Try.prog 67 = some 5 := by kernel_rfl
@[go_sem] theorem tyRow67 : tRow Try.prog 67 = some true := by kernel_rfl
@[go_sem] theorem tyZero67 : tZero Try.prog 67 = some [(.string ⟨#[]⟩), (.int .i64 0), (.string ⟨#[]⟩), (.int .i64 0), (.int .i64 0)] := by kernel_rfl
@[go_sem] theorem tyField67_0 : tField Try.prog 67 0 = some (0, 9) := by kernel_rfl
@[go_sem] theorem tyField67_1 : tField Try.prog 67 1 = some (1, 3) := by kernel_rfl
@[go_sem] theorem tyField67_2 : tField Try.prog 67 2 = some (2, 42) := by kernel_rfl
@[go_sem] theorem tyFields67 : tFields Try.prog 67 = some [(0, 1), (1, 1), (2, 3)] := by kernel_rfl
@[go_sem] theorem tyStr67 : tStr Try.prog 67 = false := by kernel_rfl
@[go_sem] theorem tySize68 : tSize Try.prog 68 = some 5 := by kernel_rfl
@[go_sem] theorem tyRow68 : tRow Try.prog 68 = some true := by kernel_rfl
@[go_sem] theorem tyZero68 : tZero Try.prog 68 = some [(.int .i64 0), (.int .i64 0), (.int .i64 0), (.int .i64 0), (.int .i64 0)] := by kernel_rfl
@[go_sem] theorem tyField68_0 : tField Try.prog 68 0 = some (0, 3) := by kernel_rfl
@[go_sem] theorem tyField68_1 : tField Try.prog 68 1 = some (1, 3) := by kernel_rfl
@[go_sem] theorem tyField68_2 : tField Try.prog 68 2 = some (2, 3) := by kernel_rfl
@[go_sem] theorem tyField68_3 : tField Try.prog 68 3 = some (3, 3) := by kernel_rfl
@[go_sem] theorem tyField68_4 : tField Try.prog 68 4 = some (4, 3) := by kernel_rfl
@[go_sem] theorem tyFields68 : tFields Try.prog 68 = some [(0, 1), (1, 1), (2, 1), (3, 1), (4, 1)] := by kernel_rfl
@[go_sem] theorem tyStr68 : tStr Try.prog 68 = false := by kernel_rfl
@[go_sem] theorem tySize69 : tSize Try.prog 69 = some 5 := by kernel_rfl
@[go_sem] theorem tyRow69 : tRow Try.prog 69 = some true := by kernel_rfl
@[go_sem] theorem tyZero69 : tZero Try.prog 69 = some [(.int .i64 0), (.int .i64 0), (.int .i64 0), (.int .i64 0), (.int .i64 0)] := by kernel_rfl
@[go_sem] theorem tyField69_0 : tField Try.prog 69 0 = some (0, 3) := by kernel_rfl
@[go_sem] theorem tyField69_1 : tField Try.prog 69 1 = some (1, 3) := by kernel_rfl
@[go_sem] theorem tyField69_2 : tField Try.prog 69 2 = some (2, 3) := by kernel_rfl
@[go_sem] theorem tyField69_3 : tField Try.prog 69 3 = some (3, 3) := by kernel_rfl
@[go_sem] theorem tyField69_4 : tField Try.prog 69 4 = some (4, 3) := by kernel_rfl
@[go_sem] theorem tyFields69 : tFields Try.prog 69 = some [(0, 1), (1, 1), (2, 1), (3, 1), (4, 1)] := by kernel_rfl
@[go_sem] theorem tyStr69 : tStr Try.prog 69 = false := by kernel_rfl
@[go_sem] theorem tySize88 : tSize Try.prog 88 = some 1 := by kernel_rfl
@[go_sem] theorem tyRow88 : tRow Try.prog 88 = some false := by kernel_rfl
@[go_sem] theorem tyZero88 : tZero Try.prog 88 = some [(.pointer none)] := by kernel_rfl
@[go_sem] theorem tyStr88 : tStr Try.prog 88 = false := by kernel_rfl
@[go_sem] theorem tySize90 : tSize Try.prog 90 = some 2 := by kernel_rfl
@[go_sem] theorem tyRow90 : tRow Try.prog 90 = some true := by kernel_rfl
@[go_sem] theorem tyZero90 : tZero Try.prog 90 = some [(.slice none 0 0), (.int .i64 0)] := by kernel_rfl
@[go_sem] theorem tyField90_0 : tField Try.prog 90 0 = some (0, 22) := by kernel_rfl
@[go_sem] theorem tyField90_1 : tField Try.prog 90 1 = some (1, 30) := by kernel_rfl
@[go_sem] theorem tyFields90 : tFields Try.prog 90 = some [(0, 1), (1, 1)] := by kernel_rfl
@[go_sem] theorem tyStr90 : tStr Try.prog 90 = false := by kernel_rfl
@[go_sem] theorem tySize91 : tSize Try.prog 91 = some 2 := by kernel_rfl
@[go_sem] theorem tyRow91 : tRow Try.prog 91 = some true := by kernel_rfl
@[go_sem] theorem tyZero91 : tZero Try.prog 91 = some [(.slice none 0 0), (.int .i64 0)] := by kernel_rfl
@[go_sem] theorem tyField91_0 : tField Try.prog 91 0 = some (0, 22) := by kernel_rfl
@[go_sem] theorem tyField91_1 : tField Try.prog 91 1 = some (1, 30) := by kernel_rfl
@[go_sem] theorem tyFields91 : tFields Try.prog 91 = some [(0, 1), (1, 1)] := by kernel_rfl
@[go_sem] theorem tyStr91 : tStr Try.prog 91 = false := by kernel_rfl
@[go_sem] theorem tySize101 : tSize Try.prog 101 = some 1 := by kernel_rfl
@[go_sem] theorem tyRow101 : tRow Try.prog 101 = some false := by kernel_rfl
@[go_sem] theorem tyZero101 : tZero Try.prog 101 = some [(.pointer none)] := by kernel_rfl
@[go_sem] theorem tyStr101 : tStr Try.prog 101 = false := by kernel_rfl
@[go_sem] theorem tySize102 : tSize Try.prog 102 = some 1 := by kernel_rfl
@[go_sem] theorem tyRow102 : tRow Try.prog 102 = some true := by kernel_rfl
@[go_sem] theorem tyZero102 : tZero Try.prog 102 = some [(.slice none 0 0)] := by kernel_rfl
@[go_sem] theorem tyField102_0 : tField Try.prog 102 0 = some (0, 22) := by kernel_rfl
@[go_sem] theorem tyFields102 : tFields Try.prog 102 = some [(0, 1)] := by kernel_rfl
@[go_sem] theorem tyStr102 : tStr Try.prog 102 = false := by kernel_rfl
@[go_sem] theorem tySize103 : tSize Try.prog 103 = some 1 := by kernel_rfl
@[go_sem] theorem tyRow103 : tRow Try.prog 103 = some true := by kernel_rfl
@[go_sem] theorem tyZero103 : tZero Try.prog 103 = some [(.slice none 0 0)] := by kernel_rfl
@[go_sem] theorem tyField103_0 : tField Try.prog 103 0 = some (0, 22) := by kernel_rfl
@[go_sem] theorem tyFields103 : tFields Try.prog 103 = some [(0, 1)] := by kernel_rfl
@[go_sem] theorem tyStr103 : tStr Try.prog 103 = false := by kernel_rfl
@[go_sem] theorem tySize113 : tSize Try.prog 113 = some 1 := by kernel_rfl
@[go_sem] theorem tyRow113 : tRow Try.prog 113 = some false := by kernel_rfl
@[go_sem] theorem tyZero113 : tZero Try.prog 113 = some [(.pointer none)] := by kernel_rfl
@[go_sem] theorem tyStr113 : tStr Try.prog 113 = false := by kernel_rfl
@[go_sem] theorem tySize114 : tSize Try.prog 114 = some 1 := by kernel_rfl
@[go_sem] theorem tyRow114 : tRow Try.prog 114 = some false := by kernel_rfl
@[go_sem] theorem tyZero114 : tZero Try.prog 114 = some [(.map none)] := by kernel_rfl
@[go_sem] theorem tyStr114 : tStr Try.prog 114 = false := by kernel_rfl
@[go_sem] theorem tySize115 : tSize Try.prog 115 = some 1 := by kernel_rfl
@[go_sem] theorem tyRow115 : tRow Try.prog 115 = some false := by kernel_rfl
@[go_sem] theorem tyZero115 : tZero Try.prog 115 = some [(.map none)] := by kernel_rfl
@[go_sem] theorem tyStr115 : tStr Try.prog 115 = false := by kernel_rfl
@[go_sem] theorem tySize119 : tSize Try.prog 119 = some 1 := by kernel_rfl
@[go_sem] theorem tyRow119 : tRow Try.prog 119 = some false := by kernel_rfl
@[go_sem] theorem tyZero119 : tZero Try.prog 119 = some [(.slice none 0 0)] := by kernel_rfl
@[go_sem] theorem tySlice119 : tSlice Try.prog 119 = some 9 := by kernel_rfl
@[go_sem] theorem tyStr119 : tStr Try.prog 119 = false := by kernel_rfl
@[go_sem] theorem tySize131 : tSize Try.prog 131 = some 1 := by kernel_rfl
@[go_sem] theorem tyRow131 : tRow Try.prog 131 = some false := by kernel_rfl
@[go_sem] theorem tyZero131 : tZero Try.prog 131 = some [(.int .u64 0)] := by kernel_rfl
@[go_sem] theorem tyInt131 : tInt Try.prog 131 = some .u64 := by kernel_rfl
@[go_sem] theorem tyStr131 : tStr Try.prog 131 = false := by kernel_rfl
@[go_sem] theorem tySize143 : tSize Try.prog 143 = some 1 := by kernel_rfl
@[go_sem] theorem tyRow143 : tRow Try.prog 143 = some false := by kernel_rfl
@[go_sem] theorem tyZero143 : tZero Try.prog 143 = some [(.map none)] := by kernel_rfl
@[go_sem] theorem tyStr143 : tStr Try.prog 143 = false := by kernel_rfl
@[go_sem] theorem tySize145 : tSize Try.prog 145 = some 2 := by kernel_rfl
@[go_sem] theorem tyRow145 : tRow Try.prog 145 = some true := by kernel_rfl
@[go_sem] theorem tyZero145 : tZero Try.prog 145 = some [(.string ⟨#[]⟩), (.string ⟨#[]⟩)] := by kernel_rfl
@[go_sem] theorem tyFields145 : tFields Try.prog 145 = some [(0, 1), (1, 1)] := by kernel_rfl
@[go_sem] theorem tyStr145 : tStr Try.prog 145 = false := by kernel_rfl
@[go_sem] theorem tySize157 : tSize Try.prog 157 = some 1 := by kernel_rfl
@[go_sem] theorem tyRow157 : tRow Try.prog 157 = some false := by kernel_rfl
@[go_sem] theorem tyZero157 : tZero Try.prog 157 = some [(.pointer none)] := by kernel_rfl
@[go_sem] theorem tyStr157 : tStr Try.prog 157 = false := by kernel_rfl
@[go_sem] theorem tySize159 : tSize Try.prog 159 = some 1 := by kernel_rfl
@[go_sem] theorem tyRow159 : tRow Try.prog 159 = some false := by kernel_rfl
@[go_sem] theorem tyZero159 : tZero Try.prog 159 = some [(.pointer none)] := by kernel_rfl
@[go_sem] theorem tyStr159 : tStr Try.prog 159 = false := by kernel_rfl
@[go_sem] theorem tySize181 : tSize Try.prog 181 = some 4 := by kernel_rfl
@[go_sem] theorem tyRow181 : tRow Try.prog 181 = some true := by kernel_rfl
@[go_sem] theorem tyZero181 : tZero Try.prog 181 = some [(.pointer none), (.pointer none), (.pointer none), (.string ⟨#[]⟩)] := by kernel_rfl
@[go_sem] theorem tyField181_0 : tField Try.prog 181 0 = some (0, 17) := by kernel_rfl
@[go_sem] theorem tyField181_1 : tField Try.prog 181 1 = some (1, 17) := by kernel_rfl
@[go_sem] theorem tyField181_2 : tField Try.prog 181 2 = some (2, 17) := by kernel_rfl
@[go_sem] theorem tyField181_3 : tField Try.prog 181 3 = some (3, 9) := by kernel_rfl
@[go_sem] theorem tyFields181 : tFields Try.prog 181 = some [(0, 1), (1, 1), (2, 1), (3, 1)] := by kernel_rfl
@[go_sem] theorem tyStr181 : tStr Try.prog 181 = false := by kernel_rfl
@[go_sem] theorem tySize182 : tSize Try.prog 182 = some 4 := by kernel_rfl
@[go_sem] theorem tyRow182 : tRow Try.prog 182 = some true := by kernel_rfl
@[go_sem] theorem tyZero182 : tZero Try.prog 182 = some [(.pointer none), (.pointer none), (.pointer none), (.string ⟨#[]⟩)] := by kernel_rfl
@[go_sem] theorem tyField182_0 : tField Try.prog 182 0 = some (0, 17) := by kernel_rfl
@[go_sem] theorem tyField182_1 : tField Try.prog 182 1 = some (1, 17) := by kernel_rfl
@[go_sem] theorem tyField182_2 : tField Try.prog 182 2 = some (2, 17) := by kernel_rfl
@[go_sem] theorem tyField182_3 : tField Try.prog 182 3 = some (3, 9) := by kernel_rfl
@[go_sem] theorem tyFields182 : tFields Try.prog 182 = some [(0, 1), (1, 1), (2, 1), (3, 1)] := by kernel_rfl
@[go_sem] theorem tyStr182 : tStr Try.prog 182 = false := by kernel_rfl
@[go_sem] theorem tySize183 : tSize Try.prog 183 = some 0 := by kernel_rfl
@[go_sem] theorem tyRow183 : tRow Try.prog 183 = some true := by kernel_rfl
@[go_sem] theorem tyFields183 : tFields Try.prog 183 = some [] := by kernel_rfl
@[go_sem] theorem tyStr183 : tStr Try.prog 183 = false := by kernel_rfl
@[go_sem] theorem tySize184 : tSize Try.prog 184 = some 0 := by kernel_rfl
@[go_sem] theorem tyRow184 : tRow Try.prog 184 = some true := by kernel_rfl
@[go_sem] theorem tyField184_0 : tField Try.prog 184 0 = some (0, 183) := by kernel_rfl
@[go_sem] theorem tyFields184 : tFields Try.prog 184 = some [(0, 0)] := by kernel_rfl
@[go_sem] theorem tyStr184 : tStr Try.prog 184 = false := by kernel_rfl
@[go_sem] theorem tySize185 : tSize Try.prog 185 = some 0 := by kernel_rfl
@[go_sem] theorem tyRow185 : tRow Try.prog 185 = some true := by kernel_rfl
@[go_sem] theorem tyField185_0 : tField Try.prog 185 0 = some (0, 183) := by kernel_rfl
@[go_sem] theorem tyFields185 : tFields Try.prog 185 = some [(0, 0)] := by kernel_rfl
@[go_sem] theorem tyStr185 : tStr Try.prog 185 = false := by kernel_rfl
@[go_sem] theorem tySize187 : tSize Try.prog 187 = some 1 := by kernel_rfl
@[go_sem] theorem tyRow187 : tRow Try.prog 187 = some false := by kernel_rfl
@[go_sem] theorem tyZero187 : tZero Try.prog 187 = some [(.int .u32 0)] := by kernel_rfl
@[go_sem] theorem tyInt187 : tInt Try.prog 187 = some .u32 := by kernel_rfl
@[go_sem] theorem tyStr187 : tStr Try.prog 187 = false := by kernel_rfl
@[go_sem] theorem tySize188 : tSize Try.prog 188 = some 1 := by kernel_rfl
@[go_sem] theorem tyRow188 : tRow Try.prog 188 = some false := by kernel_rfl
@[go_sem] theorem tyZero188 : tZero Try.prog 188 = some [(.int .u8 0)] := by kernel_rfl
@[go_sem] theorem tyInt188 : tInt Try.prog 188 = some .u8 := by kernel_rfl
@[go_sem] theorem tyStr188 : tStr Try.prog 188 = false := by kernel_rfl
@[go_sem] theorem tySize189 : tSize Try.prog 189 = some 1 := by kernel_rfl
@[go_sem] theorem tyRow189 : tRow Try.prog 189 = some false := by kernel_rfl
@[go_sem] theorem tyZero189 : tZero Try.prog 189 = some [(.int .u8 0)] := by kernel_rfl
@[go_sem] theorem tyInt189 : tInt Try.prog 189 = some .u8 := by kernel_rfl
@[go_sem] theorem tyStr189 : tStr Try.prog 189 = false := by kernel_rfl
@[go_sem] theorem tySize191 : tSize Try.prog 191 = some 1 := by kernel_rfl
@[go_sem] theorem tyRow191 : tRow Try.prog 191 = some false := by kernel_rfl
@[go_sem] theorem tyZero191 : tZero Try.prog 191 = some [(.pointer none)] := by kernel_rfl
@[go_sem] theorem tyStr191 : tStr Try.prog 191 = false := by kernel_rfl
@[go_sem] theorem tySize192 : tSize Try.prog 192 = some 1 := by kernel_rfl
@[go_sem] theorem tyRow192 : tRow Try.prog 192 = some false := by kernel_rfl
@[go_sem] theorem tyZero192 : tZero Try.prog 192 = some [(.int .i32 0)] := by kernel_rfl
@[go_sem] theorem tyInt192 : tInt Try.prog 192 = some .i32 := by kernel_rfl
@[go_sem] theorem tyStr192 : tStr Try.prog 192 = false := by kernel_rfl
@[go_sem] theorem tySize193 : tSize Try.prog 193 = some 1 := by kernel_rfl
@[go_sem] theorem tyRow193 : tRow Try.prog 193 = some false := by kernel_rfl
@[go_sem] theorem tyZero193 : tZero Try.prog 193 = some [(.int .i32 0)] := by kernel_rfl
@[go_sem] theorem tyInt193 : tInt Try.prog 193 = some .i32 := by kernel_rfl
@[go_sem] theorem tyStr193 : tStr Try.prog 193 = false := by kernel_rfl
@[go_sem] theorem tySize194 : tSize Try.prog 194 = some 11 := by kernel_rfl
@[go_sem] theorem tyRow194 : tRow Try.prog 194 = some true := by kernel_rfl
@[go_sem] theorem tyZero194 : tZero Try.prog 194 = some [(.int .u64 0), (.int .u64 0), (.int .u32 0), (.int .u8 0), (.int .u8 0), (.int .u8 0), (.int .u8 0), .nilFunc, (.pointer none), (.int .i32 0), (.int .i32 0)] := by kernel_rfl
@[go_sem] theorem tyField194_0 : tField Try.prog 194 0 = some (0, 12) := by kernel_rfl
@[go_sem] theorem tyField194_1 : tField Try.prog 194 1 = some (1, 12) := by kernel_rfl
@[go_sem] theorem tyField194_2 : tField Try.prog 194 2 = some (2, 187) := by kernel_rfl
@[go_sem] theorem tyField194_3 : tField Try.prog 194 3 = some (3, 188) := by kernel_rfl
@[go_sem] theorem tyField194_4 : tField Try.prog 194 4 = some (4, 5) := by kernel_rfl
@[go_sem] theorem tyField194_5 : tField Try.prog 194 5 = some (5, 5) := by kernel_rfl
@[go_sem] theorem tyField194_6 : tField Try.prog 194 6 = some (6, 189) := by kernel_rfl
@[go_sem] theorem tyField194_7 : tField Try.prog 194 7 = some (7, 190) := by kernel_rfl
@[go_sem] theorem tyField194_8 : tField Try.prog 194 8 = some (8, 191) := by kernel_rfl
@[go_sem] theorem tyField194_9 : tField Try.prog 194 9 = some (9, 192) := by kernel_rfl
@[go_sem] theorem tyField194_10 : tField Try.prog 194 10 = some (10, 193) := by kernel_rfl
@[go_sem] theorem tyFields194 : tFields Try.prog 194 = some [(0, 1), (1, 1), (2, 1), (3, 1), (4, 1), (5, 1), (6, 1), (7, 1), (8, 1), (9, 1), (10, 1)] := by kernel_rfl
@[go_sem] theorem tyStr194 : tStr Try.prog 194 = false := by kernel_rfl
@[go_sem] theorem tySize195 : tSize Try.prog 195 = some 11 := by kernel_rfl
@[go_sem] theorem tyRow195 : tRow Try.prog 195 = some true := by kernel_rfl
@[go_sem] theorem tyZero195 : tZero Try.prog 195 = some [(.int .u64 0), (.int .u64 0), (.int .u32 0), (.int .u8 0), (.int .u8 0), (.int .u8 0), (.int .u8 0), .nilFunc, (.pointer none), (.int .i32 0), (.int .i32 0)] := by kernel_rfl
@[go_sem] theorem tyField195_0 : tField Try.prog 195 0 = some (0, 12) := by kernel_rfl
@[go_sem] theorem tyField195_1 : tField Try.prog 195 1 = some (1, 12) := by kernel_rfl
@[go_sem] theorem tyField195_2 : tField Try.prog 195 2 = some (2, 187) := by kernel_rfl
@[go_sem] theorem tyField195_3 : tField Try.prog 195 3 = some (3, 188) := by kernel_rfl
@[go_sem] theorem tyField195_4 : tField Try.prog 195 4 = some (4, 5) := by kernel_rfl
@[go_sem] theorem tyField195_5 : tField Try.prog 195 5 = some (5, 5) := by kernel_rfl
@[go_sem] theorem tyField195_6 : tField Try.prog 195 6 = some (6, 189) := by kernel_rfl
@[go_sem] theorem tyField195_7 : tField Try.prog 195 7 = some (7, 190) := by kernel_rfl
@[go_sem] theorem tyField195_8 : tField Try.prog 195 8 = some (8, 191) := by kernel_rfl
@[go_sem] theorem tyField195_9 : tField Try.prog 195 9 = some (9, 192) := by kernel_rfl
@[go_sem] theorem tyField195_10 : tField Try.prog 195 10 = some (10, 193) := by kernel_rfl
@[go_sem] theorem tyFields195 : tFields Try.prog 195 = some [(0, 1), (1, 1), (2, 1), (3, 1), (4, 1), (5, 1), (6, 1), (7, 1), (8, 1), (9, 1), (10, 1)] := by kernel_rfl
@[go_sem] theorem tyStr195 : tStr Try.prog 195 = false := by kernel_rfl
@[go_sem] theorem tySize196 : tSize Try.prog 196 = some 1 := by kernel_rfl
@[go_sem] theorem tyRow196 : tRow Try.prog 196 = some false := by kernel_rfl
@[go_sem] theorem tyZero196 : tZero Try.prog 196 = some [(.pointer none)] := by kernel_rfl
@[go_sem] theorem tyStr196 : tStr Try.prog 196 = false := by kernel_rfl
theorem tyApp2 : tApp Try.prog 2 = some (1, 8) := by kernel_rfl
theorem tyApp3 : tApp Try.prog 3 = some (1, 8) := by kernel_rfl
theorem tyApp4 : tApp Try.prog 4 = some (1, 1) := by kernel_rfl
theorem tyApp5 : tApp Try.prog 5 = some (1, 1) := by kernel_rfl
theorem tyApp6 : tApp Try.prog 6 = some (1, 1) := by kernel_rfl
theorem tyApp7 : tApp Try.prog 7 = some (4, 24) := by kernel_rfl
theorem tyApp8 : tApp Try.prog 8 = some (4, 24) := by kernel_rfl
theorem tyApp9 : tApp Try.prog 9 = some (1, 16) := by kernel_rfl
theorem tyApp10 : tApp Try.prog 10 = some (1, 16) := by kernel_rfl
theorem tyApp11 : tApp Try.prog 11 = some (1, 16) := by kernel_rfl
theorem tyApp12 : tApp Try.prog 12 = some (1, 8) := by kernel_rfl
theorem tyApp13 : tApp Try.prog 13 = some (2, 24) := by kernel_rfl
theorem tyApp14 : tApp Try.prog 14 = some (2, 24) := by kernel_rfl
theorem tyApp15 : tApp Try.prog 15 = some (1, 8) := by kernel_rfl
theorem tyApp16 : tApp Try.prog 16 = some (1, 8) := by kernel_rfl
theorem tyApp17 : tApp Try.prog 17 = some (1, 8) := by kernel_rfl
theorem tyApp18 : tApp Try.prog 18 = some (1, 8) := by kernel_rfl
theorem tyApp19 : tApp Try.prog 19 = some (1, 8) := by kernel_rfl
theorem tyApp21 : tApp Try.prog 21 = some (1, 4) := by kernel_rfl
theorem tyApp22 : tApp Try.prog 22 = some (1, 24) := by kernel_rfl
theorem tyApp23 : tApp Try.prog 23 = some (1, 24) := by kernel_rfl
theorem tyApp24 : tApp Try.prog 24 = some (1, 24) := by kernel_rfl
theorem tyApp25 : tApp Try.prog 25 = some (1, 24) := by kernel_rfl
theorem tyApp26 : tApp Try.prog 26 = some (1, 24) := by kernel_rfl
theorem tyApp27 : tApp Try.prog 27 = some (1, 24) := by kernel_rfl
theorem tyApp28 : tApp Try.prog 28 = some (7, 136) := by kernel_rfl
theorem tyApp29 : tApp Try.prog 29 = some (7, 136) := by kernel_rfl
theorem tyApp30 : tApp Try.prog 30 = some (1, 8) := by kernel_rfl
theorem tyApp36 : tApp Try.prog 36 = some (1, 24) := by kernel_rfl
theorem tyApp37 : tApp Try.prog 37 = some (1, 24) := by kernel_rfl
theorem tyApp41 : tApp Try.prog 41 = some (3, 32) := by kernel_rfl
theorem tyApp42 : tApp Try.prog 42 = some (3, 32) := by kernel_rfl
theorem tyApp43 : tApp Try.prog 43 = some (12, 120) := by kernel_rfl
theorem tyApp44 : tApp Try.prog 44 = some (12, 120) := by kernel_rfl
theorem tyApp45 : tApp Try.prog 45 = some (3, 24) := by kernel_rfl
theorem tyApp46 : tApp Try.prog 46 = some (3, 24) := by kernel_rfl
theorem tyApp47 : tApp Try.prog 47 = some (3, 40) := by kernel_rfl
theorem tyApp48 : tApp Try.prog 48 = some (3, 40) := by kernel_rfl
theorem tyApp49 : tApp Try.prog 49 = some (29, 312) := by kernel_rfl
theorem tyApp50 : tApp Try.prog 50 = some (29, 312) := by kernel_rfl
theorem tyApp53 : tApp Try.prog 53 = some (6, 56) := by kernel_rfl
theorem tyApp54 : tApp Try.prog 54 = some (6, 56) := by kernel_rfl
theorem tyApp62 : tApp Try.prog 62 = some (1, 24) := by kernel_rfl
theorem tyApp63 : tApp Try.prog 63 = some (1, 24) := by kernel_rfl
theorem tyApp64 : tApp Try.prog 64 = some (4, 64) := by kernel_rfl
theorem tyApp65 : tApp Try.prog 65 = some (4, 64) := by kernel_rfl
theorem tyApp66 : tApp Try.prog 66 = some (5, 56) := by kernel_rfl
theorem tyApp67 : tApp Try.prog 67 = some (5, 56) := by kernel_rfl
theorem tyApp68 : tApp Try.prog 68 = some (5, 40) := by kernel_rfl
theorem tyApp69 : tApp Try.prog 69 = some (5, 40) := by kernel_rfl
theorem tyApp88 : tApp Try.prog 88 = some (1, 8) := by kernel_rfl
theorem tyApp90 : tApp Try.prog 90 = some (2, 32) := by kernel_rfl
theorem tyApp91 : tApp Try.prog 91 = some (2, 32) := by kernel_rfl
theorem tyApp101 : tApp Try.prog 101 = some (1, 8) := by kernel_rfl
theorem tyApp102 : tApp Try.prog 102 = some (1, 24) := by kernel_rfl
theorem tyApp103 : tApp Try.prog 103 = some (1, 24) := by kernel_rfl
theorem tyApp113 : tApp Try.prog 113 = some (1, 8) := by kernel_rfl
theorem tyApp114 : tApp Try.prog 114 = some (1, 8) := by kernel_rfl
theorem tyApp115 : tApp Try.prog 115 = some (1, 8) := by kernel_rfl
theorem tyApp119 : tApp Try.prog 119 = some (1, 24) := by kernel_rfl
theorem tyApp131 : tApp Try.prog 131 = some (1, 8) := by kernel_rfl
theorem tyApp143 : tApp Try.prog 143 = some (1, 8) := by kernel_rfl
theorem tyApp145 : tApp Try.prog 145 = some (2, 32) := by kernel_rfl
theorem tyApp157 : tApp Try.prog 157 = some (1, 8) := by kernel_rfl
theorem tyApp159 : tApp Try.prog 159 = some (1, 8) := by kernel_rfl
theorem tyApp181 : tApp Try.prog 181 = some (4, 40) := by kernel_rfl
theorem tyApp182 : tApp Try.prog 182 = some (4, 40) := by kernel_rfl
theorem tyApp187 : tApp Try.prog 187 = some (1, 4) := by kernel_rfl
theorem tyApp188 : tApp Try.prog 188 = some (1, 1) := by kernel_rfl
theorem tyApp189 : tApp Try.prog 189 = some (1, 1) := by kernel_rfl
theorem tyApp191 : tApp Try.prog 191 = some (1, 8) := by kernel_rfl
theorem tyApp192 : tApp Try.prog 192 = some (1, 4) := by kernel_rfl
theorem tyApp193 : tApp Try.prog 193 = some (1, 4) := by kernel_rfl
theorem tyApp194 : tApp Try.prog 194 = some (11, 48) := by kernel_rfl
theorem tyApp195 : tApp Try.prog 195 = some (11, 48) := by kernel_rfl
theorem tyApp196 : tApp Try.prog 196 = some (1, 8) := by kernel_rfl
end Go.Proofs.Ytefmffpidhdjoaa
