/- What the walk asks of the program's types. Conditions: none. -/
import Derived.Test.YtohdfcnjcpjdcaaDoorProg
import Derived.Test.YtohdfcnjcpjdcaaDoorA3q
namespace Go.Proofs.YtohdfcnjcpjdcaaDoor
theorem follows_mixed : Tryd.prog.follows .mixedOrders = true := by kernel_rfl
@[go_sem] theorem tySize2 : tSize Tryd.prog 2 = some 1 := by kernel_rfl
@[go_sem] theorem tyRow2 : tRow Tryd.prog 2 = some false := by kernel_rfl
@[go_sem] theorem tyZero2 : tZero Tryd.prog 2 = some [(.int .i64 0)] := by kernel_rfl
@[go_sem] theorem tyInt2 : tInt Tryd.prog 2 = some .i64 := by kernel_rfl
@[go_sem] theorem tyStr2 : tStr Tryd.prog 2 = false := by kernel_rfl
@[go_sem] theorem tySize3 : tSize Tryd.prog 3 = some 1 := by kernel_rfl
@[go_sem] theorem tyRow3 : tRow Tryd.prog 3 = some false := by kernel_rfl
@[go_sem] theorem tyZero3 : tZero Tryd.prog 3 = some [(.int .i64 0)] := by kernel_rfl
@[go_sem] theorem tyInt3 : tInt Tryd.prog 3 = some .i64 := by kernel_rfl
@[go_sem] theorem tyStr3 : tStr Tryd.prog 3 = false := by kernel_rfl
@[go_sem] theorem tySize4 : tSize Tryd.prog 4 = some 1 := by kernel_rfl
@[go_sem] theorem tyRow4 : tRow Tryd.prog 4 = some false := by kernel_rfl
@[go_sem] theorem tyZero4 : tZero Tryd.prog 4 = some [(.bool false)] := by kernel_rfl
@[go_sem] theorem tyStr4 : tStr Tryd.prog 4 = false := by kernel_rfl
@[go_sem] theorem tySize5 : tSize Tryd.prog 5 = some 1 := by kernel_rfl
@[go_sem] theorem tyRow5 : tRow Tryd.prog 5 = some false := by kernel_rfl
@[go_sem] theorem tyZero5 : tZero Tryd.prog 5 = some [(.int .u8 0)] := by kernel_rfl
@[go_sem] theorem tyInt5 : tInt Tryd.prog 5 = some .u8 := by kernel_rfl
@[go_sem] theorem tyStr5 : tStr Tryd.prog 5 = false := by kernel_rfl
@[go_sem] theorem tySize6 : tSize Tryd.prog 6 = some 1 := by kernel_rfl
@[go_sem] theorem tyRow6 : tRow Tryd.prog 6 = some false := by kernel_rfl
@[go_sem] theorem tyZero6 : tZero Tryd.prog 6 = some [(.int .u8 0)] := by kernel_rfl
@[go_sem] theorem tyInt6 : tInt Tryd.prog 6 = some .u8 := by kernel_rfl
@[go_sem] theorem tyStr6 : tStr Tryd.prog 6 = false := by kernel_rfl
@[go_sem] theorem tySize7 : tSize Tryd.prog 7 = some 4 := by kernel_rfl
@[go_sem] theorem tyRow7 : tRow Tryd.prog 7 = some true := by kernel_rfl
@[go_sem] theorem tyZero7 : tZero Tryd.prog 7 = some [(.int .i64 0), (.int .i64 0), (.bool false), (.int .u8 0)] := by kernel_rfl
@[go_sem] theorem tyField7_0 : tField Tryd.prog 7 0 = some (0, 2) := by kernel_rfl
@[go_sem] theorem tyField7_1 : tField Tryd.prog 7 1 = some (1, 3) := by kernel_rfl
@[go_sem] theorem tyField7_2 : tField Tryd.prog 7 2 = some (2, 4) := by kernel_rfl
@[go_sem] theorem tyField7_3 : tField Tryd.prog 7 3 = some (3, 6) := by kernel_rfl
@[go_sem] theorem tyFields7 : tFields Tryd.prog 7 = some [(0, 1), (1, 1), (2, 1), (3, 1)] := by kernel_rfl
@[go_sem] theorem tyStr7 : tStr Tryd.prog 7 = false := by kernel_rfl
@[go_sem] theorem tySize8 : tSize Tryd.prog 8 = some 4 := by kernel_rfl
@[go_sem] theorem tyRow8 : tRow Tryd.prog 8 = some true := by kernel_rfl
@[go_sem] theorem tyZero8 : tZero Tryd.prog 8 = some [(.int .i64 0), (.int .i64 0), (.bool false), (.int .u8 0)] := by kernel_rfl
@[go_sem] theorem tyField8_0 : tField Tryd.prog 8 0 = some (0, 2) := by kernel_rfl
@[go_sem] theorem tyField8_1 : tField Tryd.prog 8 1 = some (1, 3) := by kernel_rfl
@[go_sem] theorem tyField8_2 : tField Tryd.prog 8 2 = some (2, 4) := by kernel_rfl
@[go_sem] theorem tyField8_3 : tField Tryd.prog 8 3 = some (3, 6) := by kernel_rfl
@[go_sem] theorem tyFields8 : tFields Tryd.prog 8 = some [(0, 1), (1, 1), (2, 1), (3, 1)] := by kernel_rfl
@[go_sem] theorem tyStr8 : tStr Tryd.prog 8 = false := by kernel_rfl
@[go_sem] theorem tySize9 : tSize Tryd.prog 9 = some 1 := by kernel_rfl
@[go_sem] theorem tyRow9 : tRow Tryd.prog 9 = some false := by kernel_rfl
@[go_sem] theorem tyZero9 : tZero Tryd.prog 9 = some [(.string ⟨#[]⟩)] := by kernel_rfl
@[go_sem] theorem tyStr9 : tStr Tryd.prog 9 = true := by kernel_rfl
@[go_sem] theorem tySize10 : tSize Tryd.prog 10 = some 1 := by kernel_rfl
@[go_sem] theorem tyRow10 : tRow Tryd.prog 10 = some false := by kernel_rfl
@[go_sem] theorem tyZero10 : tZero Tryd.prog 10 = some [(.string ⟨#[]⟩)] := by kernel_rfl
@[go_sem] theorem tyStr10 : tStr Tryd.prog 10 = true := by kernel_rfl
@[go_sem] theorem tySize11 : tSize Tryd.prog 11 = some 1 := by kernel_rfl
@[go_sem] theorem tyRow11 : tRow Tryd.prog 11 = some false := by kernel_rfl
@[go_sem] theorem tyZero11 : tZero Tryd.prog 11 = some [(.string ⟨#[]⟩)] := by kernel_rfl
@[go_sem] theorem tyStr11 : tStr Tryd.prog 11 = true := by kernel_rfl
@[go_sem] theorem tySize12 : tSize Tryd.prog 12 = some 1 := by kernel_rfl
@[go_sem] theorem tyRow12 : tRow Tryd.prog 12 = some false := by kernel_rfl
@[go_sem] theorem tyZero12 : tZero Tryd.prog 12 = some [(.int .u64 0)] := by kernel_rfl
@[go_sem] theorem tyInt12 : tInt Tryd.prog 12 = some .u64 := by kernel_rfl
@[go_sem] theorem tyStr12 : tStr Tryd.prog 12 = false := by kernel_rfl
@[go_sem] theorem tySize13 : tSize Tryd.prog 13 = some 2 := by kernel_rfl
@[go_sem] theorem tyRow13 : tRow Tryd.prog 13 = some true := by kernel_rfl
@[go_sem] theorem tyZero13 : tZero Tryd.prog 13 = some [(.string ⟨#[]⟩), (.int .u64 0)] := by kernel_rfl
@[go_sem] theorem tyField13_0 : tField Tryd.prog 13 0 = some (0, 9) := by kernel_rfl
@[go_sem] theorem tyField13_1 : tField Tryd.prog 13 1 = some (1, 12) := by kernel_rfl
@[go_sem] theorem tyFields13 : tFields Tryd.prog 13 = some [(0, 1), (1, 1)] := by kernel_rfl
@[go_sem] theorem tyStr13 : tStr Tryd.prog 13 = false := by kernel_rfl
@[go_sem] theorem tySize14 : tSize Tryd.prog 14 = some 2 := by kernel_rfl
@[go_sem] theorem tyRow14 : tRow Tryd.prog 14 = some true := by kernel_rfl
@[go_sem] theorem tyZero14 : tZero Tryd.prog 14 = some [(.string ⟨#[]⟩), (.int .u64 0)] := by kernel_rfl
@[go_sem] theorem tyField14_0 : tField Tryd.prog 14 0 = some (0, 9) := by kernel_rfl
@[go_sem] theorem tyField14_1 : tField Tryd.prog 14 1 = some (1, 12) := by kernel_rfl
@[go_sem] theorem tyFields14 : tFields Tryd.prog 14 = some [(0, 1), (1, 1)] := by kernel_rfl
@[go_sem] theorem tyStr14 : tStr Tryd.prog 14 = false := by kernel_rfl
@[go_sem] theorem tySize15 : tSize Tryd.prog 15 = some 1 := by kernel_rfl
@[go_sem] theorem tyRow15 : tRow Tryd.prog 15 = some false := by kernel_rfl
@[go_sem] theorem tyZero15 : tZero Tryd.prog 15 = some [(.pointer none)] := by kernel_rfl
@[go_sem] theorem tyStr15 : tStr Tryd.prog 15 = false := by kernel_rfl
@[go_sem] theorem tySize16 : tSize Tryd.prog 16 = some 1 := by kernel_rfl
@[go_sem] theorem tyRow16 : tRow Tryd.prog 16 = some false := by kernel_rfl
@[go_sem] theorem tyZero16 : tZero Tryd.prog 16 = some [(.pointer none)] := by kernel_rfl
@[go_sem] theorem tyStr16 : tStr Tryd.prog 16 = false := by kernel_rfl
@[go_sem] theorem tySize17 : tSize Tryd.prog 17 = some 1 := by kernel_rfl
@[go_sem] theorem tyRow17 : tRow Tryd.prog 17 = some false := by kernel_rfl
@[go_sem] theorem tyZero17 : tZero Tryd.prog 17 = some [(.pointer none)] := by kernel_rfl
@[go_sem] theorem tyStr17 : tStr Tryd.prog 17 = false := by kernel_rfl
@[go_sem] theorem tySize18 : tSize Tryd.prog 18 = some 1 := by kernel_rfl
@[go_sem] theorem tyRow18 : tRow Tryd.prog 18 = some true := by kernel_rfl
@[go_sem] theorem tyZero18 : tZero Tryd.prog 18 = some [(.pointer none)] := by kernel_rfl
@[go_sem] theorem tyField18_0 : tField Tryd.prog 18 0 = some (0, 17) := by kernel_rfl
@[go_sem] theorem tyFields18 : tFields Tryd.prog 18 = some [(0, 1)] := by kernel_rfl
@[go_sem] theorem tyStr18 : tStr Tryd.prog 18 = false := by kernel_rfl
@[go_sem] theorem tySize19 : tSize Tryd.prog 19 = some 1 := by kernel_rfl
@[go_sem] theorem tyRow19 : tRow Tryd.prog 19 = some true := by kernel_rfl
@[go_sem] theorem tyZero19 : tZero Tryd.prog 19 = some [(.pointer none)] := by kernel_rfl
@[go_sem] theorem tyField19_0 : tField Tryd.prog 19 0 = some (0, 17) := by kernel_rfl
@[go_sem] theorem tyFields19 : tFields Tryd.prog 19 = some [(0, 1)] := by kernel_rfl
@[go_sem] theorem tyStr19 : tStr Tryd.prog 19 = false := by kernel_rfl
@[go_sem] theorem tySize21 : tSize Tryd.prog 21 = some 1 := by kernel_rfl
@[go_sem] theorem tyRow21 : tRow Tryd.prog 21 = some false := by kernel_rfl
@[go_sem] theorem tyZero21 : tZero Tryd.prog 21 = some [(.int .i32 0)] := by kernel_rfl
@[go_sem] theorem tyInt21 : tInt Tryd.prog 21 = some .i32 := by kernel_rfl
@[go_sem] theorem tyStr21 : tStr Tryd.prog 21 = false := by kernel_rfl
@[go_sem] theorem tySize23 : tSize Tryd.prog 23 = some 3 := by kernel_rfl
@[go_sem] theorem tyRow23 : tRow Tryd.prog 23 = some true := by kernel_rfl
@[go_sem] theorem tyZero23 : tZero Tryd.prog 23 = some [(.string ⟨#[]⟩), (.int .i64 0), (.int .i64 0)] := by kernel_rfl
@[go_sem] theorem tyField23_0 : tField Tryd.prog 23 0 = some (0, 9) := by kernel_rfl
@[go_sem] theorem tyField23_1 : tField Tryd.prog 23 1 = some (1, 3) := by kernel_rfl
@[go_sem] theorem tyField23_2 : tField Tryd.prog 23 2 = some (2, 3) := by kernel_rfl
@[go_sem] theorem tyFields23 : tFields Tryd.prog 23 = some [(0, 1), (1, 1), (2, 1)] := by kernel_rfl
@[go_sem] theorem tyStr23 : tStr Tryd.prog 23 = false := by kernel_rfl
@[go_sem] theorem tySize24 : tSize Tryd.prog 24 = some 3 := by kernel_rfl
@[go_sem] theorem tyRow24 : tRow Tryd.prog 24 = some true := by kernel_rfl
@[go_sem] theorem tyZero24 : tZero Tryd.prog 24 = some [(.string ⟨#[]⟩), (.int .i64 0), (.int .i64 0)] := by kernel_rfl
@[go_sem] theorem tyField24_0 : tField Tryd.prog 24 0 = some (0, 9) := by kernel_rfl
@[go_sem] theorem tyField24_1 : tField Tryd.prog 24 1 = some (1, 3) := by kernel_rfl
@[go_sem] theorem tyField24_2 : tField Tryd.prog 24 2 = some (2, 3) := by kernel_rfl
@[go_sem] theorem tyFields24 : tFields Tryd.prog 24 = some [(0, 1), (1, 1), (2, 1)] := by kernel_rfl
@[go_sem] theorem tyStr24 : tStr Tryd.prog 24 = false := by kernel_rfl
@[go_sem] theorem tySize25 : tSize Tryd.prog 25 = some 1 := by kernel_rfl
@[go_sem] theorem tyRow25 : tRow Tryd.prog 25 = some false := by kernel_rfl
@[go_sem] theorem tyZero25 : tZero Tryd.prog 25 = some [(.slice none 0 0)] := by kernel_rfl
@[go_sem] theorem tySlice25 : tSlice Tryd.prog 25 = some 3 := by kernel_rfl
@[go_sem] theorem tyStr25 : tStr Tryd.prog 25 = false := by kernel_rfl
@[go_sem] theorem tySize26 : tSize Tryd.prog 26 = some 12 := by kernel_rfl
@[go_sem] theorem tyRow26 : tRow Tryd.prog 26 = some true := by kernel_rfl
@[go_sem] theorem tyZero26 : tZero Tryd.prog 26 = some [(.int .i64 0), (.string ⟨#[]⟩), (.string ⟨#[]⟩), (.bool false), (.bool false), (.int .i64 0), (.int .i64 0), (.int .i64 0), (.slice none 0 0), (.int .i64 0), (.int .i64 0), (.int .i64 0)] := by kernel_rfl
@[go_sem] theorem tyField26_0 : tField Tryd.prog 26 0 = some (0, 3) := by kernel_rfl
@[go_sem] theorem tyField26_1 : tField Tryd.prog 26 1 = some (1, 9) := by kernel_rfl
@[go_sem] theorem tyField26_2 : tField Tryd.prog 26 2 = some (2, 9) := by kernel_rfl
@[go_sem] theorem tyField26_3 : tField Tryd.prog 26 3 = some (3, 4) := by kernel_rfl
@[go_sem] theorem tyField26_4 : tField Tryd.prog 26 4 = some (4, 4) := by kernel_rfl
@[go_sem] theorem tyField26_5 : tField Tryd.prog 26 5 = some (5, 3) := by kernel_rfl
@[go_sem] theorem tyField26_6 : tField Tryd.prog 26 6 = some (6, 3) := by kernel_rfl
@[go_sem] theorem tyField26_7 : tField Tryd.prog 26 7 = some (7, 3) := by kernel_rfl
@[go_sem] theorem tyField26_8 : tField Tryd.prog 26 8 = some (8, 25) := by kernel_rfl
@[go_sem] theorem tyField26_9 : tField Tryd.prog 26 9 = some (9, 3) := by kernel_rfl
@[go_sem] theorem tyField26_10 : tField Tryd.prog 26 10 = some (10, 3) := by kernel_rfl
@[go_sem] theorem tyField26_11 : tField Tryd.prog 26 11 = some (11, 3) := by kernel_rfl
@[go_sem] theorem tyFields26 : tFields Tryd.prog 26 = some [(0, 1), (1, 1), (2, 1), (3, 1), (4, 1), (5, 1), (6, 1), (7, 1), (8, 1), (9, 1), (10, 1), (11, 1)] := by kernel_rfl
@[go_sem] theorem tyStr26 : tStr Tryd.prog 26 = false := by kernel_rfl
@[go_sem] theorem tySize27 : tSize Tryd.prog 27 = some 12 := by kernel_rfl
@[go_sem] theorem tyRow27 : tRow Tryd.prog 27 = some true := by kernel_rfl
@[go_sem] theorem tyZero27 : tZero Tryd.prog 27 = some [(.int .i64 0), (.string ⟨#[]⟩), (.string ⟨#[]⟩), (.bool false), (.bool false), (.int .i64 0), (.int .i64 0), (.int .i64 0), (.slice none 0 0), (.int .i64 0), (.int .i64 0), (.int .i64 0)] := by kernel_rfl
@[go_sem] theorem tyField27_0 : tField Tryd.prog 27 0 = some (0, 3) := by kernel_rfl
@[go_sem] theorem tyField27_1 : tField Tryd.prog 27 1 = some (1, 9) := by kernel_rfl
@[go_sem] theorem tyField27_2 : tField Tryd.prog 27 2 = some (2, 9) := by kernel_rfl
@[go_sem] theorem tyField27_3 : tField Tryd.prog 27 3 = some (3, 4) := by kernel_rfl
@[go_sem] theorem tyField27_4 : tField Tryd.prog 27 4 = some (4, 4) := by kernel_rfl
@[go_sem] theorem tyField27_5 : tField Tryd.prog 27 5 = some (5, 3) := by kernel_rfl
@[go_sem] theorem tyField27_6 : tField Tryd.prog 27 6 = some (6, 3) := by kernel_rfl
@[go_sem] theorem tyField27_7 : tField Tryd.prog 27 7 = some (7, 3) := by kernel_rfl
@[go_sem] theorem tyField27_8 : tField Tryd.prog 27 8 = some (8, 25) := by kernel_rfl
@[go_sem] theorem tyField27_9 : tField Tryd.prog 27 9 = some (9, 3) := by kernel_rfl
@[go_sem] theorem tyField27_10 : tField Tryd.prog 27 10 = some (10, 3) := by kernel_rfl
@[go_sem] theorem tyField27_11 : tField Tryd.prog 27 11 = some (11, 3) := by kernel_rfl
@[go_sem] theorem tyFields27 : tFields Tryd.prog 27 = some [(0, 1), (1, 1), (2, 1), (3, 1), (4, 1), (5, 1), (6, 1), (7, 1), (8, 1), (9, 1), (10, 1), (11, 1)] := by kernel_rfl
@[go_sem] theorem tyStr27 : tStr Tryd.prog 27 = false := by kernel_rfl
@[go_sem] theorem tySize28 : tSize Tryd.prog 28 = some 3 := by kernel_rfl
@[go_sem] theorem tyRow28 : tRow Tryd.prog 28 = some true := by kernel_rfl
@[go_sem] theorem tyZero28 : tZero Tryd.prog 28 = some [(.int .i64 0), (.int .i64 0), (.int .i64 0)] := by kernel_rfl
@[go_sem] theorem tyField28_0 : tField Tryd.prog 28 0 = some (0, 3) := by kernel_rfl
@[go_sem] theorem tyField28_1 : tField Tryd.prog 28 1 = some (1, 3) := by kernel_rfl
@[go_sem] theorem tyField28_2 : tField Tryd.prog 28 2 = some (2, 3) := by kernel_rfl
@[go_sem] theorem tyFields28 : tFields Tryd.prog 28 = some [(0, 1), (1, 1), (2, 1)] := by kernel_rfl
@[go_sem] theorem tyStr28 : tStr Tryd.prog 28 = false := by kernel_rfl
@[go_sem] theorem tySize29 : tSize Tryd.prog 29 = some 3 := by kernel_rfl
@[go_sem] theorem tyRow29 : tRow Tryd.prog 29 = some true := by kernel_rfl
@[go_sem] theorem tyZero29 : tZero Tryd.prog 29 = some [(.int .i64 0), (.int .i64 0), (.int .i64 0)] := by kernel_rfl
@[go_sem] theorem tyField29_0 : tField Tryd.prog 29 0 = some (0, 3) := by kernel_rfl
@[go_sem] theorem tyField29_1 : tField Tryd.prog 29 1 = some (1, 3) := by kernel_rfl
@[go_sem] theorem tyField29_2 : tField Tryd.prog 29 2 = some (2, 3) := by kernel_rfl
@[go_sem] theorem tyFields29 : tFields Tryd.prog 29 = some [(0, 1), (1, 1), (2, 1)] := by kernel_rfl
@[go_sem] theorem tyStr29 : tStr Tryd.prog 29 = false := by kernel_rfl
@[go_sem] theorem tySize30 : tSize Tryd.prog 30 = some 3 := by kernel_rfl
@[go_sem] theorem tyRow30 : tRow Tryd.prog 30 = some true := by kernel_rfl
@[go_sem] theorem tyZero30 : tZero Tryd.prog 30 = some [(.int .i64 0), (.int .i64 0), (.slice none 0 0)] := by kernel_rfl
@[go_sem] theorem tyField30_0 : tField Tryd.prog 30 0 = some (0, 3) := by kernel_rfl
@[go_sem] theorem tyField30_1 : tField Tryd.prog 30 1 = some (1, 3) := by kernel_rfl
@[go_sem] theorem tyField30_2 : tField Tryd.prog 30 2 = some (2, 25) := by kernel_rfl
@[go_sem] theorem tyFields30 : tFields Tryd.prog 30 = some [(0, 1), (1, 1), (2, 1)] := by kernel_rfl
@[go_sem] theorem tyStr30 : tStr Tryd.prog 30 = false := by kernel_rfl
@[go_sem] theorem tySize31 : tSize Tryd.prog 31 = some 3 := by kernel_rfl
@[go_sem] theorem tyRow31 : tRow Tryd.prog 31 = some true := by kernel_rfl
@[go_sem] theorem tyZero31 : tZero Tryd.prog 31 = some [(.int .i64 0), (.int .i64 0), (.slice none 0 0)] := by kernel_rfl
@[go_sem] theorem tyField31_0 : tField Tryd.prog 31 0 = some (0, 3) := by kernel_rfl
@[go_sem] theorem tyField31_1 : tField Tryd.prog 31 1 = some (1, 3) := by kernel_rfl
@[go_sem] theorem tyField31_2 : tField Tryd.prog 31 2 = some (2, 25) := by kernel_rfl
@[go_sem] theorem tyFields31 : tFields Tryd.prog 31 = some [(0, 1), (1, 1), (2, 1)] := by kernel_rfl
@[go_sem] theorem tyStr31 : tStr Tryd.prog 31 = false := by kernel_rfl
@[go_sem] theorem tySize32 : tSize Tryd.prog 32 = some 29 := by kernel_rfl
@[go_sem] theorem tyRow32 : tRow Tryd.prog 32 = some true := by kernel_rfl
@[go_sem] theorem tyZero32 : tZero Tryd.prog 32 = some [(.int .i64 0), (.int .i64 0), (.int .i64 0), (.string ⟨#[]⟩), (.string ⟨#[]⟩), (.string ⟨#[]⟩), (.int .i64 0), (.int .i64 0), (.int .i64 0), (.string ⟨#[]⟩), (.string ⟨#[]⟩), (.bool false), (.bool false), (.int .i64 0), (.int .i64 0), (.int .i64 0), (.slice none 0 0), (.int .i64 0), (.int .i64 0), (.int .i64 0), (.int .i64 0), (.int .i64 0), (.int .i64 0), (.int .i64 0), (.int .i64 0), (.slice none 0 0), (.slice none 0 0), (.int .i64 0), (.int .i64 0)] := by kernel_rfl
@[go_sem] theorem tyField32_0 : tField Tryd.prog 32 0 = some (0, 3) := by kernel_rfl
@[go_sem] theorem tyField32_1 : tField Tryd.prog 32 1 = some (1, 3) := by kernel_rfl
@[go_sem] theorem tyField32_2 : tField Tryd.prog 32 2 = some (2, 3) := by kernel_rfl
@[go_sem] theorem tyField32_3 : tField Tryd.prog 32 3 = some (3, 9) := by kernel_rfl
@[go_sem] theorem tyField32_4 : tField Tryd.prog 32 4 = some (4, 9) := by kernel_rfl
@[go_sem] theorem tyField32_5 : tField Tryd.prog 32 5 = some (5, 24) := by kernel_rfl
@[go_sem] theorem tyField32_6 : tField Tryd.prog 32 6 = some (8, 27) := by kernel_rfl
@[go_sem] theorem tyField32_7 : tField Tryd.prog 32 7 = some (20, 29) := by kernel_rfl
@[go_sem] theorem tyField32_8 : tField Tryd.prog 32 8 = some (23, 31) := by kernel_rfl
@[go_sem] theorem tyField32_9 : tField Tryd.prog 32 9 = some (26, 25) := by kernel_rfl
@[go_sem] theorem tyField32_10 : tField Tryd.prog 32 10 = some (27, 3) := by kernel_rfl
@[go_sem] theorem tyField32_11 : tField Tryd.prog 32 11 = some (28, 3) := by kernel_rfl
@[go_sem] theorem tyFields32 : tFields Tryd.prog 32 = some [(0, 1), (1, 1), (2, 1), (3, 1), (4, 1), (5, 3), (8, 12), (20, 3), (23, 3), (26, 1), (27, 1), (28, 1)] := by kernel_rfl
@[go_sem] theorem tyStr32 : tStr Tryd.prog 32 = false := by kernel_rfl
@[go_sem] theorem tySize33 : tSize Tryd.prog 33 = some 29 := by kernel_rfl
@[go_sem] theorem tyRow33 : tRow Tryd.prog 33 = some true := by kernel_rfl
@[go_sem] theorem tyZero33 : tZero Tryd.prog 33 = some [(.int .i64 0), (.int .i64 0), (.int .i64 0), (.string ⟨#[]⟩), (.string ⟨#[]⟩), (.string ⟨#[]⟩), (.int .i64 0), (.int .i64 0), (.int .i64 0), (.string ⟨#[]⟩), (.string ⟨#[]⟩), (.bool false), (.bool false), (.int .i64 0), (.int .i64 0), (.int .i64 0), (.slice none 0 0), (.int .i64 0), (.int .i64 0), (.int .i64 0), (.int .i64 0), (.int .i64 0), (.int .i64 0), (.int .i64 0), (.int .i64 0), (.slice none 0 0), (.slice none 0 0), (.int .i64 0), (.int .i64 0)] := by kernel_rfl
@[go_sem] theorem tyField33_0 : tField Tryd.prog 33 0 = some (0, 3) := by kernel_rfl
@[go_sem] theorem tyField33_1 : tField Tryd.prog 33 1 = some (1, 3) := by kernel_rfl
@[go_sem] theorem tyField33_2 : tField Tryd.prog 33 2 = some (2, 3) := by kernel_rfl
@[go_sem] theorem tyField33_3 : tField Tryd.prog 33 3 = some (3, 9) := by kernel_rfl
@[go_sem] theorem tyField33_4 : tField Tryd.prog 33 4 = some (4, 9) := by kernel_rfl
@[go_sem] theorem tyField33_5 : tField Tryd.prog 33 5 = some (5, 24) := by kernel_rfl
@[go_sem] theorem tyField33_6 : tField Tryd.prog 33 6 = some (8, 27) := by kernel_rfl
@[go_sem] theorem tyField33_7 : tField Tryd.prog 33 7 = some (20, 29) := by kernel_rfl
@[go_sem] theorem tyField33_8 : tField Tryd.prog 33 8 = some (23, 31) := by kernel_rfl
@[go_sem] theorem tyField33_9 : tField Tryd.prog 33 9 = some (26, 25) := by kernel_rfl
@[go_sem] theorem tyField33_10 : tField Tryd.prog 33 10 = some (27, 3) := by kernel_rfl
@[go_sem] theorem tyField33_11 : tField Tryd.prog 33 11 = some (28, 3) := by kernel_rfl
@[go_sem] theorem tyFields33 : tFields Tryd.prog 33 = some [(0, 1), (1, 1), (2, 1), (3, 1), (4, 1), (5, 3), (8, 12), (20, 3), (23, 3), (26, 1), (27, 1), (28, 1)] := by kernel_rfl
@[go_sem] theorem tyStr33 : tStr Tryd.prog 33 = false := by kernel_rfl
@[go_sem] theorem tySize34 : tSize Tryd.prog 34 = some 1 := by kernel_rfl
@[go_sem] theorem tyRow34 : tRow Tryd.prog 34 = some false := by kernel_rfl
@[go_sem] theorem tyZero34 : tZero Tryd.prog 34 = some [(.slice none 0 0)] := by kernel_rfl
@[go_sem] theorem tySlice34 : tSlice Tryd.prog 34 = some 33 := by kernel_rfl
@[go_sem] theorem tyStr34 : tStr Tryd.prog 34 = false := by kernel_rfl
@[go_sem] theorem tySize35 : tSize Tryd.prog 35 = some 1 := by kernel_rfl
@[go_sem] theorem tyRow35 : tRow Tryd.prog 35 = some false := by kernel_rfl
@[go_sem] theorem tyZero35 : tZero Tryd.prog 35 = some [(.int .i64 0)] := by kernel_rfl
@[go_sem] theorem tyInt35 : tInt Tryd.prog 35 = some .i64 := by kernel_rfl
@[go_sem] theorem tyStr35 : tStr Tryd.prog 35 = false := by kernel_rfl
@[go_sem] theorem tySize36 : tSize Tryd.prog 36 = some 1 := by kernel_rfl
@[go_sem] theorem tyRow36 : tRow Tryd.prog 36 = some false := by kernel_rfl
@[go_sem] theorem tyZero36 : tZero Tryd.prog 36 = some [(.slice none 0 0)] := by kernel_rfl
@[go_sem] theorem tySlice36 : tSlice Tryd.prog 36 = some 35 := by kernel_rfl
@[go_sem] theorem tyStr36 : tStr Tryd.prog 36 = false := by kernel_rfl
@[go_sem] theorem tySize37 : tSize Tryd.prog 37 = some 1 := by kernel_rfl
@[go_sem] theorem tyRow37 : tRow Tryd.prog 37 = some false := by kernel_rfl
@[go_sem] theorem tyZero37 : tZero Tryd.prog 37 = some [(.slice none 0 0)] := by kernel_rfl
@[go_sem] theorem tySlice37 : tSlice Tryd.prog 37 = some 5 := by kernel_rfl
@[go_sem] theorem tyStr37 : tStr Tryd.prog 37 = false := by kernel_rfl
@[go_sem] theorem tySize45 : tSize Tryd.prog 45 = some 1 := by kernel_rfl
@[go_sem] theorem tyRow45 : tRow Tryd.prog 45 = some false := by kernel_rfl
@[go_sem] theorem tyZero45 : tZero Tryd.prog 45 = some [(.pointer none)] := by kernel_rfl
@[go_sem] theorem tyStr45 : tStr Tryd.prog 45 = false := by kernel_rfl
@[go_sem] theorem tySize46 : tSize Tryd.prog 46 = some 1 := by kernel_rfl
@[go_sem] theorem tyRow46 : tRow Tryd.prog 46 = some true := by kernel_rfl
@[go_sem] theorem tyZero46 : tZero Tryd.prog 46 = some [(.slice none 0 0)] := by kernel_rfl
@[go_sem] theorem tyField46_0 : tField Tryd.prog 46 0 = some (0, 37) := by kernel_rfl
@[go_sem] theorem tyFields46 : tFields Tryd.prog 46 = some [(0, 1)] := by kernel_rfl
@[go_sem] theorem tyStr46 : tStr Tryd.prog 46 = false := by kernel_rfl
@[go_sem] theorem tySize47 : tSize Tryd.prog 47 = some 1 := by kernel_rfl
@[go_sem] theorem tyRow47 : tRow Tryd.prog 47 = some true := by kernel_rfl
@[go_sem] theorem tyZero47 : tZero Tryd.prog 47 = some [(.slice none 0 0)] := by kernel_rfl
@[go_sem] theorem tyField47_0 : tField Tryd.prog 47 0 = some (0, 37) := by kernel_rfl
@[go_sem] theorem tyFields47 : tFields Tryd.prog 47 = some [(0, 1)] := by kernel_rfl
@[go_sem] theorem tyStr47 : tStr Tryd.prog 47 = false := by kernel_rfl
@[go_sem] theorem tySize53 : tSize Tryd.prog 53 = some 1 := by kernel_rfl
@[go_sem] theorem tyRow53 : tRow Tryd.prog 53 = some false := by kernel_rfl
@[go_sem] theorem tyZero53 : tZero Tryd.prog 53 = some [(.pointer none)] := by kernel_rfl
@[go_sem] theorem tyStr53 : tStr Tryd.prog 53 = false := by kernel_rfl
@[go_sem] theorem tySize55 : tSize Tryd.prog 55 = some 2 := by kernel_rfl
@[go_sem] theorem tyRow55 : tRow Tryd.prog 55 = some true := by kernel_rfl
@[go_sem] theorem tyZero55 : tZero Tryd.prog 55 = some [(.slice none 0 0), (.int .i64 0)] := by kernel_rfl
@[go_sem] theorem tyField55_0 : tField Tryd.prog 55 0 = some (0, 37) := by kernel_rfl
@[go_sem] theorem tyField55_1 : tField Tryd.prog 55 1 = some (1, 35) := by kernel_rfl
@[go_sem] theorem tyFields55 : tFields Tryd.prog 55 = some [(0, 1), (1, 1)] := by kernel_rfl
@[go_sem] theorem tyStr55 : tStr Tryd.prog 55 = false := by kernel_rfl
@[go_sem] theorem tySize56 : tSize Tryd.prog 56 = some 2 := by kernel_rfl
@[go_sem] theorem tyRow56 : tRow Tryd.prog 56 = some true := by kernel_rfl
@[go_sem] theorem tyZero56 : tZero Tryd.prog 56 = some [(.slice none 0 0), (.int .i64 0)] := by kernel_rfl
@[go_sem] theorem tyField56_0 : tField Tryd.prog 56 0 = some (0, 37) := by kernel_rfl
@[go_sem] theorem tyField56_1 : tField Tryd.prog 56 1 = some (1, 35) := by kernel_rfl
@[go_sem] theorem tyFields56 : tFields Tryd.prog 56 = some [(0, 1), (1, 1)] := by kernel_rfl
@[go_sem] theorem tyStr56 : tStr Tryd.prog 56 = false := by kernel_rfl
@[go_sem] theorem tySize60 : tSize Tryd.prog 60 = some 11 := by kernel_rfl
@[go_sem] theorem tyRow60 : tRow Tryd.prog 60 = some true := by kernel_rfl
@[go_sem] theorem tyZero60 : tZero Tryd.prog 60 = some [(.bool false), (.bool false), (.bool false), (.bool false), (.bool false), (.bool false), (.bool false), (.bool false), (.bool false), (.bool false), (.bool false)] := by kernel_rfl
@[go_sem] theorem tyField60_0 : tField Tryd.prog 60 0 = some (0, 4) := by kernel_rfl
@[go_sem] theorem tyField60_1 : tField Tryd.prog 60 1 = some (1, 4) := by kernel_rfl
@[go_sem] theorem tyField60_2 : tField Tryd.prog 60 2 = some (2, 4) := by kernel_rfl
@[go_sem] theorem tyField60_3 : tField Tryd.prog 60 3 = some (3, 4) := by kernel_rfl
@[go_sem] theorem tyField60_4 : tField Tryd.prog 60 4 = some (4, 4) := by kernel_rfl
@[go_sem] theorem tyField60_5 : tField Tryd.prog 60 5 = some (5, 4) := by kernel_rfl
@[go_sem] theorem tyField60_6 : tField Tryd.prog 60 6 = some (6, 4) := by kernel_rfl
@[go_sem] theorem tyField60_7 : tField Tryd.prog 60 7 = some (7, 4) := by kernel_rfl
@[go_sem] theorem tyField60_8 : tField Tryd.prog 60 8 = some (8, 4) := by kernel_rfl
@[go_sem] theorem tyField60_9 : tField Tryd.prog 60 9 = some (9, 4) := by kernel_rfl
@[go_sem] theorem tyField60_10 : tField Tryd.prog 60 10 = some (10, 4) := by kernel_rfl
@[go_sem] theorem tyFields60 : tFields Tryd.prog 60 = some [(0, 1), (1, 1), (2, 1), (3, 1), (4, 1), (5, 1), (6, 1), (7, 1), (8, 1), (9, 1), (10, 1)] := by kernel_rfl
@[go_sem] theorem tyStr60 : tStr Tryd.prog 60 = false := by kernel_rfl
@[go_sem] theorem tySize61 : tSize Tryd.prog 61 = some 11 := by kernel_rfl
@[go_sem] theorem tyRow61 : tRow Tryd.prog 61 = some true := by kernel_rfl
@[go_sem] theorem tyZero61 : tZero Tryd.prog 61 = some [(.bool false), (.bool false), (.bool false), (.bool false), (.bool false), (.bool false), (.bool false), (.bool false), (.bool false), (.bool false), (.bool false)] := by kernel_rfl
@[go_sem] theorem tyField61_0 : tField Tryd.prog 61 0 = some (0, 4) := by kernel_rfl
@[go_sem] theorem tyField61_1 : tField Tryd.prog 61 1 = some (1, 4) := by kernel_rfl
@[go_sem] theorem tyField61_2 : tField Tryd.prog 61 2 = some (2, 4) := by kernel_rfl
@[go_sem] theorem tyField61_3 : tField Tryd.prog 61 3 = some (3, 4) := by kernel_rfl
@[go_sem] theorem tyField61_4 : tField Tryd.prog 61 4 = some (4, 4) := by kernel_rfl
@[go_sem] theorem tyField61_5 : tField Tryd.prog 61 5 = some (5, 4) := by kernel_rfl
@[go_sem] theorem tyField61_6 : tField Tryd.prog 61 6 = some (6, 4) := by kernel_rfl
@[go_sem] theorem tyField61_7 : tField Tryd.prog 61 7 = some (7, 4) := by kernel_rfl
@[go_sem] theorem tyField61_8 : tField Tryd.prog 61 8 = some (8, 4) := by kernel_rfl
@[go_sem] theorem tyField61_9 : tField Tryd.prog 61 9 = some (9, 4) := by kernel_rfl
@[go_sem] theorem tyField61_10 : tField Tryd.prog 61 10 = some (10, 4) := by kernel_rfl
@[go_sem] theorem tyFields61 : tFields Tryd.prog 61 = some [(0, 1), (1, 1), (2, 1), (3, 1), (4, 1), (5, 1), (6, 1), (7, 1), (8, 1), (9, 1), (10, 1)] := by kernel_rfl
@[go_sem] theorem tyStr61 : tStr Tryd.prog 61 = false := by kernel_rfl
@[go_sem] theorem tySize62 : tSize Tryd.prog 62 = some 165 := by kernel_rfl
@[go_sem] theorem tyRow62 : tRow Tryd.prog 62 = some true := by kernel_rfl
@[go_sem] theorem tyFields62 : tFields Tryd.prog 62 = some [(0, 11), (11, 11), (22, 11), (33, 11), (44, 11), (55, 11), (66, 11), (77, 11), (88, 11), (99, 11), (110, 11), (121, 11), (132, 11), (143, 11), (154, 11)] := by kernel_rfl
@[go_sem] theorem tyStr62 : tStr Tryd.prog 62 = false := by kernel_rfl
@[go_sem] theorem tySize71 : tSize Tryd.prog 71 = some 1 := by kernel_rfl
@[go_sem] theorem tyRow71 : tRow Tryd.prog 71 = some false := by kernel_rfl
@[go_sem] theorem tyZero71 : tZero Tryd.prog 71 = some [(.slice none 0 0)] := by kernel_rfl
@[go_sem] theorem tySlice71 : tSlice Tryd.prog 71 = some 9 := by kernel_rfl
@[go_sem] theorem tyStr71 : tStr Tryd.prog 71 = false := by kernel_rfl
@[go_sem] theorem tySize76 : tSize Tryd.prog 76 = some 1 := by kernel_rfl
@[go_sem] theorem tyRow76 : tRow Tryd.prog 76 = some false := by kernel_rfl
@[go_sem] theorem tyZero76 : tZero Tryd.prog 76 = some [(.int .u64 0)] := by kernel_rfl
@[go_sem] theorem tyInt76 : tInt Tryd.prog 76 = some .u64 := by kernel_rfl
@[go_sem] theorem tyStr76 : tStr Tryd.prog 76 = false := by kernel_rfl
@[go_sem] theorem tySize87 : tSize Tryd.prog 87 = some 4 := by kernel_rfl
@[go_sem] theorem tyRow87 : tRow Tryd.prog 87 = some true := by kernel_rfl
@[go_sem] theorem tyZero87 : tZero Tryd.prog 87 = some [(.pointer none), (.pointer none), (.pointer none), (.string ⟨#[]⟩)] := by kernel_rfl
@[go_sem] theorem tyField87_0 : tField Tryd.prog 87 0 = some (0, 17) := by kernel_rfl
@[go_sem] theorem tyField87_1 : tField Tryd.prog 87 1 = some (1, 17) := by kernel_rfl
@[go_sem] theorem tyField87_2 : tField Tryd.prog 87 2 = some (2, 17) := by kernel_rfl
@[go_sem] theorem tyField87_3 : tField Tryd.prog 87 3 = some (3, 9) := by kernel_rfl
@[go_sem] theorem tyFields87 : tFields Tryd.prog 87 = some [(0, 1), (1, 1), (2, 1), (3, 1)] := by kernel_rfl
@[go_sem] theorem tyStr87 : tStr Tryd.prog 87 = false := by kernel_rfl
@[go_sem] theorem tySize88 : tSize Tryd.prog 88 = some 4 := by kernel_rfl
@[go_sem] theorem tyRow88 : tRow Tryd.prog 88 = some true := by kernel_rfl
@[go_sem] theorem tyZero88 : tZero Tryd.prog 88 = some [(.pointer none), (.pointer none), (.pointer none), (.string ⟨#[]⟩)] := by kernel_rfl
@[go_sem] theorem tyField88_0 : tField Tryd.prog 88 0 = some (0, 17) := by kernel_rfl
@[go_sem] theorem tyField88_1 : tField Tryd.prog 88 1 = some (1, 17) := by kernel_rfl
@[go_sem] theorem tyField88_2 : tField Tryd.prog 88 2 = some (2, 17) := by kernel_rfl
@[go_sem] theorem tyField88_3 : tField Tryd.prog 88 3 = some (3, 9) := by kernel_rfl
@[go_sem] theorem tyFields88 : tFields Tryd.prog 88 = some [(0, 1), (1, 1), (2, 1), (3, 1)] := by kernel_rfl
@[go_sem] theorem tyStr88 : tStr Tryd.prog 88 = false := by kernel_rfl
@[go_sem] theorem tySize89 : tSize Tryd.prog 89 = some 0 := by kernel_rfl
@[go_sem] theorem tyRow89 : tRow Tryd.prog 89 = some true := by kernel_rfl
@[go_sem] theorem tyFields89 : tFields Tryd.prog 89 = some [] := by kernel_rfl
@[go_sem] theorem tyStr89 : tStr Tryd.prog 89 = false := by kernel_rfl
@[go_sem] theorem tySize90 : tSize Tryd.prog 90 = some 0 := by kernel_rfl
@[go_sem] theorem tyRow90 : tRow Tryd.prog 90 = some true := by kernel_rfl
@[go_sem] theorem tyField90_0 : tField Tryd.prog 90 0 = some (0, 89) := by kernel_rfl
@[go_sem] theorem tyFields90 : tFields Tryd.prog 90 = some [(0, 0)] := by kernel_rfl
@[go_sem] theorem tyStr90 : tStr Tryd.prog 90 = false := by kernel_rfl
@[go_sem] theorem tySize91 : tSize Tryd.prog 91 = some 0 := by kernel_rfl
@[go_sem] theorem tyRow91 : tRow Tryd.prog 91 = some true := by kernel_rfl
@[go_sem] theorem tyField91_0 : tField Tryd.prog 91 0 = some (0, 89) := by kernel_rfl
@[go_sem] theorem tyFields91 : tFields Tryd.prog 91 = some [(0, 0)] := by kernel_rfl
@[go_sem] theorem tyStr91 : tStr Tryd.prog 91 = false := by kernel_rfl
@[go_sem] theorem tySize93 : tSize Tryd.prog 93 = some 1 := by kernel_rfl
@[go_sem] theorem tyRow93 : tRow Tryd.prog 93 = some false := by kernel_rfl
@[go_sem] theorem tyZero93 : tZero Tryd.prog 93 = some [(.int .u32 0)] := by kernel_rfl
@[go_sem] theorem tyInt93 : tInt Tryd.prog 93 = some .u32 := by kernel_rfl
@[go_sem] theorem tyStr93 : tStr Tryd.prog 93 = false := by kernel_rfl
@[go_sem] theorem tySize94 : tSize Tryd.prog 94 = some 1 := by kernel_rfl
@[go_sem] theorem tyRow94 : tRow Tryd.prog 94 = some false := by kernel_rfl
@[go_sem] theorem tyZero94 : tZero Tryd.prog 94 = some [(.int .u8 0)] := by kernel_rfl
@[go_sem] theorem tyInt94 : tInt Tryd.prog 94 = some .u8 := by kernel_rfl
@[go_sem] theorem tyStr94 : tStr Tryd.prog 94 = false := by kernel_rfl
@[go_sem] theorem tySize95 : tSize Tryd.prog 95 = some 1 := by kernel_rfl
@[go_sem] theorem tyRow95 : tRow Tryd.prog 95 = some false := by kernel_rfl
@[go_sem] theorem tyZero95 : tZero Tryd.prog 95 = some [(.int .u8 0)] := by kernel_rfl
@[go_sem] theorem tyInt95 : tInt Tryd.prog 95 = some .u8 := by kernel_rfl
@[go_sem] theorem tyStr95 : tStr Tryd.prog 95 = false := by kernel_rfl
@[go_sem] theorem tySize97 : tSize Tryd.prog 97 = some 1 := by kernel_rfl
@[go_sem] theorem tyRow97 : tRow Tryd.prog 97 = some false := by kernel_rfl
@[go_sem] theorem tyZero97 : tZero Tryd.prog 97 = some [(.pointer none)] := by kernel_rfl
@[go_sem] theorem tyStr97 : tStr Tryd.prog 97 = false := by kernel_rfl
@[go_sem] theorem tySize98 : tSize Tryd.prog 98 = some 1 := by kernel_rfl
@[go_sem] theorem tyRow98 : tRow Tryd.prog 98 = some false := by kernel_rfl
@[go_sem] theorem tyZero98 : tZero Tryd.prog 98 = some [(.int .i32 0)] := by kernel_rfl
@[go_sem] theorem tyInt98 : tInt Tryd.prog 98 = some .i32 := by kernel_rfl
@[go_sem] theorem tyStr98 : tStr Tryd.prog 98 = false := by kernel_rfl
@[go_sem] theorem tySize99 : tSize Tryd.prog 99 = some 1 := by kernel_rfl
@[go_sem] theorem tyRow99 : tRow Tryd.prog 99 = some false := by kernel_rfl
@[go_sem] theorem tyZero99 : tZero Tryd.prog 99 = some [(.int .i32 0)] := by kernel_rfl
@[go_sem] theorem tyInt99 : tInt Tryd.prog 99 = some .i32 := by kernel_rfl
@[go_sem] theorem tyStr99 : tStr Tryd.prog 99 = false := by kernel_rfl
@[go_sem] theorem tySize100 : tSize Tryd.prog 100 = some 11 := by kernel_rfl
@[go_sem] theorem tyRow100 : tRow Tryd.prog 100 = some true := by kernel_rfl
@[go_sem] theorem tyZero100 : tZero Tryd.prog 100 = some [(.int .u64 0), (.int .u64 0), (.int .u32 0), (.int .u8 0), (.int .u8 0), (.int .u8 0), (.int .u8 0), .nilFunc, (.pointer none), (.int .i32 0), (.int .i32 0)] := by kernel_rfl
@[go_sem] theorem tyField100_0 : tField Tryd.prog 100 0 = some (0, 12) := by kernel_rfl
@[go_sem] theorem tyField100_1 : tField Tryd.prog 100 1 = some (1, 12) := by kernel_rfl
@[go_sem] theorem tyField100_2 : tField Tryd.prog 100 2 = some (2, 93) := by kernel_rfl
@[go_sem] theorem tyField100_3 : tField Tryd.prog 100 3 = some (3, 94) := by kernel_rfl
@[go_sem] theorem tyField100_4 : tField Tryd.prog 100 4 = some (4, 5) := by kernel_rfl
@[go_sem] theorem tyField100_5 : tField Tryd.prog 100 5 = some (5, 5) := by kernel_rfl
@[go_sem] theorem tyField100_6 : tField Tryd.prog 100 6 = some (6, 95) := by kernel_rfl
@[go_sem] theorem tyField100_7 : tField Tryd.prog 100 7 = some (7, 96) := by kernel_rfl
@[go_sem] theorem tyField100_8 : tField Tryd.prog 100 8 = some (8, 97) := by kernel_rfl
@[go_sem] theorem tyField100_9 : tField Tryd.prog 100 9 = some (9, 98) := by kernel_rfl
@[go_sem] theorem tyField100_10 : tField Tryd.prog 100 10 = some (10, 99) := by kernel_rfl
@[go_sem] theorem tyFields100 : tFields Tryd.prog 100 = some [(0, 1), (1, 1), (2, 1), (3, 1), (4, 1), (5, 1), (6, 1), (7, 1), (8, 1), (9, 1), (10, 1)] := by kernel_rfl
@[go_sem] theorem tyStr100 : tStr Tryd.prog 100 = false := by kernel_rfl
@[go_sem] theorem tySize101 : tSize Tryd.prog 101 = some 11 := by kernel_rfl
@[go_sem] theorem tyRow101 : tRow Tryd.prog 101 = some true := by kernel_rfl
@[go_sem] theorem tyZero101 : tZero Tryd.prog 101 = some [(.int .u64 0), (.int .u64 0), (.int .u32 0), (.int .u8 0), (.int .u8 0), (.int .u8 0), (.int .u8 0), .nilFunc, (.pointer none), (.int .i32 0), (.int .i32 0)] := by kernel_rfl
@[go_sem] theorem tyField101_0 : tField Tryd.prog 101 0 = some (0, 12) := by kernel_rfl
@[go_sem] theorem tyField101_1 : tField Tryd.prog 101 1 = some (1, 12) := by kernel_rfl
@[go_sem] theorem tyField101_2 : tField Tryd.prog 101 2 = some (2, 93) := by kernel_rfl
@[go_sem] theorem tyField101_3 : tField Tryd.prog 101 3 = some (3, 94) := by kernel_rfl
@[go_sem] theorem tyField101_4 : tField Tryd.prog 101 4 = some (4, 5) := by kernel_rfl
@[go_sem] theorem tyField101_5 : tField Tryd.prog 101 5 = some (5, 5) := by kernel_rfl
@[go_sem] theorem tyField101_6 : tField Tryd.prog 101 6 = some (6, 95) := by kernel_rfl
@[go_sem] theorem tyField101_7 : tField Tryd.prog 101 7 = some (7, 96) := by kernel_rfl
@[go_sem] theorem tyField101_8 : tField Tryd.prog 101 8 = some (8, 97) := by kernel_rfl
@[go_sem] theorem tyField101_9 : tField Tryd.prog 101 9 = some (9, 98) := by kernel_rfl
@[go_sem] theorem tyField101_10 : tField Tryd.prog 101 10 = some (10, 99) := by kernel_rfl
@[go_sem] theorem tyFields101 : tFields Tryd.prog 101 = some [(0, 1), (1, 1), (2, 1), (3, 1), (4, 1), (5, 1), (6, 1), (7, 1), (8, 1), (9, 1), (10, 1)] := by kernel_rfl
@[go_sem] theorem tyStr101 : tStr Tryd.prog 101 = false := by kernel_rfl
@[go_sem] theorem tySize102 : tSize Tryd.prog 102 = some 1 := by kernel_rfl
@[go_sem] theorem tyRow102 : tRow Tryd.prog 102 = some false := by kernel_rfl
@[go_sem] theorem tyZero102 : tZero Tryd.prog 102 = some [(.pointer none)] := by kernel_rfl
@[go_sem] theorem tyStr102 : tStr Tryd.prog 102 = false := by kernel_rfl
theorem tyApp2 : tApp Tryd.prog 2 = some (1, 8) := by kernel_rfl
theorem tyApp3 : tApp Tryd.prog 3 = some (1, 8) := by kernel_rfl
theorem tyApp4 : tApp Tryd.prog 4 = some (1, 1) := by kernel_rfl
theorem tyApp5 : tApp Tryd.prog 5 = some (1, 1) := by kernel_rfl
theorem tyApp6 : tApp Tryd.prog 6 = some (1, 1) := by kernel_rfl
theorem tyApp7 : tApp Tryd.prog 7 = some (4, 24) := by kernel_rfl
theorem tyApp8 : tApp Tryd.prog 8 = some (4, 24) := by kernel_rfl
theorem tyApp9 : tApp Tryd.prog 9 = some (1, 16) := by kernel_rfl
theorem tyApp10 : tApp Tryd.prog 10 = some (1, 16) := by kernel_rfl
theorem tyApp11 : tApp Tryd.prog 11 = some (1, 16) := by kernel_rfl
theorem tyApp12 : tApp Tryd.prog 12 = some (1, 8) := by kernel_rfl
theorem tyApp13 : tApp Tryd.prog 13 = some (2, 24) := by kernel_rfl
theorem tyApp14 : tApp Tryd.prog 14 = some (2, 24) := by kernel_rfl
theorem tyApp15 : tApp Tryd.prog 15 = some (1, 8) := by kernel_rfl
theorem tyApp16 : tApp Tryd.prog 16 = some (1, 8) := by kernel_rfl
theorem tyApp17 : tApp Tryd.prog 17 = some (1, 8) := by kernel_rfl
theorem tyApp18 : tApp Tryd.prog 18 = some (1, 8) := by kernel_rfl
theorem tyApp19 : tApp Tryd.prog 19 = some (1, 8) := by kernel_rfl
theorem tyApp21 : tApp Tryd.prog 21 = some (1, 4) := by kernel_rfl
theorem tyApp23 : tApp Tryd.prog 23 = some (3, 32) := by kernel_rfl
theorem tyApp24 : tApp Tryd.prog 24 = some (3, 32) := by kernel_rfl
theorem tyApp25 : tApp Tryd.prog 25 = some (1, 24) := by kernel_rfl
theorem tyApp26 : tApp Tryd.prog 26 = some (12, 120) := by kernel_rfl
theorem tyApp27 : tApp Tryd.prog 27 = some (12, 120) := by kernel_rfl
theorem tyApp28 : tApp Tryd.prog 28 = some (3, 24) := by kernel_rfl
theorem tyApp29 : tApp Tryd.prog 29 = some (3, 24) := by kernel_rfl
theorem tyApp30 : tApp Tryd.prog 30 = some (3, 40) := by kernel_rfl
theorem tyApp31 : tApp Tryd.prog 31 = some (3, 40) := by kernel_rfl
theorem tyApp32 : tApp Tryd.prog 32 = some (29, 312) := by kernel_rfl
theorem tyApp33 : tApp Tryd.prog 33 = some (29, 312) := by kernel_rfl
theorem tyApp34 : tApp Tryd.prog 34 = some (1, 24) := by kernel_rfl
theorem tyApp35 : tApp Tryd.prog 35 = some (1, 8) := by kernel_rfl
theorem tyApp36 : tApp Tryd.prog 36 = some (1, 24) := by kernel_rfl
theorem tyApp37 : tApp Tryd.prog 37 = some (1, 24) := by kernel_rfl
theorem tyApp45 : tApp Tryd.prog 45 = some (1, 8) := by kernel_rfl
theorem tyApp46 : tApp Tryd.prog 46 = some (1, 24) := by kernel_rfl
theorem tyApp47 : tApp Tryd.prog 47 = some (1, 24) := by kernel_rfl
theorem tyApp53 : tApp Tryd.prog 53 = some (1, 8) := by kernel_rfl
theorem tyApp55 : tApp Tryd.prog 55 = some (2, 32) := by kernel_rfl
theorem tyApp56 : tApp Tryd.prog 56 = some (2, 32) := by kernel_rfl
theorem tyApp60 : tApp Tryd.prog 60 = some (11, 11) := by kernel_rfl
theorem tyApp61 : tApp Tryd.prog 61 = some (11, 11) := by kernel_rfl
theorem tyApp62 : tApp Tryd.prog 62 = some (165, 165) := by kernel_rfl
theorem tyApp71 : tApp Tryd.prog 71 = some (1, 24) := by kernel_rfl
theorem tyApp76 : tApp Tryd.prog 76 = some (1, 8) := by kernel_rfl
theorem tyApp87 : tApp Tryd.prog 87 = some (4, 40) := by kernel_rfl
theorem tyApp88 : tApp Tryd.prog 88 = some (4, 40) := by kernel_rfl
theorem tyApp93 : tApp Tryd.prog 93 = some (1, 4) := by kernel_rfl
theorem tyApp94 : tApp Tryd.prog 94 = some (1, 1) := by kernel_rfl
theorem tyApp95 : tApp Tryd.prog 95 = some (1, 1) := by kernel_rfl
theorem tyApp97 : tApp Tryd.prog 97 = some (1, 8) := by kernel_rfl
theorem tyApp98 : tApp Tryd.prog 98 = some (1, 4) := by kernel_rfl
theorem tyApp99 : tApp Tryd.prog 99 = some (1, 4) := by kernel_rfl
theorem tyApp100 : tApp Tryd.prog 100 = some (11, 48) := by kernel_rfl
theorem tyApp101 : tApp Tryd.prog 101 = some (11, 48) := by kernel_rfl
theorem tyApp102 : tApp Tryd.prog 102 = some (1, 8) := by kernel_rfl
end Go.Proofs.YtohdfcnjcpjdcaaDoor
