/- What the walk asks of the program's types. Conditions: none. -/
import Derived.Test.YtohdfcnjcpjdcaaGreatDoorProg
import Derived.Test.YtohdfcnjcpjdcaaGreatDoorA3q
namespace Go.Proofs.YtohdfcnjcpjdcaaGreatDoor
theorem follows_mixed : Tryz.prog.follows .mixedOrders = true := by kernel_rfl
@[go_sem] theorem tySize3 : tSize Tryz.prog 3 = some 1 := by kernel_rfl
@[go_sem] theorem tyRow3 : tRow Tryz.prog 3 = some false := by kernel_rfl
@[go_sem] theorem tyZero3 : tZero Tryz.prog 3 = some [(.int .i64 0)] := by kernel_rfl
@[go_sem] theorem tyInt3 : tInt Tryz.prog 3 = some .i64 := by kernel_rfl
@[go_sem] theorem tyStr3 : tStr Tryz.prog 3 = false := by kernel_rfl
@[go_sem] theorem tySize4 : tSize Tryz.prog 4 = some 1 := by kernel_rfl
@[go_sem] theorem tyRow4 : tRow Tryz.prog 4 = some false := by kernel_rfl
@[go_sem] theorem tyZero4 : tZero Tryz.prog 4 = some [(.bool false)] := by kernel_rfl
@[go_sem] theorem tyStr4 : tStr Tryz.prog 4 = false := by kernel_rfl
@[go_sem] theorem tySize5 : tSize Tryz.prog 5 = some 1 := by kernel_rfl
@[go_sem] theorem tyRow5 : tRow Tryz.prog 5 = some false := by kernel_rfl
@[go_sem] theorem tyZero5 : tZero Tryz.prog 5 = some [(.int .u8 0)] := by kernel_rfl
@[go_sem] theorem tyInt5 : tInt Tryz.prog 5 = some .u8 := by kernel_rfl
@[go_sem] theorem tyStr5 : tStr Tryz.prog 5 = false := by kernel_rfl
@[go_sem] theorem tyField7_0 : tField Tryz.prog 7 0 = some (0, 2) := by kernel_rfl
@[go_sem] theorem tyField7_1 : tField Tryz.prog 7 1 = some (1, 3) := by kernel_rfl
@[go_sem] theorem tyField7_2 : tField Tryz.prog 7 2 = some (2, 4) := by kernel_rfl
@[go_sem] theorem tyField7_3 : tField Tryz.prog 7 3 = some (3, 6) := by kernel_rfl
@[go_sem] theorem tyField8_0 : tField Tryz.prog 8 0 = some (0, 2) := by kernel_rfl
@[go_sem] theorem tyField8_1 : tField Tryz.prog 8 1 = some (1, 3) := by kernel_rfl
@[go_sem] theorem tyField8_2 : tField Tryz.prog 8 2 = some (2, 4) := by kernel_rfl
@[go_sem] theorem tyField8_3 : tField Tryz.prog 8 3 = some (3, 6) := by kernel_rfl
@[go_sem] theorem tySize9 : tSize Tryz.prog 9 = some 1 := by kernel_rfl
@[go_sem] theorem tyRow9 : tRow Tryz.prog 9 = some false := by kernel_rfl
@[go_sem] theorem tyZero9 : tZero Tryz.prog 9 = some [(.string ⟨#[]⟩)] := by kernel_rfl
@[go_sem] theorem tyStr9 : tStr Tryz.prog 9 = true := by kernel_rfl
@[go_sem] theorem tyField13_0 : tField Tryz.prog 13 0 = some (0, 9) := by kernel_rfl
@[go_sem] theorem tyField13_1 : tField Tryz.prog 13 1 = some (1, 12) := by kernel_rfl
@[go_sem] theorem tyField14_0 : tField Tryz.prog 14 0 = some (0, 9) := by kernel_rfl
@[go_sem] theorem tyField14_1 : tField Tryz.prog 14 1 = some (1, 12) := by kernel_rfl
@[go_sem] theorem tyField18_0 : tField Tryz.prog 18 0 = some (0, 17) := by kernel_rfl
@[go_sem] theorem tyField19_0 : tField Tryz.prog 19 0 = some (0, 17) := by kernel_rfl
@[go_sem] theorem tySize22 : tSize Tryz.prog 22 = some 1 := by kernel_rfl
@[go_sem] theorem tyRow22 : tRow Tryz.prog 22 = some false := by kernel_rfl
@[go_sem] theorem tyZero22 : tZero Tryz.prog 22 = some [(.slice none 0 0)] := by kernel_rfl
@[go_sem] theorem tySlice22 : tSlice Tryz.prog 22 = some 58 := by kernel_rfl
@[go_sem] theorem tyStr22 : tStr Tryz.prog 22 = false := by kernel_rfl
@[go_sem] theorem tySize23 : tSize Tryz.prog 23 = some 1 := by kernel_rfl
@[go_sem] theorem tyRow23 : tRow Tryz.prog 23 = some false := by kernel_rfl
@[go_sem] theorem tyZero23 : tZero Tryz.prog 23 = some [(.slice none 0 0)] := by kernel_rfl
@[go_sem] theorem tySlice23 : tSlice Tryz.prog 23 = some 83 := by kernel_rfl
@[go_sem] theorem tyStr23 : tStr Tryz.prog 23 = false := by kernel_rfl
@[go_sem] theorem tySize24 : tSize Tryz.prog 24 = some 1 := by kernel_rfl
@[go_sem] theorem tyRow24 : tRow Tryz.prog 24 = some false := by kernel_rfl
@[go_sem] theorem tyZero24 : tZero Tryz.prog 24 = some [(.slice none 0 0)] := by kernel_rfl
@[go_sem] theorem tySlice24 : tSlice Tryz.prog 24 = some 44 := by kernel_rfl
@[go_sem] theorem tyStr24 : tStr Tryz.prog 24 = false := by kernel_rfl
@[go_sem] theorem tySize25 : tSize Tryz.prog 25 = some 1 := by kernel_rfl
@[go_sem] theorem tyRow25 : tRow Tryz.prog 25 = some false := by kernel_rfl
@[go_sem] theorem tyZero25 : tZero Tryz.prog 25 = some [(.slice none 0 0)] := by kernel_rfl
@[go_sem] theorem tySlice25 : tSlice Tryz.prog 25 = some 86 := by kernel_rfl
@[go_sem] theorem tyStr25 : tStr Tryz.prog 25 = false := by kernel_rfl
@[go_sem] theorem tySize26 : tSize Tryz.prog 26 = some 1 := by kernel_rfl
@[go_sem] theorem tyRow26 : tRow Tryz.prog 26 = some false := by kernel_rfl
@[go_sem] theorem tyZero26 : tZero Tryz.prog 26 = some [(.slice none 0 0)] := by kernel_rfl
@[go_sem] theorem tySlice26 : tSlice Tryz.prog 26 = some 46 := by kernel_rfl
@[go_sem] theorem tyStr26 : tStr Tryz.prog 26 = false := by kernel_rfl
@[go_sem] theorem tySize27 : tSize Tryz.prog 27 = some 1 := by kernel_rfl
@[go_sem] theorem tyRow27 : tRow Tryz.prog 27 = some false := by kernel_rfl
@[go_sem] theorem tyZero27 : tZero Tryz.prog 27 = some [(.slice none 0 0)] := by kernel_rfl
@[go_sem] theorem tySlice27 : tSlice Tryz.prog 27 = some 3 := by kernel_rfl
@[go_sem] theorem tyStr27 : tStr Tryz.prog 27 = false := by kernel_rfl
@[go_sem] theorem tyField28_0 : tField Tryz.prog 28 0 = some (0, 3) := by kernel_rfl
@[go_sem] theorem tyField28_1 : tField Tryz.prog 28 1 = some (1, 3) := by kernel_rfl
@[go_sem] theorem tyField28_2 : tField Tryz.prog 28 2 = some (2, 23) := by kernel_rfl
@[go_sem] theorem tyField28_3 : tField Tryz.prog 28 3 = some (3, 24) := by kernel_rfl
@[go_sem] theorem tyField28_4 : tField Tryz.prog 28 4 = some (4, 25) := by kernel_rfl
@[go_sem] theorem tyField28_5 : tField Tryz.prog 28 5 = some (5, 26) := by kernel_rfl
@[go_sem] theorem tyField28_6 : tField Tryz.prog 28 6 = some (6, 27) := by kernel_rfl
@[go_sem] theorem tySize29 : tSize Tryz.prog 29 = some 7 := by kernel_rfl
@[go_sem] theorem tyRow29 : tRow Tryz.prog 29 = some true := by kernel_rfl
@[go_sem] theorem tyZero29 : tZero Tryz.prog 29 = some [(.int .i64 0), (.int .i64 0), (.slice none 0 0), (.slice none 0 0), (.slice none 0 0), (.slice none 0 0), (.slice none 0 0)] := by kernel_rfl
@[go_sem] theorem tyField29_0 : tField Tryz.prog 29 0 = some (0, 3) := by kernel_rfl
@[go_sem] theorem tyField29_1 : tField Tryz.prog 29 1 = some (1, 3) := by kernel_rfl
@[go_sem] theorem tyField29_2 : tField Tryz.prog 29 2 = some (2, 23) := by kernel_rfl
@[go_sem] theorem tyField29_3 : tField Tryz.prog 29 3 = some (3, 24) := by kernel_rfl
@[go_sem] theorem tyField29_4 : tField Tryz.prog 29 4 = some (4, 25) := by kernel_rfl
@[go_sem] theorem tyField29_5 : tField Tryz.prog 29 5 = some (5, 26) := by kernel_rfl
@[go_sem] theorem tyField29_6 : tField Tryz.prog 29 6 = some (6, 27) := by kernel_rfl
@[go_sem] theorem tyFields29 : tFields Tryz.prog 29 = some [(0, 1), (1, 1), (2, 1), (3, 1), (4, 1), (5, 1), (6, 1)] := by kernel_rfl
@[go_sem] theorem tyStr29 : tStr Tryz.prog 29 = false := by kernel_rfl
@[go_sem] theorem tySize30 : tSize Tryz.prog 30 = some 1 := by kernel_rfl
@[go_sem] theorem tyRow30 : tRow Tryz.prog 30 = some false := by kernel_rfl
@[go_sem] theorem tyZero30 : tZero Tryz.prog 30 = some [(.slice none 0 0)] := by kernel_rfl
@[go_sem] theorem tySlice30 : tSlice Tryz.prog 30 = some 50 := by kernel_rfl
@[go_sem] theorem tyStr30 : tStr Tryz.prog 30 = false := by kernel_rfl
@[go_sem] theorem tySize33 : tSize Tryz.prog 33 = some 1 := by kernel_rfl
@[go_sem] theorem tyRow33 : tRow Tryz.prog 33 = some false := by kernel_rfl
@[go_sem] theorem tyZero33 : tZero Tryz.prog 33 = some [(.slice none 0 0)] := by kernel_rfl
@[go_sem] theorem tySlice33 : tSlice Tryz.prog 33 = some 5 := by kernel_rfl
@[go_sem] theorem tyStr33 : tStr Tryz.prog 33 = false := by kernel_rfl
@[go_sem] theorem tySize34 : tSize Tryz.prog 34 = some 1 := by kernel_rfl
@[go_sem] theorem tyRow34 : tRow Tryz.prog 34 = some false := by kernel_rfl
@[go_sem] theorem tyZero34 : tZero Tryz.prog 34 = some [(.int .i64 0)] := by kernel_rfl
@[go_sem] theorem tyInt34 : tInt Tryz.prog 34 = some .i64 := by kernel_rfl
@[go_sem] theorem tyStr34 : tStr Tryz.prog 34 = false := by kernel_rfl
@[go_sem] theorem tyField41_0 : tField Tryz.prog 41 0 = some (0, 9) := by kernel_rfl
@[go_sem] theorem tyField41_1 : tField Tryz.prog 41 1 = some (1, 3) := by kernel_rfl
@[go_sem] theorem tyField41_2 : tField Tryz.prog 41 2 = some (2, 3) := by kernel_rfl
@[go_sem] theorem tySize42 : tSize Tryz.prog 42 = some 3 := by kernel_rfl
@[go_sem] theorem tyRow42 : tRow Tryz.prog 42 = some true := by kernel_rfl
@[go_sem] theorem tyZero42 : tZero Tryz.prog 42 = some [(.string ⟨#[]⟩), (.int .i64 0), (.int .i64 0)] := by kernel_rfl
@[go_sem] theorem tyField42_0 : tField Tryz.prog 42 0 = some (0, 9) := by kernel_rfl
@[go_sem] theorem tyField42_1 : tField Tryz.prog 42 1 = some (1, 3) := by kernel_rfl
@[go_sem] theorem tyField42_2 : tField Tryz.prog 42 2 = some (2, 3) := by kernel_rfl
@[go_sem] theorem tyFields42 : tFields Tryz.prog 42 = some [(0, 1), (1, 1), (2, 1)] := by kernel_rfl
@[go_sem] theorem tyStr42 : tStr Tryz.prog 42 = false := by kernel_rfl
@[go_sem] theorem tyField43_0 : tField Tryz.prog 43 0 = some (0, 3) := by kernel_rfl
@[go_sem] theorem tyField43_1 : tField Tryz.prog 43 1 = some (1, 9) := by kernel_rfl
@[go_sem] theorem tyField43_2 : tField Tryz.prog 43 2 = some (2, 9) := by kernel_rfl
@[go_sem] theorem tyField43_3 : tField Tryz.prog 43 3 = some (3, 4) := by kernel_rfl
@[go_sem] theorem tyField43_4 : tField Tryz.prog 43 4 = some (4, 4) := by kernel_rfl
@[go_sem] theorem tyField43_5 : tField Tryz.prog 43 5 = some (5, 3) := by kernel_rfl
@[go_sem] theorem tyField43_6 : tField Tryz.prog 43 6 = some (6, 3) := by kernel_rfl
@[go_sem] theorem tyField43_7 : tField Tryz.prog 43 7 = some (7, 3) := by kernel_rfl
@[go_sem] theorem tyField43_8 : tField Tryz.prog 43 8 = some (8, 27) := by kernel_rfl
@[go_sem] theorem tyField43_9 : tField Tryz.prog 43 9 = some (9, 3) := by kernel_rfl
@[go_sem] theorem tyField43_10 : tField Tryz.prog 43 10 = some (10, 3) := by kernel_rfl
@[go_sem] theorem tyField43_11 : tField Tryz.prog 43 11 = some (11, 3) := by kernel_rfl
@[go_sem] theorem tySize44 : tSize Tryz.prog 44 = some 12 := by kernel_rfl
@[go_sem] theorem tyRow44 : tRow Tryz.prog 44 = some true := by kernel_rfl
@[go_sem] theorem tyZero44 : tZero Tryz.prog 44 = some [(.int .i64 0), (.string ⟨#[]⟩), (.string ⟨#[]⟩), (.bool false), (.bool false), (.int .i64 0), (.int .i64 0), (.int .i64 0), (.slice none 0 0), (.int .i64 0), (.int .i64 0), (.int .i64 0)] := by kernel_rfl
@[go_sem] theorem tyField44_0 : tField Tryz.prog 44 0 = some (0, 3) := by kernel_rfl
@[go_sem] theorem tyField44_1 : tField Tryz.prog 44 1 = some (1, 9) := by kernel_rfl
@[go_sem] theorem tyField44_2 : tField Tryz.prog 44 2 = some (2, 9) := by kernel_rfl
@[go_sem] theorem tyField44_3 : tField Tryz.prog 44 3 = some (3, 4) := by kernel_rfl
@[go_sem] theorem tyField44_4 : tField Tryz.prog 44 4 = some (4, 4) := by kernel_rfl
@[go_sem] theorem tyField44_5 : tField Tryz.prog 44 5 = some (5, 3) := by kernel_rfl
@[go_sem] theorem tyField44_6 : tField Tryz.prog 44 6 = some (6, 3) := by kernel_rfl
@[go_sem] theorem tyField44_7 : tField Tryz.prog 44 7 = some (7, 3) := by kernel_rfl
@[go_sem] theorem tyField44_8 : tField Tryz.prog 44 8 = some (8, 27) := by kernel_rfl
@[go_sem] theorem tyField44_9 : tField Tryz.prog 44 9 = some (9, 3) := by kernel_rfl
@[go_sem] theorem tyField44_10 : tField Tryz.prog 44 10 = some (10, 3) := by kernel_rfl
@[go_sem] theorem tyField44_11 : tField Tryz.prog 44 11 = some (11, 3) := by kernel_rfl
@[go_sem] theorem tyFields44 : tFields Tryz.prog 44 = some [(0, 1), (1, 1), (2, 1), (3, 1), (4, 1), (5, 1), (6, 1), (7, 1), (8, 1), (9, 1), (10, 1), (11, 1)] := by kernel_rfl
@[go_sem] theorem tyStr44 : tStr Tryz.prog 44 = false := by kernel_rfl
@[go_sem] theorem tyField45_0 : tField Tryz.prog 45 0 = some (0, 3) := by kernel_rfl
@[go_sem] theorem tyField45_1 : tField Tryz.prog 45 1 = some (1, 3) := by kernel_rfl
@[go_sem] theorem tyField45_2 : tField Tryz.prog 45 2 = some (2, 3) := by kernel_rfl
@[go_sem] theorem tySize46 : tSize Tryz.prog 46 = some 3 := by kernel_rfl
@[go_sem] theorem tyRow46 : tRow Tryz.prog 46 = some true := by kernel_rfl
@[go_sem] theorem tyZero46 : tZero Tryz.prog 46 = some [(.int .i64 0), (.int .i64 0), (.int .i64 0)] := by kernel_rfl
@[go_sem] theorem tyField46_0 : tField Tryz.prog 46 0 = some (0, 3) := by kernel_rfl
@[go_sem] theorem tyField46_1 : tField Tryz.prog 46 1 = some (1, 3) := by kernel_rfl
@[go_sem] theorem tyField46_2 : tField Tryz.prog 46 2 = some (2, 3) := by kernel_rfl
@[go_sem] theorem tyFields46 : tFields Tryz.prog 46 = some [(0, 1), (1, 1), (2, 1)] := by kernel_rfl
@[go_sem] theorem tyStr46 : tStr Tryz.prog 46 = false := by kernel_rfl
@[go_sem] theorem tyField47_0 : tField Tryz.prog 47 0 = some (0, 3) := by kernel_rfl
@[go_sem] theorem tyField47_1 : tField Tryz.prog 47 1 = some (1, 3) := by kernel_rfl
@[go_sem] theorem tyField47_2 : tField Tryz.prog 47 2 = some (2, 27) := by kernel_rfl
@[go_sem] theorem tySize48 : tSize Tryz.prog 48 = some 3 := by kernel_rfl
@[go_sem] theorem tyRow48 : tRow Tryz.prog 48 = some true := by kernel_rfl
@[go_sem] theorem tyZero48 : tZero Tryz.prog 48 = some [(.int .i64 0), (.int .i64 0), (.slice none 0 0)] := by kernel_rfl
@[go_sem] theorem tyField48_0 : tField Tryz.prog 48 0 = some (0, 3) := by kernel_rfl
@[go_sem] theorem tyField48_1 : tField Tryz.prog 48 1 = some (1, 3) := by kernel_rfl
@[go_sem] theorem tyField48_2 : tField Tryz.prog 48 2 = some (2, 27) := by kernel_rfl
@[go_sem] theorem tyFields48 : tFields Tryz.prog 48 = some [(0, 1), (1, 1), (2, 1)] := by kernel_rfl
@[go_sem] theorem tyStr48 : tStr Tryz.prog 48 = false := by kernel_rfl
@[go_sem] theorem tyField49_0 : tField Tryz.prog 49 0 = some (0, 3) := by kernel_rfl
@[go_sem] theorem tyField49_1 : tField Tryz.prog 49 1 = some (1, 3) := by kernel_rfl
@[go_sem] theorem tyField49_2 : tField Tryz.prog 49 2 = some (2, 3) := by kernel_rfl
@[go_sem] theorem tyField49_3 : tField Tryz.prog 49 3 = some (3, 9) := by kernel_rfl
@[go_sem] theorem tyField49_4 : tField Tryz.prog 49 4 = some (4, 9) := by kernel_rfl
@[go_sem] theorem tyField49_5 : tField Tryz.prog 49 5 = some (5, 42) := by kernel_rfl
@[go_sem] theorem tyField49_6 : tField Tryz.prog 49 6 = some (8, 44) := by kernel_rfl
@[go_sem] theorem tyField49_7 : tField Tryz.prog 49 7 = some (20, 46) := by kernel_rfl
@[go_sem] theorem tyField49_8 : tField Tryz.prog 49 8 = some (23, 48) := by kernel_rfl
@[go_sem] theorem tyField49_9 : tField Tryz.prog 49 9 = some (26, 27) := by kernel_rfl
@[go_sem] theorem tyField49_10 : tField Tryz.prog 49 10 = some (27, 3) := by kernel_rfl
@[go_sem] theorem tyField49_11 : tField Tryz.prog 49 11 = some (28, 3) := by kernel_rfl
@[go_sem] theorem tySize50 : tSize Tryz.prog 50 = some 29 := by kernel_rfl
@[go_sem] theorem tyRow50 : tRow Tryz.prog 50 = some true := by kernel_rfl
@[go_sem] theorem tyZero50 : tZero Tryz.prog 50 = some [(.int .i64 0), (.int .i64 0), (.int .i64 0), (.string ⟨#[]⟩), (.string ⟨#[]⟩), (.string ⟨#[]⟩), (.int .i64 0), (.int .i64 0), (.int .i64 0), (.string ⟨#[]⟩), (.string ⟨#[]⟩), (.bool false), (.bool false), (.int .i64 0), (.int .i64 0), (.int .i64 0), (.slice none 0 0), (.int .i64 0), (.int .i64 0), (.int .i64 0), (.int .i64 0), (.int .i64 0), (.int .i64 0), (.int .i64 0), (.int .i64 0), (.slice none 0 0), (.slice none 0 0), (.int .i64 0), (.int .i64 0)] := by kernel_rfl
@[go_sem] theorem tyField50_0 : tField Tryz.prog 50 0 = some (0, 3) := by kernel_rfl
@[go_sem] theorem tyField50_1 : tField Tryz.prog 50 1 = some (1, 3) := by kernel_rfl
@[go_sem] theorem tyField50_2 : tField Tryz.prog 50 2 = some (2, 3) := by kernel_rfl
@[go_sem] theorem tyField50_3 : tField Tryz.prog 50 3 = some (3, 9) := by kernel_rfl
@[go_sem] theorem tyField50_4 : tField Tryz.prog 50 4 = some (4, 9) := by kernel_rfl
@[go_sem] theorem tyField50_5 : tField Tryz.prog 50 5 = some (5, 42) := by kernel_rfl
@[go_sem] theorem tyField50_6 : tField Tryz.prog 50 6 = some (8, 44) := by kernel_rfl
@[go_sem] theorem tyField50_7 : tField Tryz.prog 50 7 = some (20, 46) := by kernel_rfl
@[go_sem] theorem tyField50_8 : tField Tryz.prog 50 8 = some (23, 48) := by kernel_rfl
@[go_sem] theorem tyField50_9 : tField Tryz.prog 50 9 = some (26, 27) := by kernel_rfl
@[go_sem] theorem tyField50_10 : tField Tryz.prog 50 10 = some (27, 3) := by kernel_rfl
@[go_sem] theorem tyField50_11 : tField Tryz.prog 50 11 = some (28, 3) := by kernel_rfl
@[go_sem] theorem tyFields50 : tFields Tryz.prog 50 = some [(0, 1), (1, 1), (2, 1), (3, 1), (4, 1), (5, 3), (8, 12), (20, 3), (23, 3), (26, 1), (27, 1), (28, 1)] := by kernel_rfl
@[go_sem] theorem tyStr50 : tStr Tryz.prog 50 = false := by kernel_rfl
@[go_sem] theorem tyField57_0 : tField Tryz.prog 57 0 = some (0, 3) := by kernel_rfl
@[go_sem] theorem tyField57_1 : tField Tryz.prog 57 1 = some (1, 3) := by kernel_rfl
@[go_sem] theorem tyField57_2 : tField Tryz.prog 57 2 = some (2, 3) := by kernel_rfl
@[go_sem] theorem tyField57_3 : tField Tryz.prog 57 3 = some (3, 3) := by kernel_rfl
@[go_sem] theorem tyField57_4 : tField Tryz.prog 57 4 = some (4, 3) := by kernel_rfl
@[go_sem] theorem tyField57_5 : tField Tryz.prog 57 5 = some (5, 9) := by kernel_rfl
@[go_sem] theorem tySize58 : tSize Tryz.prog 58 = some 6 := by kernel_rfl
@[go_sem] theorem tyRow58 : tRow Tryz.prog 58 = some true := by kernel_rfl
@[go_sem] theorem tyZero58 : tZero Tryz.prog 58 = some [(.int .i64 0), (.int .i64 0), (.int .i64 0), (.int .i64 0), (.int .i64 0), (.string ⟨#[]⟩)] := by kernel_rfl
@[go_sem] theorem tyField58_0 : tField Tryz.prog 58 0 = some (0, 3) := by kernel_rfl
@[go_sem] theorem tyField58_1 : tField Tryz.prog 58 1 = some (1, 3) := by kernel_rfl
@[go_sem] theorem tyField58_2 : tField Tryz.prog 58 2 = some (2, 3) := by kernel_rfl
@[go_sem] theorem tyField58_3 : tField Tryz.prog 58 3 = some (3, 3) := by kernel_rfl
@[go_sem] theorem tyField58_4 : tField Tryz.prog 58 4 = some (4, 3) := by kernel_rfl
@[go_sem] theorem tyField58_5 : tField Tryz.prog 58 5 = some (5, 9) := by kernel_rfl
@[go_sem] theorem tyFields58 : tFields Tryz.prog 58 = some [(0, 1), (1, 1), (2, 1), (3, 1), (4, 1), (5, 1)] := by kernel_rfl
@[go_sem] theorem tyStr58 : tStr Tryz.prog 58 = false := by kernel_rfl
@[go_sem] theorem tySize60 : tSize Tryz.prog 60 = some 1 := by kernel_rfl
@[go_sem] theorem tyRow60 : tRow Tryz.prog 60 = some false := by kernel_rfl
@[go_sem] theorem tyZero60 : tZero Tryz.prog 60 = some [(.pointer none)] := by kernel_rfl
@[go_sem] theorem tyStr60 : tStr Tryz.prog 60 = false := by kernel_rfl
@[go_sem] theorem tyField61_0 : tField Tryz.prog 61 0 = some (0, 33) := by kernel_rfl
@[go_sem] theorem tySize62 : tSize Tryz.prog 62 = some 1 := by kernel_rfl
@[go_sem] theorem tyRow62 : tRow Tryz.prog 62 = some true := by kernel_rfl
@[go_sem] theorem tyZero62 : tZero Tryz.prog 62 = some [(.slice none 0 0)] := by kernel_rfl
@[go_sem] theorem tyField62_0 : tField Tryz.prog 62 0 = some (0, 33) := by kernel_rfl
@[go_sem] theorem tyFields62 : tFields Tryz.prog 62 = some [(0, 1)] := by kernel_rfl
@[go_sem] theorem tyStr62 : tStr Tryz.prog 62 = false := by kernel_rfl
@[go_sem] theorem tySize65 : tSize Tryz.prog 65 = some 1 := by kernel_rfl
@[go_sem] theorem tyRow65 : tRow Tryz.prog 65 = some false := by kernel_rfl
@[go_sem] theorem tyZero65 : tZero Tryz.prog 65 = some [(.pointer none)] := by kernel_rfl
@[go_sem] theorem tyStr65 : tStr Tryz.prog 65 = false := by kernel_rfl
@[go_sem] theorem tyField67_0 : tField Tryz.prog 67 0 = some (0, 33) := by kernel_rfl
@[go_sem] theorem tyField67_1 : tField Tryz.prog 67 1 = some (1, 34) := by kernel_rfl
@[go_sem] theorem tySize68 : tSize Tryz.prog 68 = some 2 := by kernel_rfl
@[go_sem] theorem tyRow68 : tRow Tryz.prog 68 = some true := by kernel_rfl
@[go_sem] theorem tyZero68 : tZero Tryz.prog 68 = some [(.slice none 0 0), (.int .i64 0)] := by kernel_rfl
@[go_sem] theorem tyField68_0 : tField Tryz.prog 68 0 = some (0, 33) := by kernel_rfl
@[go_sem] theorem tyField68_1 : tField Tryz.prog 68 1 = some (1, 34) := by kernel_rfl
@[go_sem] theorem tyFields68 : tFields Tryz.prog 68 = some [(0, 1), (1, 1)] := by kernel_rfl
@[go_sem] theorem tyStr68 : tStr Tryz.prog 68 = false := by kernel_rfl
@[go_sem] theorem tySize81 : tSize Tryz.prog 81 = some 1 := by kernel_rfl
@[go_sem] theorem tyRow81 : tRow Tryz.prog 81 = some false := by kernel_rfl
@[go_sem] theorem tyZero81 : tZero Tryz.prog 81 = some [(.pointer none)] := by kernel_rfl
@[go_sem] theorem tyStr81 : tStr Tryz.prog 81 = false := by kernel_rfl
@[go_sem] theorem tyField82_0 : tField Tryz.prog 82 0 = some (0, 9) := by kernel_rfl
@[go_sem] theorem tyField82_1 : tField Tryz.prog 82 1 = some (1, 3) := by kernel_rfl
@[go_sem] theorem tyField82_2 : tField Tryz.prog 82 2 = some (2, 42) := by kernel_rfl
@[go_sem] theorem tySize83 : tSize Tryz.prog 83 = some 5 := by kernel_rfl
@[go_sem] theorem tyRow83 : tRow Tryz.prog 83 = some true := by kernel_rfl
@[go_sem] theorem tyZero83 : tZero Tryz.prog 83 = some [(.string ⟨#[]⟩), (.int .i64 0), (.string ⟨#[]⟩), (.int .i64 0), (.int .i64 0)] := by kernel_rfl
@[go_sem] theorem tyField83_0 : tField Tryz.prog 83 0 = some (0, 9) := by kernel_rfl
@[go_sem] theorem tyField83_1 : tField Tryz.prog 83 1 = some (1, 3) := by kernel_rfl
@[go_sem] theorem tyField83_2 : tField Tryz.prog 83 2 = some (2, 42) := by kernel_rfl
@[go_sem] theorem tyFields83 : tFields Tryz.prog 83 = some [(0, 1), (1, 1), (2, 3)] := by kernel_rfl
@[go_sem] theorem tyStr83 : tStr Tryz.prog 83 = false := by kernel_rfl
@[go_sem] theorem tySize84 : tSize Tryz.prog 84 = some 1 := by kernel_rfl
@[go_sem] theorem tyRow84 : tRow Tryz.prog 84 = some false := by kernel_rfl
@[go_sem] theorem tyZero84 : tZero Tryz.prog 84 = some [(.slice none 0 0)] := by kernel_rfl
@[go_sem] theorem tySlice84 : tSlice Tryz.prog 84 = some 48 := by kernel_rfl
@[go_sem] theorem tyStr84 : tStr Tryz.prog 84 = false := by kernel_rfl
@[go_sem] theorem tyField85_0 : tField Tryz.prog 85 0 = some (0, 3) := by kernel_rfl
@[go_sem] theorem tyField85_1 : tField Tryz.prog 85 1 = some (1, 9) := by kernel_rfl
@[go_sem] theorem tyField85_2 : tField Tryz.prog 85 2 = some (2, 9) := by kernel_rfl
@[go_sem] theorem tyField85_3 : tField Tryz.prog 85 3 = some (3, 84) := by kernel_rfl
@[go_sem] theorem tySize86 : tSize Tryz.prog 86 = some 4 := by kernel_rfl
@[go_sem] theorem tyRow86 : tRow Tryz.prog 86 = some true := by kernel_rfl
@[go_sem] theorem tyZero86 : tZero Tryz.prog 86 = some [(.int .i64 0), (.string ⟨#[]⟩), (.string ⟨#[]⟩), (.slice none 0 0)] := by kernel_rfl
@[go_sem] theorem tyField86_0 : tField Tryz.prog 86 0 = some (0, 3) := by kernel_rfl
@[go_sem] theorem tyField86_1 : tField Tryz.prog 86 1 = some (1, 9) := by kernel_rfl
@[go_sem] theorem tyField86_2 : tField Tryz.prog 86 2 = some (2, 9) := by kernel_rfl
@[go_sem] theorem tyField86_3 : tField Tryz.prog 86 3 = some (3, 84) := by kernel_rfl
@[go_sem] theorem tyFields86 : tFields Tryz.prog 86 = some [(0, 1), (1, 1), (2, 1), (3, 1)] := by kernel_rfl
@[go_sem] theorem tyStr86 : tStr Tryz.prog 86 = false := by kernel_rfl
@[go_sem] theorem tySize88 : tSize Tryz.prog 88 = some 1 := by kernel_rfl
@[go_sem] theorem tyRow88 : tRow Tryz.prog 88 = some false := by kernel_rfl
@[go_sem] theorem tyZero88 : tZero Tryz.prog 88 = some [(.slice none 0 0)] := by kernel_rfl
@[go_sem] theorem tySlice88 : tSlice Tryz.prog 88 = some 9 := by kernel_rfl
@[go_sem] theorem tyStr88 : tStr Tryz.prog 88 = false := by kernel_rfl
@[go_sem] theorem tyField91_0 : tField Tryz.prog 91 0 = some (0, 4) := by kernel_rfl
@[go_sem] theorem tyField91_1 : tField Tryz.prog 91 1 = some (1, 4) := by kernel_rfl
@[go_sem] theorem tyField91_2 : tField Tryz.prog 91 2 = some (2, 4) := by kernel_rfl
@[go_sem] theorem tyField91_3 : tField Tryz.prog 91 3 = some (3, 4) := by kernel_rfl
@[go_sem] theorem tyField91_4 : tField Tryz.prog 91 4 = some (4, 4) := by kernel_rfl
@[go_sem] theorem tyField91_5 : tField Tryz.prog 91 5 = some (5, 4) := by kernel_rfl
@[go_sem] theorem tyField91_6 : tField Tryz.prog 91 6 = some (6, 4) := by kernel_rfl
@[go_sem] theorem tyField91_7 : tField Tryz.prog 91 7 = some (7, 4) := by kernel_rfl
@[go_sem] theorem tyField91_8 : tField Tryz.prog 91 8 = some (8, 4) := by kernel_rfl
@[go_sem] theorem tyField91_9 : tField Tryz.prog 91 9 = some (9, 4) := by kernel_rfl
@[go_sem] theorem tyField91_10 : tField Tryz.prog 91 10 = some (10, 4) := by kernel_rfl
@[go_sem] theorem tySize92 : tSize Tryz.prog 92 = some 11 := by kernel_rfl
@[go_sem] theorem tyRow92 : tRow Tryz.prog 92 = some true := by kernel_rfl
@[go_sem] theorem tyZero92 : tZero Tryz.prog 92 = some [(.bool false), (.bool false), (.bool false), (.bool false), (.bool false), (.bool false), (.bool false), (.bool false), (.bool false), (.bool false), (.bool false)] := by kernel_rfl
@[go_sem] theorem tyField92_0 : tField Tryz.prog 92 0 = some (0, 4) := by kernel_rfl
@[go_sem] theorem tyField92_1 : tField Tryz.prog 92 1 = some (1, 4) := by kernel_rfl
@[go_sem] theorem tyField92_2 : tField Tryz.prog 92 2 = some (2, 4) := by kernel_rfl
@[go_sem] theorem tyField92_3 : tField Tryz.prog 92 3 = some (3, 4) := by kernel_rfl
@[go_sem] theorem tyField92_4 : tField Tryz.prog 92 4 = some (4, 4) := by kernel_rfl
@[go_sem] theorem tyField92_5 : tField Tryz.prog 92 5 = some (5, 4) := by kernel_rfl
@[go_sem] theorem tyField92_6 : tField Tryz.prog 92 6 = some (6, 4) := by kernel_rfl
@[go_sem] theorem tyField92_7 : tField Tryz.prog 92 7 = some (7, 4) := by kernel_rfl
@[go_sem] theorem tyField92_8 : tField Tryz.prog 92 8 = some (8, 4) := by kernel_rfl
@[go_sem] theorem tyField92_9 : tField Tryz.prog 92 9 = some (9, 4) := by kernel_rfl
@[go_sem] theorem tyField92_10 : tField Tryz.prog 92 10 = some (10, 4) := by kernel_rfl
@[go_sem] theorem tyFields92 : tFields Tryz.prog 92 = some [(0, 1), (1, 1), (2, 1), (3, 1), (4, 1), (5, 1), (6, 1), (7, 1), (8, 1), (9, 1), (10, 1)] := by kernel_rfl
@[go_sem] theorem tyStr92 : tStr Tryz.prog 92 = false := by kernel_rfl
@[go_sem] theorem tySize93 : tSize Tryz.prog 93 = some 165 := by kernel_rfl
@[go_sem] theorem tyRow93 : tRow Tryz.prog 93 = some true := by kernel_rfl
@[go_sem] theorem tyFields93 : tFields Tryz.prog 93 = some [(0, 11), (11, 11), (22, 11), (33, 11), (44, 11), (55, 11), (66, 11), (77, 11), (88, 11), (99, 11), (110, 11), (121, 11), (132, 11), (143, 11), (154, 11)] := by kernel_rfl
@[go_sem] theorem tyStr93 : tStr Tryz.prog 93 = false := by kernel_rfl
@[go_sem] theorem tySize100 : tSize Tryz.prog 100 = some 1 := by kernel_rfl
@[go_sem] theorem tyRow100 : tRow Tryz.prog 100 = some false := by kernel_rfl
@[go_sem] theorem tyZero100 : tZero Tryz.prog 100 = some [(.int .u64 0)] := by kernel_rfl
@[go_sem] theorem tyInt100 : tInt Tryz.prog 100 = some .u64 := by kernel_rfl
@[go_sem] theorem tyStr100 : tStr Tryz.prog 100 = false := by kernel_rfl
@[go_sem] theorem tySize114 : tSize Tryz.prog 114 = some 1 := by kernel_rfl
@[go_sem] theorem tyRow114 : tRow Tryz.prog 114 = some false := by kernel_rfl
@[go_sem] theorem tyZero114 : tZero Tryz.prog 114 = some [(.map none)] := by kernel_rfl
@[go_sem] theorem tyStr114 : tStr Tryz.prog 114 = false := by kernel_rfl
@[go_sem] theorem tySize135 : tSize Tryz.prog 135 = some 1 := by kernel_rfl
@[go_sem] theorem tyRow135 : tRow Tryz.prog 135 = some false := by kernel_rfl
@[go_sem] theorem tyZero135 : tZero Tryz.prog 135 = some [(.map none)] := by kernel_rfl
@[go_sem] theorem tyStr135 : tStr Tryz.prog 135 = false := by kernel_rfl
@[go_sem] theorem tySize137 : tSize Tryz.prog 137 = some 2 := by kernel_rfl
@[go_sem] theorem tyRow137 : tRow Tryz.prog 137 = some true := by kernel_rfl
@[go_sem] theorem tyZero137 : tZero Tryz.prog 137 = some [(.string ⟨#[]⟩), (.string ⟨#[]⟩)] := by kernel_rfl
@[go_sem] theorem tyFields137 : tFields Tryz.prog 137 = some [(0, 1), (1, 1)] := by kernel_rfl
@[go_sem] theorem tyStr137 : tStr Tryz.prog 137 = false := by kernel_rfl
@[go_sem] theorem tySize147 : tSize Tryz.prog 147 = some 1 := by kernel_rfl
@[go_sem] theorem tyRow147 : tRow Tryz.prog 147 = some false := by kernel_rfl
@[go_sem] theorem tyZero147 : tZero Tryz.prog 147 = some [(.pointer none)] := by kernel_rfl
@[go_sem] theorem tyStr147 : tStr Tryz.prog 147 = false := by kernel_rfl
@[go_sem] theorem tySize149 : tSize Tryz.prog 149 = some 1 := by kernel_rfl
@[go_sem] theorem tyRow149 : tRow Tryz.prog 149 = some false := by kernel_rfl
@[go_sem] theorem tyZero149 : tZero Tryz.prog 149 = some [(.pointer none)] := by kernel_rfl
@[go_sem] theorem tyStr149 : tStr Tryz.prog 149 = false := by kernel_rfl
@[go_sem] theorem tyField171_0 : tField Tryz.prog 171 0 = some (0, 17) := by kernel_rfl
@[go_sem] theorem tyField171_1 : tField Tryz.prog 171 1 = some (1, 17) := by kernel_rfl
@[go_sem] theorem tyField171_2 : tField Tryz.prog 171 2 = some (2, 17) := by kernel_rfl
@[go_sem] theorem tyField171_3 : tField Tryz.prog 171 3 = some (3, 9) := by kernel_rfl
@[go_sem] theorem tyField172_0 : tField Tryz.prog 172 0 = some (0, 17) := by kernel_rfl
@[go_sem] theorem tyField172_1 : tField Tryz.prog 172 1 = some (1, 17) := by kernel_rfl
@[go_sem] theorem tyField172_2 : tField Tryz.prog 172 2 = some (2, 17) := by kernel_rfl
@[go_sem] theorem tyField172_3 : tField Tryz.prog 172 3 = some (3, 9) := by kernel_rfl
@[go_sem] theorem tyField174_0 : tField Tryz.prog 174 0 = some (0, 173) := by kernel_rfl
@[go_sem] theorem tyField175_0 : tField Tryz.prog 175 0 = some (0, 173) := by kernel_rfl
@[go_sem] theorem tyField184_0 : tField Tryz.prog 184 0 = some (0, 12) := by kernel_rfl
@[go_sem] theorem tyField184_1 : tField Tryz.prog 184 1 = some (1, 12) := by kernel_rfl
@[go_sem] theorem tyField184_2 : tField Tryz.prog 184 2 = some (2, 177) := by kernel_rfl
@[go_sem] theorem tyField184_3 : tField Tryz.prog 184 3 = some (3, 178) := by kernel_rfl
@[go_sem] theorem tyField184_4 : tField Tryz.prog 184 4 = some (4, 5) := by kernel_rfl
@[go_sem] theorem tyField184_5 : tField Tryz.prog 184 5 = some (5, 5) := by kernel_rfl
@[go_sem] theorem tyField184_6 : tField Tryz.prog 184 6 = some (6, 179) := by kernel_rfl
@[go_sem] theorem tyField184_7 : tField Tryz.prog 184 7 = some (7, 180) := by kernel_rfl
@[go_sem] theorem tyField184_8 : tField Tryz.prog 184 8 = some (8, 181) := by kernel_rfl
@[go_sem] theorem tyField184_9 : tField Tryz.prog 184 9 = some (9, 182) := by kernel_rfl
@[go_sem] theorem tyField184_10 : tField Tryz.prog 184 10 = some (10, 183) := by kernel_rfl
@[go_sem] theorem tyField185_0 : tField Tryz.prog 185 0 = some (0, 12) := by kernel_rfl
@[go_sem] theorem tyField185_1 : tField Tryz.prog 185 1 = some (1, 12) := by kernel_rfl
@[go_sem] theorem tyField185_2 : tField Tryz.prog 185 2 = some (2, 177) := by kernel_rfl
@[go_sem] theorem tyField185_3 : tField Tryz.prog 185 3 = some (3, 178) := by kernel_rfl
@[go_sem] theorem tyField185_4 : tField Tryz.prog 185 4 = some (4, 5) := by kernel_rfl
@[go_sem] theorem tyField185_5 : tField Tryz.prog 185 5 = some (5, 5) := by kernel_rfl
@[go_sem] theorem tyField185_6 : tField Tryz.prog 185 6 = some (6, 179) := by kernel_rfl
@[go_sem] theorem tyField185_7 : tField Tryz.prog 185 7 = some (7, 180) := by kernel_rfl
@[go_sem] theorem tyField185_8 : tField Tryz.prog 185 8 = some (8, 181) := by kernel_rfl
@[go_sem] theorem tyField185_9 : tField Tryz.prog 185 9 = some (9, 182) := by kernel_rfl
@[go_sem] theorem tyField185_10 : tField Tryz.prog 185 10 = some (10, 183) := by kernel_rfl
theorem tyApp3 : tApp Tryz.prog 3 = some (1, 8) := by kernel_rfl
theorem tyApp5 : tApp Tryz.prog 5 = some (1, 1) := by kernel_rfl
theorem tyApp44 : tApp Tryz.prog 44 = some (12, 120) := by kernel_rfl
theorem tyApp46 : tApp Tryz.prog 46 = some (3, 24) := by kernel_rfl
theorem tyApp48 : tApp Tryz.prog 48 = some (3, 40) := by kernel_rfl
theorem tyApp50 : tApp Tryz.prog 50 = some (29, 312) := by kernel_rfl
theorem tyApp83 : tApp Tryz.prog 83 = some (5, 56) := by kernel_rfl
theorem tyApp86 : tApp Tryz.prog 86 = some (4, 64) := by kernel_rfl
end Go.Proofs.YtohdfcnjcpjdcaaGreatDoor
