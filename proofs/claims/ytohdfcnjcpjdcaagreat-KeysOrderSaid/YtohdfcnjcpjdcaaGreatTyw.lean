/- What the walk asks of the program's types. Conditions: none. -/
import Derived.Test.YtohdfcnjcpjdcaaGreatProg
import Derived.Test.YtohdfcnjcpjdcaaGreatA3w
namespace Go.Proofs.YtohdfcnjcpjdcaaGreat
theorem follows_mixed : Tryz.prog.follows .mixedOrders = true := by kernel_rfl
@[go_sem] theorem tySize3 : tSize Tryz.prog 3 = some 1 := by kernel_rfl
@[go_sem] theorem tyRow3 : tRow Tryz.prog 3 = some false := by kernel_rfl
@[go_sem] theorem tyZero3 : tZero Tryz.prog 3 = some [(.int .i64 0)] := by kernel_rfl
@[go_sem] theorem tyInt3 : tInt Tryz.prog 3 = some .i64 := by kernel_rfl
@[go_sem] theorem tyStr3 : tStr Tryz.prog 3 = false := by kernel_rfl
@[go_sem] theorem tySize4 : tSize Tryz.prog 4 = some 1 := by kernel_rfl
@[go_sem] theorem tyRow4 : tRow Tryz.prog 4 = some false := by kernel_rfl
@[go_sem] theorem tyZero4 : tZero Tryz.prog 4 = some [(.bool false)] := by kernel_rfl
@[go_sem] theorem tyStr4 : tStr Tryz.prog 4 = false := by kernel_rfl
@[go_sem] theorem tySize5 : tSize Tryz.prog 5 = some 1 := by kernel_rfl
@[go_sem] theorem tyRow5 : tRow Tryz.prog 5 = some false := by kernel_rfl
@[go_sem] theorem tyZero5 : tZero Tryz.prog 5 = some [(.int .u8 0)] := by kernel_rfl
@[go_sem] theorem tyInt5 : tInt Tryz.prog 5 = some .u8 := by kernel_rfl
@[go_sem] theorem tyStr5 : tStr Tryz.prog 5 = false := by kernel_rfl
@[go_sem] theorem tyField7_0 : tField Tryz.prog 7 0 = some (0, 2) := by kernel_rfl
@[go_sem] theorem tyField7_1 : tField Tryz.prog 7 1 = some (1, 3) := by kernel_rfl
@[go_sem] theorem tyField7_2 : tField Tryz.prog 7 2 = some (2, 4) := by kernel_rfl
@[go_sem] theorem tyField7_3 : tField Tryz.prog 7 3 = some (3, 6) := by kernel_rfl
@[go_sem] theorem tyField8_0 : tField Tryz.prog 8 0 = some (0, 2) := by kernel_rfl
@[go_sem] theorem tyField8_1 : tField Tryz.prog 8 1 = some (1, 3) := by kernel_rfl
@[go_sem] theorem tyField8_2 : tField Tryz.prog 8 2 = some (2, 4) := by kernel_rfl
@[go_sem] theorem tyField8_3 : tField Tryz.prog 8 3 = some (3, 6) := by kernel_rfl
@[go_sem] theorem tySize9 : tSize Tryz.prog 9 = some 1 := by kernel_rfl
@[go_sem] theorem tyRow9 : tRow Tryz.prog 9 = some false := by kernel_rfl
@[go_sem] theorem tyZero9 : tZero Tryz.prog 9 = some [(.string ⟨#[]⟩)] := by kernel_rfl
@[go_sem] theorem tyStr9 : tStr Tryz.prog 9 = true := by kernel_rfl
@[go_sem] theorem tyField13_0 : tField Tryz.prog 13 0 = some (0, 9) := by kernel_rfl
@[go_sem] theorem tyField13_1 : tField Tryz.prog 13 1 = some (1, 12) := by kernel_rfl
@[go_sem] theorem tyField14_0 : tField Tryz.prog 14 0 = some (0, 9) := by kernel_rfl
@[go_sem] theorem tyField14_1 : tField Tryz.prog 14 1 = some (1, 12) := by kernel_rfl
@[go_sem] theorem tyField18_0 : tField Tryz.prog 18 0 = some (0, 17) := by kernel_rfl
@[go_sem] theorem tyField19_0 : tField Tryz.prog 19 0 = some (0, 17) := by kernel_rfl
@[go_sem] theorem tySize22 : tSize Tryz.prog 22 = some 1 := by kernel_rfl
@[go_sem] theorem tyRow22 : tRow Tryz.prog 22 = some false := by kernel_rfl
@[go_sem] theorem tyZero22 : tZero Tryz.prog 22 = some [(.slice none 0 0)] := by kernel_rfl
@[go_sem] theorem tySlice22 : tSlice Tryz.prog 22 = some 66 := by kernel_rfl
@[go_sem] theorem tyStr22 : tStr Tryz.prog 22 = false := by kernel_rfl
@[go_sem] theorem tySize24 : tSize Tryz.prog 24 = some 1 := by kernel_rfl
@[go_sem] theorem tyRow24 : tRow Tryz.prog 24 = some false := by kernel_rfl
@[go_sem] theorem tyZero24 : tZero Tryz.prog 24 = some [(.slice none 0 0)] := by kernel_rfl
@[go_sem] theorem tySlice24 : tSlice Tryz.prog 24 = some 42 := by kernel_rfl
@[go_sem] theorem tyStr24 : tStr Tryz.prog 24 = false := by kernel_rfl
@[go_sem] theorem tySize25 : tSize Tryz.prog 25 = some 1 := by kernel_rfl
@[go_sem] theorem tyRow25 : tRow Tryz.prog 25 = some false := by kernel_rfl
@[go_sem] theorem tyZero25 : tZero Tryz.prog 25 = some [(.slice none 0 0)] := by kernel_rfl
@[go_sem] theorem tySlice25 : tSlice Tryz.prog 25 = some 38 := by kernel_rfl
@[go_sem] theorem tyStr25 : tStr Tryz.prog 25 = false := by kernel_rfl
@[go_sem] theorem tySize26 : tSize Tryz.prog 26 = some 1 := by kernel_rfl
@[go_sem] theorem tyRow26 : tRow Tryz.prog 26 = some false := by kernel_rfl
@[go_sem] theorem tyZero26 : tZero Tryz.prog 26 = some [(.slice none 0 0)] := by kernel_rfl
@[go_sem] theorem tySlice26 : tSlice Tryz.prog 26 = some 89 := by kernel_rfl
@[go_sem] theorem tyStr26 : tStr Tryz.prog 26 = false := by kernel_rfl
@[go_sem] theorem tySize27 : tSize Tryz.prog 27 = some 1 := by kernel_rfl
@[go_sem] theorem tyRow27 : tRow Tryz.prog 27 = some false := by kernel_rfl
@[go_sem] theorem tyZero27 : tZero Tryz.prog 27 = some [(.slice none 0 0)] := by kernel_rfl
@[go_sem] theorem tySlice27 : tSlice Tryz.prog 27 = some 68 := by kernel_rfl
@[go_sem] theorem tyStr27 : tStr Tryz.prog 27 = false := by kernel_rfl
@[go_sem] theorem tySize28 : tSize Tryz.prog 28 = some 1 := by kernel_rfl
@[go_sem] theorem tyRow28 : tRow Tryz.prog 28 = some false := by kernel_rfl
@[go_sem] theorem tyZero28 : tZero Tryz.prog 28 = some [(.slice none 0 0)] := by kernel_rfl
@[go_sem] theorem tySlice28 : tSlice Tryz.prog 28 = some 3 := by kernel_rfl
@[go_sem] theorem tyStr28 : tStr Tryz.prog 28 = false := by kernel_rfl
@[go_sem] theorem tyField29_0 : tField Tryz.prog 29 0 = some (0, 3) := by kernel_rfl
@[go_sem] theorem tyField29_1 : tField Tryz.prog 29 1 = some (1, 3) := by kernel_rfl
@[go_sem] theorem tyField29_2 : tField Tryz.prog 29 2 = some (2, 24) := by kernel_rfl
@[go_sem] theorem tyField29_3 : tField Tryz.prog 29 3 = some (3, 25) := by kernel_rfl
@[go_sem] theorem tyField29_4 : tField Tryz.prog 29 4 = some (4, 26) := by kernel_rfl
@[go_sem] theorem tyField29_5 : tField Tryz.prog 29 5 = some (5, 27) := by kernel_rfl
@[go_sem] theorem tyField29_6 : tField Tryz.prog 29 6 = some (6, 28) := by kernel_rfl
@[go_sem] theorem tySize30 : tSize Tryz.prog 30 = some 7 := by kernel_rfl
@[go_sem] theorem tyRow30 : tRow Tryz.prog 30 = some true := by kernel_rfl
@[go_sem] theorem tyZero30 : tZero Tryz.prog 30 = some [(.int .i64 0), (.int .i64 0), (.slice none 0 0), (.slice none 0 0), (.slice none 0 0), (.slice none 0 0), (.slice none 0 0)] := by kernel_rfl
@[go_sem] theorem tyField30_0 : tField Tryz.prog 30 0 = some (0, 3) := by kernel_rfl
@[go_sem] theorem tyField30_1 : tField Tryz.prog 30 1 = some (1, 3) := by kernel_rfl
@[go_sem] theorem tyField30_2 : tField Tryz.prog 30 2 = some (2, 24) := by kernel_rfl
@[go_sem] theorem tyField30_3 : tField Tryz.prog 30 3 = some (3, 25) := by kernel_rfl
@[go_sem] theorem tyField30_4 : tField Tryz.prog 30 4 = some (4, 26) := by kernel_rfl
@[go_sem] theorem tyField30_5 : tField Tryz.prog 30 5 = some (5, 27) := by kernel_rfl
@[go_sem] theorem tyField30_6 : tField Tryz.prog 30 6 = some (6, 28) := by kernel_rfl
@[go_sem] theorem tyFields30 : tFields Tryz.prog 30 = some [(0, 1), (1, 1), (2, 1), (3, 1), (4, 1), (5, 1), (6, 1)] := by kernel_rfl
@[go_sem] theorem tyStr30 : tStr Tryz.prog 30 = false := by kernel_rfl
@[go_sem] theorem tySize31 : tSize Tryz.prog 31 = some 1 := by kernel_rfl
@[go_sem] theorem tyRow31 : tRow Tryz.prog 31 = some false := by kernel_rfl
@[go_sem] theorem tyZero31 : tZero Tryz.prog 31 = some [(.slice none 0 0)] := by kernel_rfl
@[go_sem] theorem tySlice31 : tSlice Tryz.prog 31 = some 72 := by kernel_rfl
@[go_sem] theorem tyStr31 : tStr Tryz.prog 31 = false := by kernel_rfl
@[go_sem] theorem tySize34 : tSize Tryz.prog 34 = some 1 := by kernel_rfl
@[go_sem] theorem tyRow34 : tRow Tryz.prog 34 = some false := by kernel_rfl
@[go_sem] theorem tyZero34 : tZero Tryz.prog 34 = some [(.int .i64 0)] := by kernel_rfl
@[go_sem] theorem tyInt34 : tInt Tryz.prog 34 = some .i64 := by kernel_rfl
@[go_sem] theorem tyStr34 : tStr Tryz.prog 34 = false := by kernel_rfl
@[go_sem] theorem tyField37_0 : tField Tryz.prog 37 0 = some (0, 3) := by kernel_rfl
@[go_sem] theorem tyField37_1 : tField Tryz.prog 37 1 = some (1, 9) := by kernel_rfl
@[go_sem] theorem tyField37_2 : tField Tryz.prog 37 2 = some (2, 9) := by kernel_rfl
@[go_sem] theorem tyField37_3 : tField Tryz.prog 37 3 = some (3, 4) := by kernel_rfl
@[go_sem] theorem tyField37_4 : tField Tryz.prog 37 4 = some (4, 4) := by kernel_rfl
@[go_sem] theorem tyField37_5 : tField Tryz.prog 37 5 = some (5, 3) := by kernel_rfl
@[go_sem] theorem tyField37_6 : tField Tryz.prog 37 6 = some (6, 3) := by kernel_rfl
@[go_sem] theorem tyField37_7 : tField Tryz.prog 37 7 = some (7, 3) := by kernel_rfl
@[go_sem] theorem tyField37_8 : tField Tryz.prog 37 8 = some (8, 28) := by kernel_rfl
@[go_sem] theorem tyField37_9 : tField Tryz.prog 37 9 = some (9, 3) := by kernel_rfl
@[go_sem] theorem tyField37_10 : tField Tryz.prog 37 10 = some (10, 3) := by kernel_rfl
@[go_sem] theorem tyField37_11 : tField Tryz.prog 37 11 = some (11, 3) := by kernel_rfl
@[go_sem] theorem tySize38 : tSize Tryz.prog 38 = some 12 := by kernel_rfl
@[go_sem] theorem tyRow38 : tRow Tryz.prog 38 = some true := by kernel_rfl
@[go_sem] theorem tyZero38 : tZero Tryz.prog 38 = some [(.int .i64 0), (.string ⟨#[]⟩), (.string ⟨#[]⟩), (.bool false), (.bool false), (.int .i64 0), (.int .i64 0), (.int .i64 0), (.slice none 0 0), (.int .i64 0), (.int .i64 0), (.int .i64 0)] := by kernel_rfl
@[go_sem] theorem tyField38_0 : tField Tryz.prog 38 0 = some (0, 3) := by kernel_rfl
@[go_sem] theorem tyField38_1 : tField Tryz.prog 38 1 = some (1, 9) := by kernel_rfl
@[go_sem] theorem tyField38_2 : tField Tryz.prog 38 2 = some (2, 9) := by kernel_rfl
@[go_sem] theorem tyField38_3 : tField Tryz.prog 38 3 = some (3, 4) := by kernel_rfl
@[go_sem] theorem tyField38_4 : tField Tryz.prog 38 4 = some (4, 4) := by kernel_rfl
@[go_sem] theorem tyField38_5 : tField Tryz.prog 38 5 = some (5, 3) := by kernel_rfl
@[go_sem] theorem tyField38_6 : tField Tryz.prog 38 6 = some (6, 3) := by kernel_rfl
@[go_sem] theorem tyField38_7 : tField Tryz.prog 38 7 = some (7, 3) := by kernel_rfl
@[go_sem] theorem tyField38_8 : tField Tryz.prog 38 8 = some (8, 28) := by kernel_rfl
@[go_sem] theorem tyField38_9 : tField Tryz.prog 38 9 = some (9, 3) := by kernel_rfl
@[go_sem] theorem tyField38_10 : tField Tryz.prog 38 10 = some (10, 3) := by kernel_rfl
@[go_sem] theorem tyField38_11 : tField Tryz.prog 38 11 = some (11, 3) := by kernel_rfl
@[go_sem] theorem tyFields38 : tFields Tryz.prog 38 = some [(0, 1), (1, 1), (2, 1), (3, 1), (4, 1), (5, 1), (6, 1), (7, 1), (8, 1), (9, 1), (10, 1), (11, 1)] := by kernel_rfl
@[go_sem] theorem tyStr38 : tStr Tryz.prog 38 = false := by kernel_rfl
@[go_sem] theorem tyField39_0 : tField Tryz.prog 39 0 = some (0, 9) := by kernel_rfl
@[go_sem] theorem tyField39_1 : tField Tryz.prog 39 1 = some (1, 3) := by kernel_rfl
@[go_sem] theorem tyField39_2 : tField Tryz.prog 39 2 = some (2, 3) := by kernel_rfl
@[go_sem] theorem tySize40 : tSize Tryz.prog 40 = some 3 := by kernel_rfl
@[go_sem] theorem tyRow40 : tRow Tryz.prog 40 = some true := by kernel_rfl
@[go_sem] theorem tyZero40 : tZero Tryz.prog 40 = some [(.string ⟨#[]⟩), (.int .i64 0), (.int .i64 0)] := by kernel_rfl
@[go_sem] theorem tyField40_0 : tField Tryz.prog 40 0 = some (0, 9) := by kernel_rfl
@[go_sem] theorem tyField40_1 : tField Tryz.prog 40 1 = some (1, 3) := by kernel_rfl
@[go_sem] theorem tyField40_2 : tField Tryz.prog 40 2 = some (2, 3) := by kernel_rfl
@[go_sem] theorem tyFields40 : tFields Tryz.prog 40 = some [(0, 1), (1, 1), (2, 1)] := by kernel_rfl
@[go_sem] theorem tyStr40 : tStr Tryz.prog 40 = false := by kernel_rfl
@[go_sem] theorem tyField41_0 : tField Tryz.prog 41 0 = some (0, 9) := by kernel_rfl
@[go_sem] theorem tyField41_1 : tField Tryz.prog 41 1 = some (1, 3) := by kernel_rfl
@[go_sem] theorem tyField41_2 : tField Tryz.prog 41 2 = some (2, 40) := by kernel_rfl
@[go_sem] theorem tySize42 : tSize Tryz.prog 42 = some 5 := by kernel_rfl
@[go_sem] theorem tyRow42 : tRow Tryz.prog 42 = some true := by kernel_rfl
@[go_sem] theorem tyZero42 : tZero Tryz.prog 42 = some [(.string ⟨#[]⟩), (.int .i64 0), (.string ⟨#[]⟩), (.int .i64 0), (.int .i64 0)] := by kernel_rfl
@[go_sem] theorem tyField42_0 : tField Tryz.prog 42 0 = some (0, 9) := by kernel_rfl
@[go_sem] theorem tyField42_1 : tField Tryz.prog 42 1 = some (1, 3) := by kernel_rfl
@[go_sem] theorem tyField42_2 : tField Tryz.prog 42 2 = some (2, 40) := by kernel_rfl
@[go_sem] theorem tyFields42 : tFields Tryz.prog 42 = some [(0, 1), (1, 1), (2, 3)] := by kernel_rfl
@[go_sem] theorem tyStr42 : tStr Tryz.prog 42 = false := by kernel_rfl
@[go_sem] theorem tySize52 : tSize Tryz.prog 52 = some 1 := by kernel_rfl
@[go_sem] theorem tyRow52 : tRow Tryz.prog 52 = some false := by kernel_rfl
@[go_sem] theorem tyZero52 : tZero Tryz.prog 52 = some [(.slice none 0 0)] := by kernel_rfl
@[go_sem] theorem tySlice52 : tSlice Tryz.prog 52 = some 57 := by kernel_rfl
@[go_sem] theorem tyStr52 : tStr Tryz.prog 52 = false := by kernel_rfl
@[go_sem] theorem tyField56_0 : tField Tryz.prog 56 0 = some (0, 9) := by kernel_rfl
@[go_sem] theorem tyField56_1 : tField Tryz.prog 56 1 = some (1, 4) := by kernel_rfl
@[go_sem] theorem tyField56_2 : tField Tryz.prog 56 2 = some (2, 3) := by kernel_rfl
@[go_sem] theorem tyField56_3 : tField Tryz.prog 56 3 = some (3, 4) := by kernel_rfl
@[go_sem] theorem tyField56_4 : tField Tryz.prog 56 4 = some (4, 4) := by kernel_rfl
@[go_sem] theorem tyField56_5 : tField Tryz.prog 56 5 = some (5, 3) := by kernel_rfl
@[go_sem] theorem tyField56_6 : tField Tryz.prog 56 6 = some (6, 3) := by kernel_rfl
@[go_sem] theorem tySize57 : tSize Tryz.prog 57 = some 7 := by kernel_rfl
@[go_sem] theorem tyRow57 : tRow Tryz.prog 57 = some true := by kernel_rfl
@[go_sem] theorem tyZero57 : tZero Tryz.prog 57 = some [(.string ⟨#[]⟩), (.bool false), (.int .i64 0), (.bool false), (.bool false), (.int .i64 0), (.int .i64 0)] := by kernel_rfl
@[go_sem] theorem tyField57_0 : tField Tryz.prog 57 0 = some (0, 9) := by kernel_rfl
@[go_sem] theorem tyField57_1 : tField Tryz.prog 57 1 = some (1, 4) := by kernel_rfl
@[go_sem] theorem tyField57_2 : tField Tryz.prog 57 2 = some (2, 3) := by kernel_rfl
@[go_sem] theorem tyField57_3 : tField Tryz.prog 57 3 = some (3, 4) := by kernel_rfl
@[go_sem] theorem tyField57_4 : tField Tryz.prog 57 4 = some (4, 4) := by kernel_rfl
@[go_sem] theorem tyField57_5 : tField Tryz.prog 57 5 = some (5, 3) := by kernel_rfl
@[go_sem] theorem tyField57_6 : tField Tryz.prog 57 6 = some (6, 3) := by kernel_rfl
@[go_sem] theorem tyFields57 : tFields Tryz.prog 57 = some [(0, 1), (1, 1), (2, 1), (3, 1), (4, 1), (5, 1), (6, 1)] := by kernel_rfl
@[go_sem] theorem tyStr57 : tStr Tryz.prog 57 = false := by kernel_rfl
@[go_sem] theorem tySize61 : tSize Tryz.prog 61 = some 1 := by kernel_rfl
@[go_sem] theorem tyRow61 : tRow Tryz.prog 61 = some false := by kernel_rfl
@[go_sem] theorem tyZero61 : tZero Tryz.prog 61 = some [(.slice none 0 0)] := by kernel_rfl
@[go_sem] theorem tySlice61 : tSlice Tryz.prog 61 = some 9 := by kernel_rfl
@[go_sem] theorem tyStr61 : tStr Tryz.prog 61 = false := by kernel_rfl
@[go_sem] theorem tyField65_0 : tField Tryz.prog 65 0 = some (0, 3) := by kernel_rfl
@[go_sem] theorem tyField65_1 : tField Tryz.prog 65 1 = some (1, 3) := by kernel_rfl
@[go_sem] theorem tyField65_2 : tField Tryz.prog 65 2 = some (2, 3) := by kernel_rfl
@[go_sem] theorem tyField65_3 : tField Tryz.prog 65 3 = some (3, 3) := by kernel_rfl
@[go_sem] theorem tyField65_4 : tField Tryz.prog 65 4 = some (4, 3) := by kernel_rfl
@[go_sem] theorem tyField65_5 : tField Tryz.prog 65 5 = some (5, 9) := by kernel_rfl
@[go_sem] theorem tySize66 : tSize Tryz.prog 66 = some 6 := by kernel_rfl
@[go_sem] theorem tyRow66 : tRow Tryz.prog 66 = some true := by kernel_rfl
@[go_sem] theorem tyZero66 : tZero Tryz.prog 66 = some [(.int .i64 0), (.int .i64 0), (.int .i64 0), (.int .i64 0), (.int .i64 0), (.string ⟨#[]⟩)] := by kernel_rfl
@[go_sem] theorem tyField66_0 : tField Tryz.prog 66 0 = some (0, 3) := by kernel_rfl
@[go_sem] theorem tyField66_1 : tField Tryz.prog 66 1 = some (1, 3) := by kernel_rfl
@[go_sem] theorem tyField66_2 : tField Tryz.prog 66 2 = some (2, 3) := by kernel_rfl
@[go_sem] theorem tyField66_3 : tField Tryz.prog 66 3 = some (3, 3) := by kernel_rfl
@[go_sem] theorem tyField66_4 : tField Tryz.prog 66 4 = some (4, 3) := by kernel_rfl
@[go_sem] theorem tyField66_5 : tField Tryz.prog 66 5 = some (5, 9) := by kernel_rfl
@[go_sem] theorem tyFields66 : tFields Tryz.prog 66 = some [(0, 1), (1, 1), (2, 1), (3, 1), (4, 1), (5, 1)] := by kernel_rfl
@[go_sem] theorem tyStr66 : tStr Tryz.prog 66 = false := by kernel_rfl
@[go_sem] theorem tyField67_0 : tField Tryz.prog 67 0 = some (0, 3) := by kernel_rfl
@[go_sem] theorem tyField67_1 : tField Tryz.prog 67 1 = some (1, 3) := by kernel_rfl
@[go_sem] theorem tyField67_2 : tField Tryz.prog 67 2 = some (2, 3) := by kernel_rfl
@[go_sem] theorem tySize68 : tSize Tryz.prog 68 = some 3 := by kernel_rfl
@[go_sem] theorem tyRow68 : tRow Tryz.prog 68 = some true := by kernel_rfl
@[go_sem] theorem tyZero68 : tZero Tryz.prog 68 = some [(.int .i64 0), (.int .i64 0), (.int .i64 0)] := by kernel_rfl
@[go_sem] theorem tyField68_0 : tField Tryz.prog 68 0 = some (0, 3) := by kernel_rfl
@[go_sem] theorem tyField68_1 : tField Tryz.prog 68 1 = some (1, 3) := by kernel_rfl
@[go_sem] theorem tyField68_2 : tField Tryz.prog 68 2 = some (2, 3) := by kernel_rfl
@[go_sem] theorem tyFields68 : tFields Tryz.prog 68 = some [(0, 1), (1, 1), (2, 1)] := by kernel_rfl
@[go_sem] theorem tyStr68 : tStr Tryz.prog 68 = false := by kernel_rfl
@[go_sem] theorem tyField69_0 : tField Tryz.prog 69 0 = some (0, 3) := by kernel_rfl
@[go_sem] theorem tyField69_1 : tField Tryz.prog 69 1 = some (1, 3) := by kernel_rfl
@[go_sem] theorem tyField69_2 : tField Tryz.prog 69 2 = some (2, 28) := by kernel_rfl
@[go_sem] theorem tySize70 : tSize Tryz.prog 70 = some 3 := by kernel_rfl
@[go_sem] theorem tyRow70 : tRow Tryz.prog 70 = some true := by kernel_rfl
@[go_sem] theorem tyZero70 : tZero Tryz.prog 70 = some [(.int .i64 0), (.int .i64 0), (.slice none 0 0)] := by kernel_rfl
@[go_sem] theorem tyField70_0 : tField Tryz.prog 70 0 = some (0, 3) := by kernel_rfl
@[go_sem] theorem tyField70_1 : tField Tryz.prog 70 1 = some (1, 3) := by kernel_rfl
@[go_sem] theorem tyField70_2 : tField Tryz.prog 70 2 = some (2, 28) := by kernel_rfl
@[go_sem] theorem tyFields70 : tFields Tryz.prog 70 = some [(0, 1), (1, 1), (2, 1)] := by kernel_rfl
@[go_sem] theorem tyStr70 : tStr Tryz.prog 70 = false := by kernel_rfl
@[go_sem] theorem tyField71_0 : tField Tryz.prog 71 0 = some (0, 3) := by kernel_rfl
@[go_sem] theorem tyField71_1 : tField Tryz.prog 71 1 = some (1, 3) := by kernel_rfl
@[go_sem] theorem tyField71_2 : tField Tryz.prog 71 2 = some (2, 3) := by kernel_rfl
@[go_sem] theorem tyField71_3 : tField Tryz.prog 71 3 = some (3, 9) := by kernel_rfl
@[go_sem] theorem tyField71_4 : tField Tryz.prog 71 4 = some (4, 9) := by kernel_rfl
@[go_sem] theorem tyField71_5 : tField Tryz.prog 71 5 = some (5, 40) := by kernel_rfl
@[go_sem] theorem tyField71_6 : tField Tryz.prog 71 6 = some (8, 38) := by kernel_rfl
@[go_sem] theorem tyField71_7 : tField Tryz.prog 71 7 = some (20, 68) := by kernel_rfl
@[go_sem] theorem tyField71_8 : tField Tryz.prog 71 8 = some (23, 70) := by kernel_rfl
@[go_sem] theorem tyField71_9 : tField Tryz.prog 71 9 = some (26, 28) := by kernel_rfl
@[go_sem] theorem tyField71_10 : tField Tryz.prog 71 10 = some (27, 3) := by kernel_rfl
@[go_sem] theorem tyField71_11 : tField Tryz.prog 71 11 = some (28, 3) := by kernel_rfl
@[go_sem] theorem tySize72 : tSize Tryz.prog 72 = some 29 := by kernel_rfl
@[go_sem] theorem tyRow72 : tRow Tryz.prog 72 = some true := by kernel_rfl
@[go_sem] theorem tyZero72 : tZero Tryz.prog 72 = some [(.int .i64 0), (.int .i64 0), (.int .i64 0), (.string ⟨#[]⟩), (.string ⟨#[]⟩), (.string ⟨#[]⟩), (.int .i64 0), (.int .i64 0), (.int .i64 0), (.string ⟨#[]⟩), (.string ⟨#[]⟩), (.bool false), (.bool false), (.int .i64 0), (.int .i64 0), (.int .i64 0), (.slice none 0 0), (.int .i64 0), (.int .i64 0), (.int .i64 0), (.int .i64 0), (.int .i64 0), (.int .i64 0), (.int .i64 0), (.int .i64 0), (.slice none 0 0), (.slice none 0 0), (.int .i64 0), (.int .i64 0)] := by kernel_rfl
@[go_sem] theorem tyField72_0 : tField Tryz.prog 72 0 = some (0, 3) := by kernel_rfl
@[go_sem] theorem tyField72_1 : tField Tryz.prog 72 1 = some (1, 3) := by kernel_rfl
@[go_sem] theorem tyField72_2 : tField Tryz.prog 72 2 = some (2, 3) := by kernel_rfl
@[go_sem] theorem tyField72_3 : tField Tryz.prog 72 3 = some (3, 9) := by kernel_rfl
@[go_sem] theorem tyField72_4 : tField Tryz.prog 72 4 = some (4, 9) := by kernel_rfl
@[go_sem] theorem tyField72_5 : tField Tryz.prog 72 5 = some (5, 40) := by kernel_rfl
@[go_sem] theorem tyField72_6 : tField Tryz.prog 72 6 = some (8, 38) := by kernel_rfl
@[go_sem] theorem tyField72_7 : tField Tryz.prog 72 7 = some (20, 68) := by kernel_rfl
@[go_sem] theorem tyField72_8 : tField Tryz.prog 72 8 = some (23, 70) := by kernel_rfl
@[go_sem] theorem tyField72_9 : tField Tryz.prog 72 9 = some (26, 28) := by kernel_rfl
@[go_sem] theorem tyField72_10 : tField Tryz.prog 72 10 = some (27, 3) := by kernel_rfl
@[go_sem] theorem tyField72_11 : tField Tryz.prog 72 11 = some (28, 3) := by kernel_rfl
@[go_sem] theorem tyFields72 : tFields Tryz.prog 72 = some [(0, 1), (1, 1), (2, 1), (3, 1), (4, 1), (5, 3), (8, 12), (20, 3), (23, 3), (26, 1), (27, 1), (28, 1)] := by kernel_rfl
@[go_sem] theorem tyStr72 : tStr Tryz.prog 72 = false := by kernel_rfl
@[go_sem] theorem tyField81_0 : tField Tryz.prog 81 0 = some (0, 44) := by kernel_rfl
@[go_sem] theorem tyField82_0 : tField Tryz.prog 82 0 = some (0, 44) := by kernel_rfl
@[go_sem] theorem tySize87 : tSize Tryz.prog 87 = some 1 := by kernel_rfl
@[go_sem] theorem tyRow87 : tRow Tryz.prog 87 = some false := by kernel_rfl
@[go_sem] theorem tyZero87 : tZero Tryz.prog 87 = some [(.slice none 0 0)] := by kernel_rfl
@[go_sem] theorem tySlice87 : tSlice Tryz.prog 87 = some 70 := by kernel_rfl
@[go_sem] theorem tyStr87 : tStr Tryz.prog 87 = false := by kernel_rfl
@[go_sem] theorem tyField88_0 : tField Tryz.prog 88 0 = some (0, 3) := by kernel_rfl
@[go_sem] theorem tyField88_1 : tField Tryz.prog 88 1 = some (1, 9) := by kernel_rfl
@[go_sem] theorem tyField88_2 : tField Tryz.prog 88 2 = some (2, 9) := by kernel_rfl
@[go_sem] theorem tyField88_3 : tField Tryz.prog 88 3 = some (3, 87) := by kernel_rfl
@[go_sem] theorem tySize89 : tSize Tryz.prog 89 = some 4 := by kernel_rfl
@[go_sem] theorem tyRow89 : tRow Tryz.prog 89 = some true := by kernel_rfl
@[go_sem] theorem tyZero89 : tZero Tryz.prog 89 = some [(.int .i64 0), (.string ⟨#[]⟩), (.string ⟨#[]⟩), (.slice none 0 0)] := by kernel_rfl
@[go_sem] theorem tyField89_0 : tField Tryz.prog 89 0 = some (0, 3) := by kernel_rfl
@[go_sem] theorem tyField89_1 : tField Tryz.prog 89 1 = some (1, 9) := by kernel_rfl
@[go_sem] theorem tyField89_2 : tField Tryz.prog 89 2 = some (2, 9) := by kernel_rfl
@[go_sem] theorem tyField89_3 : tField Tryz.prog 89 3 = some (3, 87) := by kernel_rfl
@[go_sem] theorem tyFields89 : tFields Tryz.prog 89 = some [(0, 1), (1, 1), (2, 1), (3, 1)] := by kernel_rfl
@[go_sem] theorem tyStr89 : tStr Tryz.prog 89 = false := by kernel_rfl
@[go_sem] theorem tyField95_0 : tField Tryz.prog 95 0 = some (0, 44) := by kernel_rfl
@[go_sem] theorem tyField95_1 : tField Tryz.prog 95 1 = some (1, 34) := by kernel_rfl
@[go_sem] theorem tyField96_0 : tField Tryz.prog 96 0 = some (0, 44) := by kernel_rfl
@[go_sem] theorem tyField96_1 : tField Tryz.prog 96 1 = some (1, 34) := by kernel_rfl
@[go_sem] theorem tySize110 : tSize Tryz.prog 110 = some 1 := by kernel_rfl
@[go_sem] theorem tyRow110 : tRow Tryz.prog 110 = some false := by kernel_rfl
@[go_sem] theorem tyZero110 : tZero Tryz.prog 110 = some [(.slice none 0 0)] := by kernel_rfl
@[go_sem] theorem tySlice110 : tSlice Tryz.prog 110 = some 25 := by kernel_rfl
@[go_sem] theorem tyStr110 : tStr Tryz.prog 110 = false := by kernel_rfl
@[go_sem] theorem tySize124 : tSize Tryz.prog 124 = some 1 := by kernel_rfl
@[go_sem] theorem tyRow124 : tRow Tryz.prog 124 = some false := by kernel_rfl
@[go_sem] theorem tyZero124 : tZero Tryz.prog 124 = some [(.pointer none)] := by kernel_rfl
@[go_sem] theorem tyStr124 : tStr Tryz.prog 124 = false := by kernel_rfl
@[go_sem] theorem tySize126 : tSize Tryz.prog 126 = some 1 := by kernel_rfl
@[go_sem] theorem tyRow126 : tRow Tryz.prog 126 = some false := by kernel_rfl
@[go_sem] theorem tyZero126 : tZero Tryz.prog 126 = some [(.map none)] := by kernel_rfl
@[go_sem] theorem tyStr126 : tStr Tryz.prog 126 = false := by kernel_rfl
@[go_sem] theorem tySize134 : tSize Tryz.prog 134 = some 1 := by kernel_rfl
@[go_sem] theorem tyRow134 : tRow Tryz.prog 134 = some false := by kernel_rfl
@[go_sem] theorem tyZero134 : tZero Tryz.prog 134 = some [(.int .u64 0)] := by kernel_rfl
@[go_sem] theorem tyInt134 : tInt Tryz.prog 134 = some .u64 := by kernel_rfl
@[go_sem] theorem tyStr134 : tStr Tryz.prog 134 = false := by kernel_rfl
@[go_sem] theorem tySize153 : tSize Tryz.prog 153 = some 1 := by kernel_rfl
@[go_sem] theorem tyRow153 : tRow Tryz.prog 153 = some false := by kernel_rfl
@[go_sem] theorem tyZero153 : tZero Tryz.prog 153 = some [(.map none)] := by kernel_rfl
@[go_sem] theorem tyStr153 : tStr Tryz.prog 153 = false := by kernel_rfl
@[go_sem] theorem tySize155 : tSize Tryz.prog 155 = some 2 := by kernel_rfl
@[go_sem] theorem tyRow155 : tRow Tryz.prog 155 = some true := by kernel_rfl
@[go_sem] theorem tyZero155 : tZero Tryz.prog 155 = some [(.string ⟨#[]⟩), (.string ⟨#[]⟩)] := by kernel_rfl
@[go_sem] theorem tyFields155 : tFields Tryz.prog 155 = some [(0, 1), (1, 1)] := by kernel_rfl
@[go_sem] theorem tyStr155 : tStr Tryz.prog 155 = false := by kernel_rfl
@[go_sem] theorem tySize170 : tSize Tryz.prog 170 = some 1 := by kernel_rfl
@[go_sem] theorem tyRow170 : tRow Tryz.prog 170 = some false := by kernel_rfl
@[go_sem] theorem tyZero170 : tZero Tryz.prog 170 = some [(.pointer none)] := by kernel_rfl
@[go_sem] theorem tyStr170 : tStr Tryz.prog 170 = false := by kernel_rfl
@[go_sem] theorem tySize172 : tSize Tryz.prog 172 = some 1 := by kernel_rfl
@[go_sem] theorem tyRow172 : tRow Tryz.prog 172 = some false := by kernel_rfl
@[go_sem] theorem tyZero172 : tZero Tryz.prog 172 = some [(.pointer none)] := by kernel_rfl
@[go_sem] theorem tyStr172 : tStr Tryz.prog 172 = false := by kernel_rfl
@[go_sem] theorem tySize182 : tSize Tryz.prog 182 = some 1 := by kernel_rfl
@[go_sem] theorem tyRow182 : tRow Tryz.prog 182 = some false := by kernel_rfl
@[go_sem] theorem tyZero182 : tZero Tryz.prog 182 = some [(.int .i64 0)] := by kernel_rfl
@[go_sem] theorem tyInt182 : tInt Tryz.prog 182 = some .i64 := by kernel_rfl
@[go_sem] theorem tyStr182 : tStr Tryz.prog 182 = false := by kernel_rfl
@[go_sem] theorem tySize189 : tSize Tryz.prog 189 = some 1 := by kernel_rfl
@[go_sem] theorem tyRow189 : tRow Tryz.prog 189 = some false := by kernel_rfl
@[go_sem] theorem tyZero189 : tZero Tryz.prog 189 = some [(.int .u32 0)] := by kernel_rfl
@[go_sem] theorem tyInt189 : tInt Tryz.prog 189 = some .u32 := by kernel_rfl
@[go_sem] theorem tyStr189 : tStr Tryz.prog 189 = false := by kernel_rfl
@[go_sem] theorem tySize191 : tSize Tryz.prog 191 = some 1 := by kernel_rfl
@[go_sem] theorem tyRow191 : tRow Tryz.prog 191 = some false := by kernel_rfl
@[go_sem] theorem tyZero191 : tZero Tryz.prog 191 = some [(.int .u64 0)] := by kernel_rfl
@[go_sem] theorem tyInt191 : tInt Tryz.prog 191 = some .u64 := by kernel_rfl
@[go_sem] theorem tyStr191 : tStr Tryz.prog 191 = false := by kernel_rfl
@[go_sem] theorem tySize203 : tSize Tryz.prog 203 = some 1 := by kernel_rfl
@[go_sem] theorem tyRow203 : tRow Tryz.prog 203 = some false := by kernel_rfl
@[go_sem] theorem tyZero203 : tZero Tryz.prog 203 = some [(.int .u64 0)] := by kernel_rfl
@[go_sem] theorem tyInt203 : tInt Tryz.prog 203 = some .u64 := by kernel_rfl
@[go_sem] theorem tyStr203 : tStr Tryz.prog 203 = false := by kernel_rfl
@[go_sem] theorem tySize207 : tSize Tryz.prog 207 = some 1 := by kernel_rfl
@[go_sem] theorem tyRow207 : tRow Tryz.prog 207 = some false := by kernel_rfl
@[go_sem] theorem tyZero207 : tZero Tryz.prog 207 = some [(.pointer none)] := by kernel_rfl
@[go_sem] theorem tyStr207 : tStr Tryz.prog 207 = false := by kernel_rfl
@[go_sem] theorem tySize210 : tSize Tryz.prog 210 = some 1 := by kernel_rfl
@[go_sem] theorem tyRow210 : tRow Tryz.prog 210 = some false := by kernel_rfl
@[go_sem] theorem tyZero210 : tZero Tryz.prog 210 = some [(.pointer none)] := by kernel_rfl
@[go_sem] theorem tyStr210 : tStr Tryz.prog 210 = false := by kernel_rfl
@[go_sem] theorem tyField215_0 : tField Tryz.prog 215 0 = some (0, 17) := by kernel_rfl
@[go_sem] theorem tyField215_1 : tField Tryz.prog 215 1 = some (1, 17) := by kernel_rfl
@[go_sem] theorem tyField215_2 : tField Tryz.prog 215 2 = some (2, 17) := by kernel_rfl
@[go_sem] theorem tyField215_3 : tField Tryz.prog 215 3 = some (3, 9) := by kernel_rfl
@[go_sem] theorem tyField216_0 : tField Tryz.prog 216 0 = some (0, 17) := by kernel_rfl
@[go_sem] theorem tyField216_1 : tField Tryz.prog 216 1 = some (1, 17) := by kernel_rfl
@[go_sem] theorem tyField216_2 : tField Tryz.prog 216 2 = some (2, 17) := by kernel_rfl
@[go_sem] theorem tyField216_3 : tField Tryz.prog 216 3 = some (3, 9) := by kernel_rfl
@[go_sem] theorem tyField218_0 : tField Tryz.prog 218 0 = some (0, 217) := by kernel_rfl
@[go_sem] theorem tyField219_0 : tField Tryz.prog 219 0 = some (0, 217) := by kernel_rfl
@[go_sem] theorem tyField227_0 : tField Tryz.prog 227 0 = some (0, 12) := by kernel_rfl
@[go_sem] theorem tyField227_1 : tField Tryz.prog 227 1 = some (1, 12) := by kernel_rfl
@[go_sem] theorem tyField227_2 : tField Tryz.prog 227 2 = some (2, 189) := by kernel_rfl
@[go_sem] theorem tyField227_3 : tField Tryz.prog 227 3 = some (3, 221) := by kernel_rfl
@[go_sem] theorem tyField227_4 : tField Tryz.prog 227 4 = some (4, 5) := by kernel_rfl
@[go_sem] theorem tyField227_5 : tField Tryz.prog 227 5 = some (5, 5) := by kernel_rfl
@[go_sem] theorem tyField227_6 : tField Tryz.prog 227 6 = some (6, 222) := by kernel_rfl
@[go_sem] theorem tyField227_7 : tField Tryz.prog 227 7 = some (7, 223) := by kernel_rfl
@[go_sem] theorem tyField227_8 : tField Tryz.prog 227 8 = some (8, 224) := by kernel_rfl
@[go_sem] theorem tyField227_9 : tField Tryz.prog 227 9 = some (9, 225) := by kernel_rfl
@[go_sem] theorem tyField227_10 : tField Tryz.prog 227 10 = some (10, 226) := by kernel_rfl
@[go_sem] theorem tyField228_0 : tField Tryz.prog 228 0 = some (0, 12) := by kernel_rfl
@[go_sem] theorem tyField228_1 : tField Tryz.prog 228 1 = some (1, 12) := by kernel_rfl
@[go_sem] theorem tyField228_2 : tField Tryz.prog 228 2 = some (2, 189) := by kernel_rfl
@[go_sem] theorem tyField228_3 : tField Tryz.prog 228 3 = some (3, 221) := by kernel_rfl
@[go_sem] theorem tyField228_4 : tField Tryz.prog 228 4 = some (4, 5) := by kernel_rfl
@[go_sem] theorem tyField228_5 : tField Tryz.prog 228 5 = some (5, 5) := by kernel_rfl
@[go_sem] theorem tyField228_6 : tField Tryz.prog 228 6 = some (6, 222) := by kernel_rfl
@[go_sem] theorem tyField228_7 : tField Tryz.prog 228 7 = some (7, 223) := by kernel_rfl
@[go_sem] theorem tyField228_8 : tField Tryz.prog 228 8 = some (8, 224) := by kernel_rfl
@[go_sem] theorem tyField228_9 : tField Tryz.prog 228 9 = some (9, 225) := by kernel_rfl
@[go_sem] theorem tyField228_10 : tField Tryz.prog 228 10 = some (10, 226) := by kernel_rfl
theorem tyApp3 : tApp Tryz.prog 3 = some (1, 8) := by kernel_rfl
theorem tyApp25 : tApp Tryz.prog 25 = some (1, 24) := by kernel_rfl
theorem tyApp38 : tApp Tryz.prog 38 = some (12, 120) := by kernel_rfl
theorem tyApp42 : tApp Tryz.prog 42 = some (5, 56) := by kernel_rfl
theorem tyApp57 : tApp Tryz.prog 57 = some (7, 56) := by kernel_rfl
theorem tyApp68 : tApp Tryz.prog 68 = some (3, 24) := by kernel_rfl
theorem tyApp70 : tApp Tryz.prog 70 = some (3, 40) := by kernel_rfl
theorem tyApp72 : tApp Tryz.prog 72 = some (29, 312) := by kernel_rfl
theorem tyApp89 : tApp Tryz.prog 89 = some (4, 64) := by kernel_rfl
end Go.Proofs.YtohdfcnjcpjdcaaGreat
