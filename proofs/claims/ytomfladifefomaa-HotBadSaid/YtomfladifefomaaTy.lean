/- What the walk asks of the program's types. Conditions: none. -/
import Derived.Test.YtomfladifefomaaProg
import Derived.Test.YtomfladifefomaaA3
namespace Go.Proofs.Ytomfladifefomaa
theorem follows_mixed : Try.prog.follows .mixedOrders = true := by kernel_rfl
@[go_sem] theorem tySize2 : tSize Try.prog 2 = some 1 := by kernel_rfl
@[go_sem] theorem tyRow2 : tRow Try.prog 2 = some false := by kernel_rfl
@[go_sem] theorem tyZero2 : tZero Try.prog 2 = some [(.int .i64 0)] := by kernel_rfl
@[go_sem] theorem tyInt2 : tInt Try.prog 2 = some .i64 := by kernel_rfl
@[go_sem] theorem tyStr2 : tStr Try.prog 2 = false := by kernel_rfl
@[go_sem] theorem tySize3 : tSize Try.prog 3 = some 1 := by kernel_rfl
@[go_sem] theorem tyRow3 : tRow Try.prog 3 = some false := by kernel_rfl
@[go_sem] theorem tyZero3 : tZero Try.prog 3 = some [(.int .i64 0)] := by kernel_rfl
@[go_sem] theorem tyInt3 : tInt Try.prog 3 = some .i64 := by kernel_rfl
@[go_sem] theorem tyStr3 : tStr Try.prog 3 = false := by kernel_rfl
@[go_sem] theorem tySize4 : tSize Try.prog 4 = some 1 := by kernel_rfl
@[go_sem] theorem tyRow4 : tRow Try.prog 4 = some false := by kernel_rfl
@[go_sem] theorem tyZero4 : tZero Try.prog 4 = some [(.bool false)] := by kernel_rfl
@[go_sem] theorem tyStr4 : tStr Try.prog 4 = false := by kernel_rfl
@[go_sem] theorem tySize5 : tSize Try.prog 5 = some 1 := by kernel_rfl
@[go_sem] theorem tyRow5 : tRow Try.prog 5 = some false := by kernel_rfl
@[go_sem] theorem tyZero5 : tZero Try.prog 5 = some [(.int .u8 0)] := by kernel_rfl
@[go_sem] theorem tyInt5 : tInt Try.prog 5 = some .u8 := by kernel_rfl
@[go_sem] theorem tyStr5 : tStr Try.prog 5 = false := by kernel_rfl
@[go_sem] theorem tySize6 : tSize Try.prog 6 = some 1 := by kernel_rfl
@[go_sem] theorem tyRow6 : tRow Try.prog 6 = some false := by kernel_rfl
@[go_sem] theorem tyZero6 : tZero Try.prog 6 = some [(.int .u8 0)] := by kernel_rfl
@[go_sem] theorem tyInt6 : tInt Try.prog 6 = some .u8 := by kernel_rfl
@[go_sem] theorem tyStr6 : tStr Try.prog 6 = false := by kernel_rfl
@[go_sem] theorem tySize7 : tSize Try.prog 7 = some 4 := by kernel_rfl
@[go_sem] theorem tyRow7 : tRow Try.prog 7 = some true := by kernel_rfl
@[go_sem] theorem tyZero7 : tZero Try.prog 7 = some [(.int .i64 0), (.int .i64 0), (.bool false), (.int .u8 0)] := by kernel_rfl
@[go_sem] theorem tyField7_0 : tField Try.prog 7 0 = some (0, 2) := by kernel_rfl
@[go_sem] theorem tyField7_1 : tField Try.prog 7 1 = some (1, 3) := by kernel_rfl
@[go_sem] theorem tyField7_2 : tField Try.prog 7 2 = some (2, 4) := by kernel_rfl
@[go_sem] theorem tyField7_3 : tField Try.prog 7 3 = some (3, 6) := by kernel_rfl
@[go_sem] theorem tyFields7 : tFields Try.prog 7 = some [(0, 1), (1, 1), (2, 1), (3, 1)] := by kernel_rfl
@[go_sem] theorem tyStr7 : tStr Try.prog 7 = false := by kernel_rfl
@[go_sem] theorem tySize8 : tSize Try.prog 8 = some 4 := by kernel_rfl
@[go_sem] theorem tyRow8 : tRow Try.prog 8 = some true := by kernel_rfl
@[go_sem] theorem tyZero8 : tZero Try.prog 8 = some [(.int .i64 0), (.int .i64 0), (.bool false), (.int .u8 0)] := by kernel_rfl
@[go_sem] theorem tyField8_0 : tField Try.prog 8 0 = some (0, 2) := by kernel_rfl
@[go_sem] theorem tyField8_1 : tField Try.prog 8 1 = some (1, 3) := by kernel_rfl
@[go_sem] theorem tyField8_2 : tField Try.prog 8 2 = some (2, 4) := by kernel_rfl
@[go_sem] theorem tyField8_3 : tField Try.prog 8 3 = some (3, 6) := by kernel_rfl
@[go_sem] theorem tyFields8 : tFields Try.prog 8 = some [(0, 1), (1, 1), (2, 1), (3, 1)] := by kernel_rfl
@[go_sem] theorem tyStr8 : tStr Try.prog 8 = false := by kernel_rfl
@[go_sem] theorem tySize9 : tSize Try.prog 9 = some 1 := by kernel_rfl
@[go_sem] theorem tyRow9 : tRow Try.prog 9 = some false := by kernel_rfl
@[go_sem] theorem tyZero9 : tZero Try.prog 9 = some [(.string ⟨#[]⟩)] := by kernel_rfl
@[go_sem] theorem tyStr9 : tStr Try.prog 9 = true := by kernel_rfl
@[go_sem] theorem tySize10 : tSize Try.prog 10 = some 1 := by kernel_rfl
@[go_sem] theorem tyRow10 : tRow Try.prog 10 = some false := by kernel_rfl
@[go_sem] theorem tyZero10 : tZero Try.prog 10 = some [(.string ⟨#[]⟩)] := by kernel_rfl
@[go_sem] theorem tyStr10 : tStr Try.prog 10 = true := by kernel_rfl
@[go_sem] theorem tySize11 : tSize Try.prog 11 = some 1 := by kernel_rfl
@[go_sem] theorem tyRow11 : tRow Try.prog 11 = some false := by kernel_rfl
@[go_sem] theorem tyZero11 : tZero Try.prog 11 = some [(.string ⟨#[]⟩)] := by kernel_rfl
@[go_sem] theorem tyStr11 : tStr Try.prog 11 = true := by kernel_rfl
@[go_sem] theorem tySize12 : tSize Try.prog 12 = some 1 := by kernel_rfl
@[go_sem] theorem tyRow12 : tRow Try.prog 12 = some false := by kernel_rfl
@[go_sem] theorem tyZero12 : tZero Try.prog 12 = some [(.int .u64 0)] := by kernel_rfl
@[go_sem] theorem tyInt12 : tInt Try.prog 12 = some .u64 := by kernel_rfl
@[go_sem] theorem tyStr12 : tStr Try.prog 12 = false := by kernel_rfl
@[go_sem] theorem tySize13 : tSize Try.prog 13 = some 2 := by kernel_rfl
@[go_sem] theorem tyRow13 : tRow Try.prog 13 = some true := by kernel_rfl
@[go_sem] theorem tyZero13 : tZero Try.prog 13 = some [(.string ⟨#[]⟩), (.int .u64 0)] := by kernel_rfl
@[go_sem] theorem tyField13_0 : tField Try.prog 13 0 = some (0, 9) := by kernel_rfl
@[go_sem] theorem tyField13_1 : tField Try.prog 13 1 = some (1, 12) := by kernel_rfl
@[go_sem] theorem tyFields13 : tFields Try.prog 13 = some [(0, 1), (1, 1)] := by kernel_rfl
@[go_sem] theorem tyStr13 : tStr Try.prog 13 = false := by kernel_rfl
@[go_sem] theorem tySize14 : tSize Try.prog 14 = some 2 := by kernel_rfl
@[go_sem] theorem tyRow14 : tRow Try.prog 14 = some true := by kernel_rfl
@[go_sem] theorem tyZero14 : tZero Try.prog 14 = some [(.string ⟨#[]⟩), (.int .u64 0)] := by kernel_rfl
@[go_sem] theorem tyField14_0 : tField Try.prog 14 0 = some (0, 9) := by kernel_rfl
@[go_sem] theorem tyField14_1 : tField Try.prog 14 1 = some (1, 12) := by kernel_rfl
@[go_sem] theorem tyFields14 : tFields Try.prog 14 = some [(0, 1), (1, 1)] := by kernel_rfl
@[go_sem] theorem tyStr14 : tStr Try.prog 14 = false := by kernel_rfl
@[go_sem] theorem tySize15 : tSize Try.prog 15 = some 1 := by kernel_rfl
@[go_sem] theorem tyRow15 : tRow Try.prog 15 = some false := by kernel_rfl
@[go_sem] theorem tyZero15 : tZero Try.prog 15 = some [(.pointer none)] := by kernel_rfl
@[go_sem] theorem tyStr15 : tStr Try.prog 15 = false := by kernel_rfl
@[go_sem] theorem tySize16 : tSize Try.prog 16 = some 1 := by kernel_rfl
@[go_sem] theorem tyRow16 : tRow Try.prog 16 = some false := by kernel_rfl
@[go_sem] theorem tyZero16 : tZero Try.prog 16 = some [(.pointer none)] := by kernel_rfl
@[go_sem] theorem tyStr16 : tStr Try.prog 16 = false := by kernel_rfl
@[go_sem] theorem tySize17 : tSize Try.prog 17 = some 1 := by kernel_rfl
@[go_sem] theorem tyRow17 : tRow Try.prog 17 = some false := by kernel_rfl
@[go_sem] theorem tyZero17 : tZero Try.prog 17 = some [(.pointer none)] := by kernel_rfl
@[go_sem] theorem tyStr17 : tStr Try.prog 17 = false := by kernel_rfl
@[go_sem] theorem tySize18 : tSize Try.prog 18 = some 1 := by kernel_rfl
@[go_sem] theorem tyRow18 : tRow Try.prog 18 = some true := by kernel_rfl
@[go_sem] theorem tyZero18 : tZero Try.prog 18 = some [(.pointer none)] := by kernel_rfl
@[go_sem] theorem tyField18_0 : tField Try.prog 18 0 = some (0, 17) := by kernel_rfl
@[go_sem] theorem tyFields18 : tFields Try.prog 18 = some [(0, 1)] := by kernel_rfl
@[go_sem] theorem tyStr18 : tStr Try.prog 18 = false := by kernel_rfl
@[go_sem] theorem tySize19 : tSize Try.prog 19 = some 1 := by kernel_rfl
@[go_sem] theorem tyRow19 : tRow Try.prog 19 = some true := by kernel_rfl
@[go_sem] theorem tyZero19 : tZero Try.prog 19 = some [(.pointer none)] := by kernel_rfl
@[go_sem] theorem tyField19_0 : tField Try.prog 19 0 = some (0, 17) := by kernel_rfl
@[go_sem] theorem tyFields19 : tFields Try.prog 19 = some [(0, 1)] := by kernel_rfl
@[go_sem] theorem tyStr19 : tStr Try.prog 19 = false := by kernel_rfl
@[go_sem] theorem tySize21 : tSize Try.prog 21 = some 1 := by kernel_rfl
@[go_sem] theorem tyRow21 : tRow Try.prog 21 = some false := by kernel_rfl
@[go_sem] theorem tyZero21 : tZero Try.prog 21 = some [(.int .i32 0)] := by kernel_rfl
@[go_sem] theorem tyInt21 : tInt Try.prog 21 = some .i32 := by kernel_rfl
@[go_sem] theorem tyStr21 : tStr Try.prog 21 = false := by kernel_rfl
@[go_sem] theorem tySize23 : tSize Try.prog 23 = some 1 := by kernel_rfl
@[go_sem] theorem tyRow23 : tRow Try.prog 23 = some false := by kernel_rfl
@[go_sem] theorem tyZero23 : tZero Try.prog 23 = some [(.slice none 0 0)] := by kernel_rfl
@[go_sem] theorem tySlice23 : tSlice Try.prog 23 = some 5 := by kernel_rfl
@[go_sem] theorem tyStr23 : tStr Try.prog 23 = false := by kernel_rfl
@[go_sem] theorem tySize24 : tSize Try.prog 24 = some 1 := by kernel_rfl
@[go_sem] theorem tyRow24 : tRow Try.prog 24 = some false := by kernel_rfl
@[go_sem] theorem tyZero24 : tZero Try.prog 24 = some [(.slice none 0 0)] := by kernel_rfl
@[go_sem] theorem tySlice24 : tSlice Try.prog 24 = some 74 := by kernel_rfl
@[go_sem] theorem tyStr24 : tStr Try.prog 24 = false := by kernel_rfl
@[go_sem] theorem tySize25 : tSize Try.prog 25 = some 1 := by kernel_rfl
@[go_sem] theorem tyRow25 : tRow Try.prog 25 = some false := by kernel_rfl
@[go_sem] theorem tyZero25 : tZero Try.prog 25 = some [(.int .i64 0)] := by kernel_rfl
@[go_sem] theorem tyInt25 : tInt Try.prog 25 = some .i64 := by kernel_rfl
@[go_sem] theorem tyStr25 : tStr Try.prog 25 = false := by kernel_rfl
@[go_sem] theorem tySize28 : tSize Try.prog 28 = some 1 := by kernel_rfl
@[go_sem] theorem tyRow28 : tRow Try.prog 28 = some false := by kernel_rfl
@[go_sem] theorem tyZero28 : tZero Try.prog 28 = some [(.slice none 0 0)] := by kernel_rfl
@[go_sem] theorem tySlice28 : tSlice Try.prog 28 = some 3 := by kernel_rfl
@[go_sem] theorem tyStr28 : tStr Try.prog 28 = false := by kernel_rfl
@[go_sem] theorem tySize29 : tSize Try.prog 29 = some 1 := by kernel_rfl
@[go_sem] theorem tyRow29 : tRow Try.prog 29 = some false := by kernel_rfl
@[go_sem] theorem tyZero29 : tZero Try.prog 29 = some [(.slice none 0 0)] := by kernel_rfl
@[go_sem] theorem tySlice29 : tSlice Try.prog 29 = some 23 := by kernel_rfl
@[go_sem] theorem tyStr29 : tStr Try.prog 29 = false := by kernel_rfl
@[go_sem] theorem tySize31 : tSize Try.prog 31 = some 5 := by kernel_rfl
@[go_sem] theorem tyRow31 : tRow Try.prog 31 = some true := by kernel_rfl
@[go_sem] theorem tyZero31 : tZero Try.prog 31 = some [(.int .i64 0), (.int .i64 0), (.int .i64 0), (.int .i64 0), (.int .i64 0)] := by kernel_rfl
@[go_sem] theorem tyField31_0 : tField Try.prog 31 0 = some (0, 3) := by kernel_rfl
@[go_sem] theorem tyField31_1 : tField Try.prog 31 1 = some (1, 3) := by kernel_rfl
@[go_sem] theorem tyField31_2 : tField Try.prog 31 2 = some (2, 3) := by kernel_rfl
@[go_sem] theorem tyField31_3 : tField Try.prog 31 3 = some (3, 3) := by kernel_rfl
@[go_sem] theorem tyField31_4 : tField Try.prog 31 4 = some (4, 3) := by kernel_rfl
@[go_sem] theorem tyFields31 : tFields Try.prog 31 = some [(0, 1), (1, 1), (2, 1), (3, 1), (4, 1)] := by kernel_rfl
@[go_sem] theorem tyStr31 : tStr Try.prog 31 = false := by kernel_rfl
@[go_sem] theorem tySize32 : tSize Try.prog 32 = some 5 := by kernel_rfl
@[go_sem] theorem tyRow32 : tRow Try.prog 32 = some true := by kernel_rfl
@[go_sem] theorem tyZero32 : tZero Try.prog 32 = some [(.int .i64 0), (.int .i64 0), (.int .i64 0), (.int .i64 0), (.int .i64 0)] := by kernel_rfl
@[go_sem] theorem tyField32_0 : tField Try.prog 32 0 = some (0, 3) := by kernel_rfl
@[go_sem] theorem tyField32_1 : tField Try.prog 32 1 = some (1, 3) := by kernel_rfl
@[go_sem] theorem tyField32_2 : tField Try.prog 32 2 = some (2, 3) := by kernel_rfl
@[go_sem] theorem tyField32_3 : tField Try.prog 32 3 = some (3, 3) := by kernel_rfl
@[go_sem] theorem tyField32_4 : tField Try.prog 32 4 = some (4, 3) := by kernel_rfl
@[go_sem] theorem tyFields32 : tFields Try.prog 32 = some [(0, 1), (1, 1), (2, 1), (3, 1), (4, 1)] := by kernel_rfl
@[go_sem] theorem tyStr32 : tStr Try.prog 32 = false := by kernel_rfl
@[go_sem] theorem tySize34 : tSize Try.prog 34 = some 1 := by kernel_rfl
@[go_sem] theorem tyRow34 : tRow Try.prog 34 = some false := by kernel_rfl
@[go_sem] theorem tyZero34 : tZero Try.prog 34 = some [(.slice none 0 0)] := by kernel_rfl
@[go_sem] theorem tySlice34 : tSlice Try.prog 34 = some 61 := by kernel_rfl
@[go_sem] theorem tyStr34 : tStr Try.prog 34 = false := by kernel_rfl
@[go_sem] theorem tySize35 : tSize Try.prog 35 = some 1 := by kernel_rfl
@[go_sem] theorem tyRow35 : tRow Try.prog 35 = some false := by kernel_rfl
@[go_sem] theorem tyZero35 : tZero Try.prog 35 = some [(.slice none 0 0)] := by kernel_rfl
@[go_sem] theorem tySlice35 : tSlice Try.prog 35 = some 104 := by kernel_rfl
@[go_sem] theorem tyStr35 : tStr Try.prog 35 = false := by kernel_rfl
@[go_sem] theorem tySize36 : tSize Try.prog 36 = some 4 := by kernel_rfl
@[go_sem] theorem tyRow36 : tRow Try.prog 36 = some true := by kernel_rfl
@[go_sem] theorem tyZero36 : tZero Try.prog 36 = some [(.slice none 0 0), (.slice none 0 0), (.slice none 0 0), (.int .i64 0)] := by kernel_rfl
@[go_sem] theorem tyField36_0 : tField Try.prog 36 0 = some (0, 29) := by kernel_rfl
@[go_sem] theorem tyField36_1 : tField Try.prog 36 1 = some (1, 34) := by kernel_rfl
@[go_sem] theorem tyField36_2 : tField Try.prog 36 2 = some (2, 35) := by kernel_rfl
@[go_sem] theorem tyField36_3 : tField Try.prog 36 3 = some (3, 3) := by kernel_rfl
@[go_sem] theorem tyFields36 : tFields Try.prog 36 = some [(0, 1), (1, 1), (2, 1), (3, 1)] := by kernel_rfl
@[go_sem] theorem tyStr36 : tStr Try.prog 36 = false := by kernel_rfl
@[go_sem] theorem tySize37 : tSize Try.prog 37 = some 4 := by kernel_rfl
@[go_sem] theorem tyRow37 : tRow Try.prog 37 = some true := by kernel_rfl
@[go_sem] theorem tyZero37 : tZero Try.prog 37 = some [(.slice none 0 0), (.slice none 0 0), (.slice none 0 0), (.int .i64 0)] := by kernel_rfl
@[go_sem] theorem tyField37_0 : tField Try.prog 37 0 = some (0, 29) := by kernel_rfl
@[go_sem] theorem tyField37_1 : tField Try.prog 37 1 = some (1, 34) := by kernel_rfl
@[go_sem] theorem tyField37_2 : tField Try.prog 37 2 = some (2, 35) := by kernel_rfl
@[go_sem] theorem tyField37_3 : tField Try.prog 37 3 = some (3, 3) := by kernel_rfl
@[go_sem] theorem tyFields37 : tFields Try.prog 37 = some [(0, 1), (1, 1), (2, 1), (3, 1)] := by kernel_rfl
@[go_sem] theorem tyStr37 : tStr Try.prog 37 = false := by kernel_rfl
@[go_sem] theorem tySize48 : tSize Try.prog 48 = some 1 := by kernel_rfl
@[go_sem] theorem tyRow48 : tRow Try.prog 48 = some false := by kernel_rfl
@[go_sem] theorem tyZero48 : tZero Try.prog 48 = some [(.slice none 0 0)] := by kernel_rfl
@[go_sem] theorem tySlice48 : tSlice Try.prog 48 = some 58 := by kernel_rfl
@[go_sem] theorem tyStr48 : tStr Try.prog 48 = false := by kernel_rfl
@[go_sem] theorem tySize51 : tSize Try.prog 51 = some 1 := by kernel_rfl
@[go_sem] theorem tyRow51 : tRow Try.prog 51 = some false := by kernel_rfl
@[go_sem] theorem tyZero51 : tZero Try.prog 51 = some [(.slice none 0 0)] := by kernel_rfl
@[go_sem] theorem tySlice51 : tSlice Try.prog 51 = some 4 := by kernel_rfl
@[go_sem] theorem tyStr51 : tStr Try.prog 51 = false := by kernel_rfl
@[go_sem] theorem tySize57 : tSize Try.prog 57 = some 6 := by kernel_rfl
@[go_sem] theorem tyRow57 : tRow Try.prog 57 = some true := by kernel_rfl
@[go_sem] theorem tyZero57 : tZero Try.prog 57 = some [(.int .i64 0), (.int .i64 0), (.int .i64 0), (.int .i64 0), (.int .i64 0), (.string ⟨#[]⟩)] := by kernel_rfl
@[go_sem] theorem tyField57_0 : tField Try.prog 57 0 = some (0, 3) := by kernel_rfl
@[go_sem] theorem tyField57_1 : tField Try.prog 57 1 = some (1, 3) := by kernel_rfl
@[go_sem] theorem tyField57_2 : tField Try.prog 57 2 = some (2, 3) := by kernel_rfl
@[go_sem] theorem tyField57_3 : tField Try.prog 57 3 = some (3, 3) := by kernel_rfl
@[go_sem] theorem tyField57_4 : tField Try.prog 57 4 = some (4, 3) := by kernel_rfl
@[go_sem] theorem tyField57_5 : tField Try.prog 57 5 = some (5, 9) := by kernel_rfl
@[go_sem] theorem tyFields57 : tFields Try.prog 57 = some [(0, 1), (1, 1), (2, 1), (3, 1), (4, 1), (5, 1)] := by kernel_rfl
@[go_sem] theorem tyStr57 : tStr Try.prog 57 = false := by kernel_rfl
@[go_sem] theorem tySize58 : tSize Try.prog 58 = some 6 := by kernel_rfl
@[go_sem] theorem tyRow58 : tRow Try.prog 58 = some true := by kernel_rfl
@[go_sem] theorem tyZero58 : tZero Try.prog 58 = some [(.int .i64 0), (.int .i64 0), (.int .i64 0), (.int .i64 0), (.int .i64 0), (.string ⟨#[]⟩)] := by kernel_rfl
@[go_sem] theorem tyField58_0 : tField Try.prog 58 0 = some (0, 3) := by kernel_rfl
@[go_sem] theorem tyField58_1 : tField Try.prog 58 1 = some (1, 3) := by kernel_rfl
@[go_sem] theorem tyField58_2 : tField Try.prog 58 2 = some (2, 3) := by kernel_rfl
@[go_sem] theorem tyField58_3 : tField Try.prog 58 3 = some (3, 3) := by kernel_rfl
@[go_sem] theorem tyField58_4 : tField Try.prog 58 4 = some (4, 3) := by kernel_rfl
@[go_sem] theorem tyField58_5 : tField Try.prog 58 5 = some (5, 9) := by kernel_rfl
@[go_sem] theorem tyFields58 : tFields Try.prog 58 = some [(0, 1), (1, 1), (2, 1), (3, 1), (4, 1), (5, 1)] := by kernel_rfl
@[go_sem] theorem tyStr58 : tStr Try.prog 58 = false := by kernel_rfl
@[go_sem] theorem tySize60 : tSize Try.prog 60 = some 2 := by kernel_rfl
@[go_sem] theorem tyRow60 : tRow Try.prog 60 = some true := by kernel_rfl
@[go_sem] theorem tyZero60 : tZero Try.prog 60 = some [(.int .i64 0), (.slice none 0 0)] := by kernel_rfl
@[go_sem] theorem tyField60_0 : tField Try.prog 60 0 = some (0, 3) := by kernel_rfl
@[go_sem] theorem tyField60_1 : tField Try.prog 60 1 = some (1, 23) := by kernel_rfl
@[go_sem] theorem tyFields60 : tFields Try.prog 60 = some [(0, 1), (1, 1)] := by kernel_rfl
@[go_sem] theorem tyStr60 : tStr Try.prog 60 = false := by kernel_rfl
@[go_sem] theorem tySize61 : tSize Try.prog 61 = some 2 := by kernel_rfl
@[go_sem] theorem tyRow61 : tRow Try.prog 61 = some true := by kernel_rfl
@[go_sem] theorem tyZero61 : tZero Try.prog 61 = some [(.int .i64 0), (.slice none 0 0)] := by kernel_rfl
@[go_sem] theorem tyField61_0 : tField Try.prog 61 0 = some (0, 3) := by kernel_rfl
@[go_sem] theorem tyField61_1 : tField Try.prog 61 1 = some (1, 23) := by kernel_rfl
@[go_sem] theorem tyFields61 : tFields Try.prog 61 = some [(0, 1), (1, 1)] := by kernel_rfl
@[go_sem] theorem tyStr61 : tStr Try.prog 61 = false := by kernel_rfl
@[go_sem] theorem tySize70 : tSize Try.prog 70 = some 1 := by kernel_rfl
@[go_sem] theorem tyRow70 : tRow Try.prog 70 = some false := by kernel_rfl
@[go_sem] theorem tyZero70 : tZero Try.prog 70 = some [(.slice none 0 0)] := by kernel_rfl
@[go_sem] theorem tySlice70 : tSlice Try.prog 70 = some 28 := by kernel_rfl
@[go_sem] theorem tyStr70 : tStr Try.prog 70 = false := by kernel_rfl
@[go_sem] theorem tySize73 : tSize Try.prog 73 = some 3 := by kernel_rfl
@[go_sem] theorem tyRow73 : tRow Try.prog 73 = some true := by kernel_rfl
@[go_sem] theorem tyZero73 : tZero Try.prog 73 = some [(.int .i64 0), (.int .i64 0), (.int .i64 0)] := by kernel_rfl
@[go_sem] theorem tyField73_0 : tField Try.prog 73 0 = some (0, 3) := by kernel_rfl
@[go_sem] theorem tyField73_1 : tField Try.prog 73 1 = some (1, 3) := by kernel_rfl
@[go_sem] theorem tyField73_2 : tField Try.prog 73 2 = some (2, 3) := by kernel_rfl
@[go_sem] theorem tyFields73 : tFields Try.prog 73 = some [(0, 1), (1, 1), (2, 1)] := by kernel_rfl
@[go_sem] theorem tyStr73 : tStr Try.prog 73 = false := by kernel_rfl
@[go_sem] theorem tySize74 : tSize Try.prog 74 = some 3 := by kernel_rfl
@[go_sem] theorem tyRow74 : tRow Try.prog 74 = some true := by kernel_rfl
@[go_sem] theorem tyZero74 : tZero Try.prog 74 = some [(.int .i64 0), (.int .i64 0), (.int .i64 0)] := by kernel_rfl
@[go_sem] theorem tyField74_0 : tField Try.prog 74 0 = some (0, 3) := by kernel_rfl
@[go_sem] theorem tyField74_1 : tField Try.prog 74 1 = some (1, 3) := by kernel_rfl
@[go_sem] theorem tyField74_2 : tField Try.prog 74 2 = some (2, 3) := by kernel_rfl
@[go_sem] theorem tyFields74 : tFields Try.prog 74 = some [(0, 1), (1, 1), (2, 1)] := by kernel_rfl
@[go_sem] theorem tyStr74 : tStr Try.prog 74 = false := by kernel_rfl
@[go_sem] theorem tySize80 : tSize Try.prog 80 = some 9 := by kernel_rfl
@[go_sem] theorem tyRow80 : tRow Try.prog 80 = some true := by kernel_rfl
@[go_sem] theorem tyZero80 : tZero Try.prog 80 = some [(.int .i64 0), (.int .i64 0), (.int .i64 0), (.int .i64 0), (.int .i64 0), (.int .i64 0), (.int .i64 0), (.int .i64 0), (.int .i64 0)] := by kernel_rfl
@[go_sem] theorem tyField80_0 : tField Try.prog 80 0 = some (0, 3) := by kernel_rfl
@[go_sem] theorem tyField80_1 : tField Try.prog 80 1 = some (1, 3) := by kernel_rfl
@[go_sem] theorem tyField80_2 : tField Try.prog 80 2 = some (2, 3) := by kernel_rfl
@[go_sem] theorem tyField80_3 : tField Try.prog 80 3 = some (3, 3) := by kernel_rfl
@[go_sem] theorem tyField80_4 : tField Try.prog 80 4 = some (4, 3) := by kernel_rfl
@[go_sem] theorem tyField80_5 : tField Try.prog 80 5 = some (5, 3) := by kernel_rfl
@[go_sem] theorem tyField80_6 : tField Try.prog 80 6 = some (6, 3) := by kernel_rfl
@[go_sem] theorem tyField80_7 : tField Try.prog 80 7 = some (7, 3) := by kernel_rfl
@[go_sem] theorem tyField80_8 : tField Try.prog 80 8 = some (8, 3) := by kernel_rfl
@[go_sem] theorem tyFields80 : tFields Try.prog 80 = some [(0, 1), (1, 1), (2, 1), (3, 1), (4, 1), (5, 1), (6, 1), (7, 1), (8, 1)] := by kernel_rfl
@[go_sem] theorem tyStr80 : tStr Try.prog 80 = false := by kernel_rfl
@[go_sem] theorem tySize81 : tSize Try.prog 81 = some 9 := by kernel_rfl
@[go_sem] theorem tyRow81 : tRow Try.prog 81 = some true := by kernel_rfl
@[go_sem] theorem tyZero81 : tZero Try.prog 81 = some [(.int .i64 0), (.int .i64 0), (.int .i64 0), (.int .i64 0), (.int .i64 0), (.int .i64 0), (.int .i64 0), (.int .i64 0), (.int .i64 0)] := by kernel_rfl
@[go_sem] theorem tyField81_0 : tField Try.prog 81 0 = some (0, 3) := by kernel_rfl
@[go_sem] theorem tyField81_1 : tField Try.prog 81 1 = some (1, 3) := by kernel_rfl
@[go_sem] theorem tyField81_2 : tField Try.prog 81 2 = some (2, 3) := by kernel_rfl
@[go_sem] theorem tyField81_3 : tField Try.prog 81 3 = some (3, 3) := by kernel_rfl
@[go_sem] theorem tyField81_4 : tField Try.prog 81 4 = some (4, 3) := by kernel_rfl
@[go_sem] theorem tyField81_5 : tField Try.prog 81 5 = some (5, 3) := by kernel_rfl
@[go_sem] theorem tyField81_6 : tField Try.prog 81 6 = some (6, 3) := by kernel_rfl
@[go_sem] theorem tyField81_7 : tField Try.prog 81 7 = some (7, 3) := by kernel_rfl
@[go_sem] theorem tyField81_8 : tField Try.prog 81 8 = some (8, 3) := by kernel_rfl
@[go_sem] theorem tyFields81 : tFields Try.prog 81 = some [(0, 1), (1, 1), (2, 1), (3, 1), (4, 1), (5, 1), (6, 1), (7, 1), (8, 1)] := by kernel_rfl
@[go_sem] theorem tyStr81 : tStr Try.prog 81 = false := by kernel_rfl
@[go_sem] theorem tySize93 : tSize Try.prog 93 = some 1 := by kernel_rfl
@[go_sem] theorem tyRow93 : tRow Try.prog 93 = some false := by kernel_rfl
@[go_sem] theorem tyZero93 : tZero Try.prog 93 = some [(.slice none 0 0)] := by kernel_rfl
@[go_sem] theorem tySlice93 : tSlice Try.prog 93 = some 9 := by kernel_rfl
@[go_sem] theorem tyStr93 : tStr Try.prog 93 = false := by kernel_rfl
@[go_sem] theorem tySize103 : tSize Try.prog 103 = some 3 := by kernel_rfl
@[go_sem] theorem tyRow103 : tRow Try.prog 103 = some true := by kernel_rfl
@[go_sem] theorem tyZero103 : tZero Try.prog 103 = some [(.slice none 0 0), (.int .i64 0), (.bool false)] := by kernel_rfl
@[go_sem] theorem tyField103_0 : tField Try.prog 103 0 = some (0, 23) := by kernel_rfl
@[go_sem] theorem tyField103_1 : tField Try.prog 103 1 = some (1, 3) := by kernel_rfl
@[go_sem] theorem tyField103_2 : tField Try.prog 103 2 = some (2, 4) := by kernel_rfl
@[go_sem] theorem tyFields103 : tFields Try.prog 103 = some [(0, 1), (1, 1), (2, 1)] := by kernel_rfl
@[go_sem] theorem tyStr103 : tStr Try.prog 103 = false := by kernel_rfl
@[go_sem] theorem tySize104 : tSize Try.prog 104 = some 3 := by kernel_rfl
@[go_sem] theorem tyRow104 : tRow Try.prog 104 = some true := by kernel_rfl
@[go_sem] theorem tyZero104 : tZero Try.prog 104 = some [(.slice none 0 0), (.int .i64 0), (.bool false)] := by kernel_rfl
@[go_sem] theorem tyField104_0 : tField Try.prog 104 0 = some (0, 23) := by kernel_rfl
@[go_sem] theorem tyField104_1 : tField Try.prog 104 1 = some (1, 3) := by kernel_rfl
@[go_sem] theorem tyField104_2 : tField Try.prog 104 2 = some (2, 4) := by kernel_rfl
@[go_sem] theorem tyFields104 : tFields Try.prog 104 = some [(0, 1), (1, 1), (2, 1)] := by kernel_rfl
@[go_sem] theorem tyStr104 : tStr Try.prog 104 = false := by kernel_rfl
@[go_sem] theorem tySize113 : tSize Try.prog 113 = some 3 := by kernel_rfl
@[go_sem] theorem tyRow113 : tRow Try.prog 113 = some true := by kernel_rfl
@[go_sem] theorem tyZero113 : tZero Try.prog 113 = some [(.int .i64 0), (.int .i64 0), (.int .i64 0)] := by kernel_rfl
@[go_sem] theorem tyStr113 : tStr Try.prog 113 = false := by kernel_rfl
@[go_sem] theorem tySize114 : tSize Try.prog 114 = some 1 := by kernel_rfl
@[go_sem] theorem tyRow114 : tRow Try.prog 114 = some false := by kernel_rfl
@[go_sem] theorem tyZero114 : tZero Try.prog 114 = some [(.slice none 0 0)] := by kernel_rfl
@[go_sem] theorem tySlice114 : tSlice Try.prog 114 = some 113 := by kernel_rfl
@[go_sem] theorem tyStr114 : tStr Try.prog 114 = false := by kernel_rfl
@[go_sem] theorem tySize121 : tSize Try.prog 121 = some 1 := by kernel_rfl
@[go_sem] theorem tyRow121 : tRow Try.prog 121 = some false := by kernel_rfl
@[go_sem] theorem tyZero121 : tZero Try.prog 121 = some [(.pointer none)] := by kernel_rfl
@[go_sem] theorem tyStr121 : tStr Try.prog 121 = false := by kernel_rfl
@[go_sem] theorem tySize122 : tSize Try.prog 122 = some 10 := by kernel_rfl
@[go_sem] theorem tyRow122 : tRow Try.prog 122 = some true := by kernel_rfl
@[go_sem] theorem tyZero122 : tZero Try.prog 122 = some [(.int .i64 0), (.int .i64 0), (.int .i64 0), (.int .i64 0), (.int .i64 0), (.slice none 0 0), (.slice none 0 0), (.slice none 0 0), (.int .i64 0), (.int .i64 0)] := by kernel_rfl
@[go_sem] theorem tyField122_0 : tField Try.prog 122 0 = some (0, 32) := by kernel_rfl
@[go_sem] theorem tyField122_1 : tField Try.prog 122 1 = some (5, 37) := by kernel_rfl
@[go_sem] theorem tyField122_2 : tField Try.prog 122 2 = some (9, 25) := by kernel_rfl
@[go_sem] theorem tyFields122 : tFields Try.prog 122 = some [(0, 5), (5, 4), (9, 1)] := by kernel_rfl
@[go_sem] theorem tyStr122 : tStr Try.prog 122 = false := by kernel_rfl
@[go_sem] theorem tySize123 : tSize Try.prog 123 = some 10 := by kernel_rfl
@[go_sem] theorem tyRow123 : tRow Try.prog 123 = some true := by kernel_rfl
@[go_sem] theorem tyZero123 : tZero Try.prog 123 = some [(.int .i64 0), (.int .i64 0), (.int .i64 0), (.int .i64 0), (.int .i64 0), (.slice none 0 0), (.slice none 0 0), (.slice none 0 0), (.int .i64 0), (.int .i64 0)] := by kernel_rfl
@[go_sem] theorem tyField123_0 : tField Try.prog 123 0 = some (0, 32) := by kernel_rfl
@[go_sem] theorem tyField123_1 : tField Try.prog 123 1 = some (5, 37) := by kernel_rfl
@[go_sem] theorem tyField123_2 : tField Try.prog 123 2 = some (9, 25) := by kernel_rfl
@[go_sem] theorem tyFields123 : tFields Try.prog 123 = some [(0, 5), (5, 4), (9, 1)] := by kernel_rfl
@[go_sem] theorem tyStr123 : tStr Try.prog 123 = false := by kernel_rfl
@[go_sem] theorem tySize124 : tSize Try.prog 124 = some 5 := by kernel_rfl
@[go_sem] theorem tyRow124 : tRow Try.prog 124 = some true := by kernel_rfl
@[go_sem] theorem tyZero124 : tZero Try.prog 124 = some [(.int .i64 0), (.int .i64 0), (.int .i64 0), (.bool false), (.slice none 0 0)] := by kernel_rfl
@[go_sem] theorem tyField124_0 : tField Try.prog 124 0 = some (0, 3) := by kernel_rfl
@[go_sem] theorem tyField124_1 : tField Try.prog 124 1 = some (1, 3) := by kernel_rfl
@[go_sem] theorem tyField124_2 : tField Try.prog 124 2 = some (2, 3) := by kernel_rfl
@[go_sem] theorem tyField124_3 : tField Try.prog 124 3 = some (3, 4) := by kernel_rfl
@[go_sem] theorem tyField124_4 : tField Try.prog 124 4 = some (4, 23) := by kernel_rfl
@[go_sem] theorem tyFields124 : tFields Try.prog 124 = some [(0, 1), (1, 1), (2, 1), (3, 1), (4, 1)] := by kernel_rfl
@[go_sem] theorem tyStr124 : tStr Try.prog 124 = false := by kernel_rfl
@[go_sem] theorem tySize125 : tSize Try.prog 125 = some 5 := by kernel_rfl
@[go_sem] theorem tyRow125 : tRow Try.prog 125 = some true := by kernel_rfl
@[go_sem] theorem tyZero125 : tZero Try.prog 125 = some [(.int .i64 0), (.int .i64 0), (.int .i64 0), (.bool false), (.slice none 0 0)] := by kernel_rfl
@[go_sem] theorem tyField125_0 : tField Try.prog 125 0 = some (0, 3) := by kernel_rfl
@[go_sem] theorem tyField125_1 : tField Try.prog 125 1 = some (1, 3) := by kernel_rfl
@[go_sem] theorem tyField125_2 : tField Try.prog 125 2 = some (2, 3) := by kernel_rfl
@[go_sem] theorem tyField125_3 : tField Try.prog 125 3 = some (3, 4) := by kernel_rfl
@[go_sem] theorem tyField125_4 : tField Try.prog 125 4 = some (4, 23) := by kernel_rfl
@[go_sem] theorem tyFields125 : tFields Try.prog 125 = some [(0, 1), (1, 1), (2, 1), (3, 1), (4, 1)] := by kernel_rfl
@[go_sem] theorem tyStr125 : tStr Try.prog 125 = false := by kernel_rfl
@[go_sem] theorem tySize136 : tSize Try.prog 136 = some 1 := by kernel_rfl
@[go_sem] theorem tyRow136 : tRow Try.prog 136 = some false := by kernel_rfl
@[go_sem] theorem tyZero136 : tZero Try.prog 136 = some [(.int .u64 0)] := by kernel_rfl
@[go_sem] theorem tyInt136 : tInt Try.prog 136 = some .u64 := by kernel_rfl
@[go_sem] theorem tyStr136 : tStr Try.prog 136 = false := by kernel_rfl
@[go_sem] theorem tySize148 : tSize Try.prog 148 = some 4 := by kernel_rfl
@[go_sem] theorem tyRow148 : tRow Try.prog 148 = some true := by kernel_rfl
@[go_sem] theorem tyZero148 : tZero Try.prog 148 = some [(.pointer none), (.pointer none), (.pointer none), (.string ⟨#[]⟩)] := by kernel_rfl
@[go_sem] theorem tyField148_0 : tField Try.prog 148 0 = some (0, 17) := by kernel_rfl
@[go_sem] theorem tyField148_1 : tField Try.prog 148 1 = some (1, 17) := by kernel_rfl
@[go_sem] theorem tyField148_2 : tField Try.prog 148 2 = some (2, 17) := by kernel_rfl
@[go_sem] theorem tyField148_3 : tField Try.prog 148 3 = some (3, 9) := by kernel_rfl
@[go_sem] theorem tyFields148 : tFields Try.prog 148 = some [(0, 1), (1, 1), (2, 1), (3, 1)] := by kernel_rfl
@[go_sem] theorem tyStr148 : tStr Try.prog 148 = false := by kernel_rfl
@[go_sem] theorem tySize149 : tSize Try.prog 149 = some 4 := by kernel_rfl
@[go_sem] theorem tyRow149 : tRow Try.prog 149 = some true := by kernel_rfl
@[go_sem] theorem tyZero149 : tZero Try.prog 149 = some [(.pointer none), (.pointer none), (.pointer none), (.string ⟨#[]⟩)] := by kernel_rfl
@[go_sem] theorem tyField149_0 : tField Try.prog 149 0 = some (0, 17) := by kernel_rfl
@[go_sem] theorem tyField149_1 : tField Try.prog 149 1 = some (1, 17) := by kernel_rfl
@[go_sem] theorem tyField149_2 : tField Try.prog 149 2 = some (2, 17) := by kernel_rfl
@[go_sem] theorem tyField149_3 : tField Try.prog 149 3 = some (3, 9) := by kernel_rfl
@[go_sem] theorem tyFields149 : tFields Try.prog 149 = some [(0, 1), (1, 1), (2, 1), (3, 1)] := by kernel_rfl
@[go_sem] theorem tyStr149 : tStr Try.prog 149 = false := by kernel_rfl
@[go_sem] theorem tySize150 : tSize Try.prog 150 = some 0 := by kernel_rfl
@[go_sem] theorem tyRow150 : tRow Try.prog 150 = some true := by kernel_rfl
@[go_sem] theorem tyStr150 : tStr Try.prog 150 = false := by kernel_rfl
@[go_sem] theorem tySize151 : tSize Try.prog 151 = some 0 := by kernel_rfl
@[go_sem] theorem tyRow151 : tRow Try.prog 151 = some true := by kernel_rfl
@[go_sem] theorem tyField151_0 : tField Try.prog 151 0 = some (0, 150) := by kernel_rfl
@[go_sem] theorem tyFields151 : tFields Try.prog 151 = some [(0, 0)] := by kernel_rfl
@[go_sem] theorem tyStr151 : tStr Try.prog 151 = false := by kernel_rfl
@[go_sem] theorem tySize152 : tSize Try.prog 152 = some 0 := by kernel_rfl
@[go_sem] theorem tyRow152 : tRow Try.prog 152 = some true := by kernel_rfl
@[go_sem] theorem tyField152_0 : tField Try.prog 152 0 = some (0, 150) := by kernel_rfl
@[go_sem] theorem tyFields152 : tFields Try.prog 152 = some [(0, 0)] := by kernel_rfl
@[go_sem] theorem tyStr152 : tStr Try.prog 152 = false := by kernel_rfl
@[go_sem] theorem tySize154 : tSize Try.prog 154 = some 1 := by kernel_rfl
@[go_sem] theorem tyRow154 : tRow Try.prog 154 = some false := by kernel_rfl
@[go_sem] theorem tyZero154 : tZero Try.prog 154 = some [(.int .u32 0)] := by kernel_rfl
@[go_sem] theorem tyInt154 : tInt Try.prog 154 = some .u32 := by kernel_rfl
@[go_sem] theorem tyStr154 : tStr Try.prog 154 = false := by kernel_rfl
@[go_sem] theorem tySize155 : tSize Try.prog 155 = some 1 := by kernel_rfl
@[go_sem] theorem tyRow155 : tRow Try.prog 155 = some false := by kernel_rfl
@[go_sem] theorem tyZero155 : tZero Try.prog 155 = some [(.int .u8 0)] := by kernel_rfl
@[go_sem] theorem tyInt155 : tInt Try.prog 155 = some .u8 := by kernel_rfl
@[go_sem] theorem tyStr155 : tStr Try.prog 155 = false := by kernel_rfl
@[go_sem] theorem tySize156 : tSize Try.prog 156 = some 1 := by kernel_rfl
@[go_sem] theorem tyRow156 : tRow Try.prog 156 = some false := by kernel_rfl
@[go_sem] theorem tyZero156 : tZero Try.prog 156 = some [(.int .u8 0)] := by kernel_rfl
@[go_sem] theorem tyInt156 : tInt Try.prog 156 = some .u8 := by kernel_rfl
@[go_sem] theorem tyStr156 : tStr Try.prog 156 = false := by kernel_rfl
@[go_sem] theorem tySize158 : tSize Try.prog 158 = some 1 := by kernel_rfl
@[go_sem] theorem tyRow158 : tRow Try.prog 158 = some false := by kernel_rfl
@[go_sem] theorem tyZero158 : tZero Try.prog 158 = some [(.pointer none)] := by kernel_rfl
@[go_sem] theorem tyStr158 : tStr Try.prog 158 = false := by kernel_rfl
@[go_sem] theorem tySize159 : tSize Try.prog 159 = some 1 := by kernel_rfl
@[go_sem] theorem tyRow159 : tRow Try.prog 159 = some false := by kernel_rfl
@[go_sem] theorem tyZero159 : tZero Try.prog 159 = some [(.int .i32 0)] := by kernel_rfl
@[go_sem] theorem tyInt159 : tInt Try.prog 159 = some .i32 := by kernel_rfl
@[go_sem] theorem tyStr159 : tStr Try.prog 159 = false := by kernel_rfl
@[go_sem] theorem tySize160 : tSize Try.prog 160 = some 1 := by kernel_rfl
@[go_sem] theorem tyRow160 : tRow Try.prog 160 = some false := by kernel_rfl
@[go_sem] theorem tyZero160 : tZero Try.prog 160 = some [(.int .i32 0)] := by kernel_rfl
@[go_sem] theorem tyInt160 : tInt Try.prog 160 = some .i32 := by kernel_rfl
@[go_sem] theorem tyStr160 : tStr Try.prog 160 = false := by kernel_rfl
@[go_sem] theorem tySize161 : tSize Try.prog 161 = some 11 := by kernel_rfl
@[go_sem] theorem tyRow161 : tRow Try.prog 161 = some true := by kernel_rfl
@[go_sem] theorem tyZero161 : tZero Try.prog 161 = some [(.int .u64 0), (.int .u64 0), (.int .u32 0), (.int .u8 0), (.int .u8 0), (.int .u8 0), (.int .u8 0), .nilFunc, (.pointer none), (.int .i32 0), (.int .i32 0)] := by kernel_rfl
@[go_sem] theorem tyField161_0 : tField Try.prog 161 0 = some (0, 12) := by kernel_rfl
@[go_sem] theorem tyField161_1 : tField Try.prog 161 1 = some (1, 12) := by kernel_rfl
@[go_sem] theorem tyField161_2 : tField Try.prog 161 2 = some (2, 154) := by kernel_rfl
@[go_sem] theorem tyField161_3 : tField Try.prog 161 3 = some (3, 155) := by kernel_rfl
@[go_sem] theorem tyField161_4 : tField Try.prog 161 4 = some (4, 5) := by kernel_rfl
@[go_sem] theorem tyField161_5 : tField Try.prog 161 5 = some (5, 5) := by kernel_rfl
@[go_sem] theorem tyField161_6 : tField Try.prog 161 6 = some (6, 156) := by kernel_rfl
@[go_sem] theorem tyField161_7 : tField Try.prog 161 7 = some (7, 157) := by kernel_rfl
@[go_sem] theorem tyField161_8 : tField Try.prog 161 8 = some (8, 158) := by kernel_rfl
@[go_sem] theorem tyField161_9 : tField Try.prog 161 9 = some (9, 159) := by kernel_rfl
@[go_sem] theorem tyField161_10 : tField Try.prog 161 10 = some (10, 160) := by kernel_rfl
@[go_sem] theorem tyFields161 : tFields Try.prog 161 = some [(0, 1), (1, 1), (2, 1), (3, 1), (4, 1), (5, 1), (6, 1), (7, 1), (8, 1), (9, 1), (10, 1)] := by kernel_rfl
@[go_sem] theorem tyStr161 : tStr Try.prog 161 = false := by kernel_rfl
@[go_sem] theorem tySize162 : tSize Try.prog 162 = some 11 := by kernel_rfl
@[go_sem] theorem tyRow162 : tRow Try.prog 162 = some true := by kernel_rfl
@[go_sem] theorem tyZero162 : tZero Try.prog 162 = some [(.int .u64 0), (.int .u64 0), (.int .u32 0), (.int .u8 0), (.int .u8 0), (.int .u8 0), (.int .u8 0), .nilFunc, (.pointer none), (.int .i32 0), (.int .i32 0)] := by kernel_rfl
@[go_sem] theorem tyField162_0 : tField Try.prog 162 0 = some (0, 12) := by kernel_rfl
@[go_sem] theorem tyField162_1 : tField Try.prog 162 1 = some (1, 12) := by kernel_rfl
@[go_sem] theorem tyField162_2 : tField Try.prog 162 2 = some (2, 154) := by kernel_rfl
@[go_sem] theorem tyField162_3 : tField Try.prog 162 3 = some (3, 155) := by kernel_rfl
@[go_sem] theorem tyField162_4 : tField Try.prog 162 4 = some (4, 5) := by kernel_rfl
@[go_sem] theorem tyField162_5 : tField Try.prog 162 5 = some (5, 5) := by kernel_rfl
@[go_sem] theorem tyField162_6 : tField Try.prog 162 6 = some (6, 156) := by kernel_rfl
@[go_sem] theorem tyField162_7 : tField Try.prog 162 7 = some (7, 157) := by kernel_rfl
@[go_sem] theorem tyField162_8 : tField Try.prog 162 8 = some (8, 158) := by kernel_rfl
@[go_sem] theorem tyField162_9 : tField Try.prog 162 9 = some (9, 159) := by kernel_rfl
@[go_sem] theorem tyField162_10 : tField Try.prog 162 10 = some (10, 160) := by kernel_rfl
@[go_sem] theorem tyFields162 : tFields Try.prog 162 = some [(0, 1), (1, 1), (2, 1), (3, 1), (4, 1), (5, 1), (6, 1), (7, 1), (8, 1), (9, 1), (10, 1)] := by kernel_rfl
@[go_sem] theorem tyStr162 : tStr Try.prog 162 = false := by kernel_rfl
@[go_sem] theorem tySize163 : tSize Try.prog 163 = some 1 := by kernel_rfl
@[go_sem] theorem tyRow163 : tRow Try.prog 163 = some false := by kernel_rfl
@[go_sem] theorem tyZero163 : tZero Try.prog 163 = some [(.pointer none)] := by kernel_rfl
@[go_sem] theorem tyStr163 : tStr Try.prog 163 = false := by kernel_rfl
theorem tyApp2 : tApp Try.prog 2 = some (1, 8) := by kernel_rfl
theorem tyApp3 : tApp Try.prog 3 = some (1, 8) := by kernel_rfl
theorem tyApp4 : tApp Try.prog 4 = some (1, 1) := by kernel_rfl
theorem tyApp5 : tApp Try.prog 5 = some (1, 1) := by kernel_rfl
theorem tyApp6 : tApp Try.prog 6 = some (1, 1) := by kernel_rfl
theorem tyApp7 : tApp Try.prog 7 = some (4, 24) := by kernel_rfl
theorem tyApp8 : tApp Try.prog 8 = some (4, 24) := by kernel_rfl
theorem tyApp9 : tApp Try.prog 9 = some (1, 16) := by kernel_rfl
theorem tyApp10 : tApp Try.prog 10 = some (1, 16) := by kernel_rfl
theorem tyApp11 : tApp Try.prog 11 = some (1, 16) := by kernel_rfl
theorem tyApp12 : tApp Try.prog 12 = some (1, 8) := by kernel_rfl
theorem tyApp13 : tApp Try.prog 13 = some (2, 24) := by kernel_rfl
theorem tyApp14 : tApp Try.prog 14 = some (2, 24) := by kernel_rfl
theorem tyApp15 : tApp Try.prog 15 = some (1, 8) := by kernel_rfl
theorem tyApp16 : tApp Try.prog 16 = some (1, 8) := by kernel_rfl
theorem tyApp17 : tApp Try.prog 17 = some (1, 8) := by kernel_rfl
theorem tyApp18 : tApp Try.prog 18 = some (1, 8) := by kernel_rfl
theorem tyApp19 : tApp Try.prog 19 = some (1, 8) := by kernel_rfl
theorem tyApp21 : tApp Try.prog 21 = some (1, 4) := by kernel_rfl
theorem tyApp23 : tApp Try.prog 23 = some (1, 24) := by kernel_rfl
theorem tyApp24 : tApp Try.prog 24 = some (1, 24) := by kernel_rfl
theorem tyApp25 : tApp Try.prog 25 = some (1, 8) := by kernel_rfl
theorem tyApp28 : tApp Try.prog 28 = some (1, 24) := by kernel_rfl
theorem tyApp29 : tApp Try.prog 29 = some (1, 24) := by kernel_rfl
theorem tyApp31 : tApp Try.prog 31 = some (5, 40) := by kernel_rfl
theorem tyApp32 : tApp Try.prog 32 = some (5, 40) := by kernel_rfl
theorem tyApp34 : tApp Try.prog 34 = some (1, 24) := by kernel_rfl
theorem tyApp35 : tApp Try.prog 35 = some (1, 24) := by kernel_rfl
theorem tyApp36 : tApp Try.prog 36 = some (4, 80) := by kernel_rfl
theorem tyApp37 : tApp Try.prog 37 = some (4, 80) := by kernel_rfl
theorem tyApp48 : tApp Try.prog 48 = some (1, 24) := by kernel_rfl
theorem tyApp51 : tApp Try.prog 51 = some (1, 24) := by kernel_rfl
theorem tyApp57 : tApp Try.prog 57 = some (6, 56) := by kernel_rfl
theorem tyApp58 : tApp Try.prog 58 = some (6, 56) := by kernel_rfl
theorem tyApp60 : tApp Try.prog 60 = some (2, 32) := by kernel_rfl
theorem tyApp61 : tApp Try.prog 61 = some (2, 32) := by kernel_rfl
theorem tyApp70 : tApp Try.prog 70 = some (1, 24) := by kernel_rfl
theorem tyApp73 : tApp Try.prog 73 = some (3, 24) := by kernel_rfl
theorem tyApp74 : tApp Try.prog 74 = some (3, 24) := by kernel_rfl
theorem tyApp80 : tApp Try.prog 80 = some (9, 72) := by kernel_rfl
theorem tyApp81 : tApp Try.prog 81 = some (9, 72) := by kernel_rfl
theorem tyApp93 : tApp Try.prog 93 = some (1, 24) := by kernel_rfl
theorem tyApp103 : tApp Try.prog 103 = some (3, 40) := by kernel_rfl
theorem tyApp104 : tApp Try.prog 104 = some (3, 40) := by kernel_rfl
theorem tyApp113 : tApp Try.prog 113 = some (3, 24) := by kernel_rfl
theorem tyApp114 : tApp Try.prog 114 = some (1, 24) := by kernel_rfl
theorem tyApp121 : tApp Try.prog 121 = some (1, 8) := by kernel_rfl
theorem tyApp122 : tApp Try.prog 122 = some (10, 128) := by kernel_rfl
theorem tyApp123 : tApp Try.prog 123 = some (10, 128) := by kernel_rfl
theorem tyApp124 : tApp Try.prog 124 = some (5, 56) := by kernel_rfl
theorem tyApp125 : tApp Try.prog 125 = some (5, 56) := by kernel_rfl
theorem tyApp136 : tApp Try.prog 136 = some (1, 8) := by kernel_rfl
theorem tyApp148 : tApp Try.prog 148 = some (4, 40) := by kernel_rfl
theorem tyApp149 : tApp Try.prog 149 = some (4, 40) := by kernel_rfl
theorem tyApp154 : tApp Try.prog 154 = some (1, 4) := by kernel_rfl
theorem tyApp155 : tApp Try.prog 155 = some (1, 1) := by kernel_rfl
theorem tyApp156 : tApp Try.prog 156 = some (1, 1) := by kernel_rfl
theorem tyApp158 : tApp Try.prog 158 = some (1, 8) := by kernel_rfl
theorem tyApp159 : tApp Try.prog 159 = some (1, 4) := by kernel_rfl
theorem tyApp160 : tApp Try.prog 160 = some (1, 4) := by kernel_rfl
theorem tyApp161 : tApp Try.prog 161 = some (11, 48) := by kernel_rfl
theorem tyApp162 : tApp Try.prog 162 = some (11, 48) := by kernel_rfl
theorem tyApp163 : tApp Try.prog 163 = some (1, 8) := by kernel_rfl
end Go.Proofs.Ytomfladifefomaa
