/- A hand's methods: put, flush, end. Conditions: as each law states them. -/
import Derived.Test.YtomfladifefomaaN4
namespace Go.Proofs.Ytomfladifefomaa
open Go.RowKit
set_option linter.unusedSimpArgs false
/-- what a hand holds: a geometry, devices, an error -/
def HandG (g : Geo) (x : Dev × Int) (cs : List SC) (G : GW) : Prop := ∃ A1 k1 A2 k2 A3 k3, cs = [.v (.int .i64 g.ring), .v (.int .i64 g.area), .v (.int .i64 g.hot), .v (.int .i64 g.volume), .v (.int .i64 g.volumes), .v (.slice A1 x.1.safe.length k1), .v (.slice A2 x.1.cache.length k2), .v (.slice A3 x.1.vols.length k3), .v (.int .i64 x.1.fuel), .v (.int .i64 x.2)] ∧
  DevG G (.agg #[.slice A1 x.1.safe.length k1, .slice A2 x.1.cache.length k2, .slice A3 x.1.vols.length k3, .int .i64 x.1.fuel]) x.1
def hPut (x : Dev × Int) (a : Int) (bs : List UInt8) : Dev × Int := if x.2 ≠ 0 then x else if putErr x.1 a bs.length = 0 then (putDev x.1 a bs, 0) else (x.1, putErr x.1 a bs.length)
def hFlush (x : Dev × Int) : Dev × Int := if x.2 ≠ 0 then x else if downErr x.1 = 0 then (flushDev x.1, 0) else (x.1, downErr x.1)
theorem hPut_good {g : Geo} {x : Dev × Int} (h : GoodDev g x.1) (a : Int) (bs : List UInt8) : GoodDev g (hPut x a bs).1 := by
  unfold hPut
  split
  · exact h
  · split
    · rename_i he; exact good_put h he
    · exact h
theorem hFlush_good {g : Geo} {x : Dev × Int} (h : GoodDev g x.1) : GoodDev g (hFlush x).1 := by
  unfold hFlush
  split
  · exact h
  · split
    · exact good_flush h
    · exact h
abbrev handT : TypeId := 123
theorem HandG.mono {g : Geo} {x : Dev × Int} {cs : List SC} {G G' : GW} (h : HandG g x cs G) (hl : G.Le G') : HandG g x cs G' := by
  obtain ⟨A1, k1, A2, k2, A3, k3, e, hd⟩ := h
  exact ⟨A1, k1, A2, k2, A3, k3, e, hd.mono hl⟩
set_option maxRecDepth 100000 in
set_option maxHeartbeats 16000000 in
theorem hput_does {g : Geo} (hg : GoodGeo g) {x : Dev × Int} (hd : GoodDev g x.1) {a : Int} {bv : Value} {bs : List UInt8} {G0 : GW} (hW : G0.Wf) (hT : Tid bX G0) {gh : Nat} (hM : G0.M gh) {cs : List SC} (hB : Blk G0.w gh handT (dens cs)) (hH : HandG g x cs G0) (hb : ByG G0 bv bs) :
    Calls Try.prog 75 #[.pointer (some ⟨gh, 0, none⟩), .int .i64 a, bv] G0.w (RetP G0 gh handT 10 fun _ cs' G => HandG g (hPut x a bs) cs' G) := by
  obtain ⟨d, e⟩ := x
  obtain ⟨A1, k1, A2, k2, A3, k3, rfl, hdv⟩ := hH
  simp only at hB hd hdv
  obtain ⟨Ab, cb, rfl, hb1, hb2⟩ := hb.form
  refine enterP (G := G0) (n := 37) (args := [.int .i64 a, .slice Ab bs.length cb]) 3000 hW hM hB Try.func75 rfl Try.ntmps75 (by simp) ?_
  by_cases he : e = 0
  · subst he
    simp only [go_sem, Nat.reduceAdd, Nat.reduceSub, Nat.reduceMul, Nat.reduceEqDiff, Nat.reduceLT, Nat.reduceLeDiff, Nat.reduceBEq, Nat.reduceBNe, Int.reduceLT, Int.reduceLE, Int.reduceEq, Int.reduceAdd, Int.reduceSub, Int.reduceNeg, reduceCtorEq]
    refine draw_ok (N := 3000) (.take 0 (.take 1 (.take 2 (.take 3 (.take 4 (.take 5 (.take 6 (.take 7 (.take 8 (.take 9 (.alt 10 (.take 11 (.take 12 (.take 13 (.alt 14 (.alt 15 (.take 16 .done) .last) .last)))) (.alt 14 (.alt 10 (.take 11 (.take 12 (.take 13 (.alt 15 (.take 16 .done) .last)))) .last) .last)))))))))))) [1] (QOk_body _ _ _) follows_mixed (by kernel_rfl) (by kernel_rfl) ?_
    simp only [go_sem, Nat.reduceAdd, Nat.reduceSub, Nat.reduceMul, Nat.reduceEqDiff, Nat.reduceLT, Nat.reduceLeDiff, Nat.reduceBEq, Nat.reduceBNe, Int.reduceLT, Int.reduceLE, Int.reduceEq, Int.reduceAdd, Int.reduceSub, Int.reduceNeg, reduceCtorEq]
    by_cases hp : putErr d a bs.length = 0
    · skip
      refine ⟨?_, fun g2 => ?_⟩
      · refine anyc_ok (N := 3000) (call_does (fun v G => ∃ dv, v = .tuple #[dv, .int .i64 0] ∧ DevG G dv (putDev d a bs)) rfl rfl (by kernel_rfl) rfl (by simp only [dOk_some, dOk_none, Nat.reduceLT]) (fun G hG => ret_mono (put_does (n := a) hg hd hG.wf (tidP hG hT hW (by simp) (by simp; decide) (by first | exact ⟨_, List.mem_cons_self, rfl⟩ | exact ⟨_, List.mem_cons_of_mem _ List.mem_cons_self, rfl⟩)) (hdv.mono (hG.le G0 (by simp))) (ByG.mono hb (hG.le G0 (by simp)))) fun v G' _ h => dev_get h hp)) (QOk_body _ _ _) rfl (by first | exact .inl rfl | exact .inr ⟨_, _, rfl, rfl⟩) ?_
        rintro _ ⟨_, G1, ⟨dv, rfl, hd1⟩, hn1, rfl⟩
        clear hn1
        obtain ⟨B1, m1, B2, m2, B3, m3, rfl, hfo⟩ := hd1.form
        clear hfo
        simp only [go_sem, Nat.reduceAdd, Nat.reduceSub, Nat.reduceMul, Nat.reduceEqDiff, Nat.reduceLT, Nat.reduceLeDiff, Nat.reduceBEq, Nat.reduceBNe, Int.reduceLT, Int.reduceLE, Int.reduceEq, Int.reduceAdd, Int.reduceSub, Int.reduceNeg, reduceCtorEq]
        intro g2
        refine fin_normP Try.results75 ?_
        simp only [go_sem, Nat.reduceAdd, Nat.reduceSub, Nat.reduceMul, Nat.reduceEqDiff, Nat.reduceLT, Nat.reduceLeDiff, Nat.reduceBEq, Nat.reduceBNe, Int.reduceLT, Int.reduceLE, Int.reduceEq, Int.reduceAdd, Int.reduceSub, Int.reduceNeg, reduceCtorEq]
        intro aa w' _ hle
        refine ⟨B1, m1, B2, m2, B3, m3, ?_, ?_⟩
        · simp [hPut, hp]
        · have : hPut (d, 0) a bs = (putDev d a bs, 0) := by simp [hPut, hp]
          rw [this]
          exact hd1.mono (hle G1 (by simp))
      · refine anyc_ok (N := 3000) (call_does (fun v G => ∃ dv, v = .tuple #[dv, .int .i64 0] ∧ DevG G dv (putDev d a bs)) rfl rfl (by kernel_rfl) rfl (by simp only [dOk_some, dOk_none, Nat.reduceLT]) (fun G hG => ret_mono (put_does (n := a) hg hd hG.wf (tidP hG hT hW (by simp) (by simp; decide) (by first | exact ⟨_, List.mem_cons_self, rfl⟩ | exact ⟨_, List.mem_cons_of_mem _ List.mem_cons_self, rfl⟩)) (hdv.mono (hG.le G0 (by simp))) (ByG.mono hb (hG.le G0 (by simp)))) fun v G' _ h => dev_get h hp)) (QOk_body _ _ _) rfl (by first | exact .inl rfl | exact .inr ⟨_, _, rfl, rfl⟩) ?_
        rintro _ ⟨_, G1, ⟨dv, rfl, hd1⟩, hn1, rfl⟩
        clear hn1
        obtain ⟨B1, m1, B2, m2, B3, m3, rfl, hfo⟩ := hd1.form
        clear hfo
        simp only [go_sem, Nat.reduceAdd, Nat.reduceSub, Nat.reduceMul, Nat.reduceEqDiff, Nat.reduceLT, Nat.reduceLeDiff, Nat.reduceBEq, Nat.reduceBNe, Int.reduceLT, Int.reduceLE, Int.reduceEq, Int.reduceAdd, Int.reduceSub, Int.reduceNeg, reduceCtorEq]
        refine fin_normP Try.results75 ?_
        simp only [go_sem, Nat.reduceAdd, Nat.reduceSub, Nat.reduceMul, Nat.reduceEqDiff, Nat.reduceLT, Nat.reduceLeDiff, Nat.reduceBEq, Nat.reduceBNe, Int.reduceLT, Int.reduceLE, Int.reduceEq, Int.reduceAdd, Int.reduceSub, Int.reduceNeg, reduceCtorEq]
        intro aa w' _ hle
        refine ⟨B1, m1, B2, m2, B3, m3, ?_, ?_⟩
        · simp [hPut, hp]
        · have : hPut (d, 0) a bs = (putDev d a bs, 0) := by simp [hPut, hp]
          rw [this]
          exact hd1.mono (hle G1 (by simp))
    · skip
      have q2 : decide (putErr d a bs.length = 0) = false := decide_eq_false hp
      refine ⟨?_, fun g2 => ?_⟩
      · refine anyc_ok (N := 3000) (call_does (fun v G => v = .tuple #[zeroDev, .int .i64 (putErr d a bs.length)]) rfl rfl (by kernel_rfl) rfl (by simp only [dOk_some, dOk_none, Nat.reduceLT]) (fun G hG => ret_mono (put_does (n := a) hg hd hG.wf (tidP hG hT hW (by simp) (by simp; decide) (by first | exact ⟨_, List.mem_cons_self, rfl⟩ | exact ⟨_, List.mem_cons_of_mem _ List.mem_cons_self, rfl⟩)) (hdv.mono (hG.le G0 (by simp))) (ByG.mono hb (hG.le G0 (by simp)))) fun v G' _ h => dev_bad h rfl hp)) (QOk_body _ _ _) rfl (by first | exact .inl rfl | exact .inr ⟨_, _, rfl, rfl⟩) ?_
        rintro _ ⟨_, G1, rfl, hn1, rfl⟩
        have hl01 : G0.Le G1 := hn1.le G0 (by simp)
        clear hn1
        simp only [go_sem, Nat.reduceAdd, Nat.reduceSub, Nat.reduceMul, Nat.reduceEqDiff, Nat.reduceLT, Nat.reduceLeDiff, Nat.reduceBEq, Nat.reduceBNe, Int.reduceLT, Int.reduceLE, Int.reduceEq, Int.reduceAdd, Int.reduceSub, Int.reduceNeg, reduceCtorEq, zeroDev, q2]
        intro g2
        refine fin_normP Try.results75 ?_
        simp only [go_sem, Nat.reduceAdd, Nat.reduceSub, Nat.reduceMul, Nat.reduceEqDiff, Nat.reduceLT, Nat.reduceLeDiff, Nat.reduceBEq, Nat.reduceBNe, Int.reduceLT, Int.reduceLE, Int.reduceEq, Int.reduceAdd, Int.reduceSub, Int.reduceNeg, reduceCtorEq]
        intro aa w' _ hle
        refine ⟨A1, k1, A2, k2, A3, k3, ?_, ?_⟩
        · simp [hPut, hp]
        · have : hPut (d, 0) a bs = (d, putErr d a bs.length) := by simp [hPut, hp]
          rw [this]
          exact hdv.mono (hle G0 (by simp))
      · refine anyc_ok (N := 3000) (call_does (fun v G => v = .tuple #[zeroDev, .int .i64 (putErr d a bs.length)]) rfl rfl (by kernel_rfl) rfl (by simp only [dOk_some, dOk_none, Nat.reduceLT]) (fun G hG => ret_mono (put_does (n := a) hg hd hG.wf (tidP hG hT hW (by simp) (by simp; decide) (by first | exact ⟨_, List.mem_cons_self, rfl⟩ | exact ⟨_, List.mem_cons_of_mem _ List.mem_cons_self, rfl⟩)) (hdv.mono (hG.le G0 (by simp))) (ByG.mono hb (hG.le G0 (by simp)))) fun v G' _ h => dev_bad h rfl hp)) (QOk_body _ _ _) rfl (by first | exact .inl rfl | exact .inr ⟨_, _, rfl, rfl⟩) ?_
        rintro _ ⟨_, G1, rfl, hn1, rfl⟩
        have hl01 : G0.Le G1 := hn1.le G0 (by simp)
        clear hn1
        simp only [go_sem, Nat.reduceAdd, Nat.reduceSub, Nat.reduceMul, Nat.reduceEqDiff, Nat.reduceLT, Nat.reduceLeDiff, Nat.reduceBEq, Nat.reduceBNe, Int.reduceLT, Int.reduceLE, Int.reduceEq, Int.reduceAdd, Int.reduceSub, Int.reduceNeg, reduceCtorEq, zeroDev, q2]
        refine fin_normP Try.results75 ?_
        simp only [go_sem, Nat.reduceAdd, Nat.reduceSub, Nat.reduceMul, Nat.reduceEqDiff, Nat.reduceLT, Nat.reduceLeDiff, Nat.reduceBEq, Nat.reduceBNe, Int.reduceLT, Int.reduceLE, Int.reduceEq, Int.reduceAdd, Int.reduceSub, Int.reduceNeg, reduceCtorEq]
        intro aa w' _ hle
        refine ⟨A1, k1, A2, k2, A3, k3, ?_, ?_⟩
        · simp [hPut, hp]
        · have : hPut (d, 0) a bs = (d, putErr d a bs.length) := by simp [hPut, hp]
          rw [this]
          exact hdv.mono (hle G0 (by simp))
  · have q1 : decide (e = 0) = false := decide_eq_false he
    simp only [go_sem, Nat.reduceAdd, Nat.reduceSub, Nat.reduceMul, Nat.reduceEqDiff, Nat.reduceLT, Nat.reduceLeDiff, Nat.reduceBEq, Nat.reduceBNe, Int.reduceLT, Int.reduceLE, Int.reduceEq, Int.reduceAdd, Int.reduceSub, Int.reduceNeg, reduceCtorEq, q1]
    refine fin_retP Try.results75 ?_
    simp only [go_sem, Nat.reduceAdd, Nat.reduceSub, Nat.reduceMul, Nat.reduceEqDiff, Nat.reduceLT, Nat.reduceLeDiff, Nat.reduceBEq, Nat.reduceBNe, Int.reduceLT, Int.reduceLE, Int.reduceEq, Int.reduceAdd, Int.reduceSub, Int.reduceNeg, reduceCtorEq]
    intro aa w' _ hle
    have : hPut (d, e) a bs = (d, e) := by simp [hPut, he]
    rw [this]
    exact ⟨A1, k1, A2, k2, A3, k3, rfl, hdv.mono (hle G0 (by simp))⟩
set_option maxRecDepth 100000 in
set_option maxHeartbeats 16000000 in
theorem hflush_does {g : Geo} (hg : GoodGeo g) {x : Dev × Int} (hd : GoodDev g x.1) {G0 : GW} (hW : G0.Wf) (hT : Tid bX G0) {gh : Nat} (hM : G0.M gh) {cs : List SC} (hB : Blk G0.w gh handT (dens cs)) (hH : HandG g x cs G0) :
    Calls Try.prog 77 #[.pointer (some ⟨gh, 0, none⟩)] G0.w (RetP G0 gh handT 10 fun _ cs' G => HandG g (hFlush x) cs' G) := by
  obtain ⟨d, e⟩ := x
  obtain ⟨A1, k1, A2, k2, A3, k3, rfl, hdv⟩ := hH
  simp only at hB hd hdv
  refine enterP (G := G0) (n := 31) (args := []) 3000 hW hM hB Try.func77 rfl Try.ntmps77 (by simp) ?_
  by_cases he : e = 0
  · subst he
    simp only [go_sem, Nat.reduceAdd, Nat.reduceSub, Nat.reduceMul, Nat.reduceEqDiff, Nat.reduceLT, Nat.reduceLeDiff, Nat.reduceBEq, Nat.reduceBNe, Int.reduceLT, Int.reduceLE, Int.reduceEq, Int.reduceAdd, Int.reduceSub, Int.reduceNeg, reduceCtorEq]
    refine draw_ok (N := 3000) (.take 0 (.take 1 (.take 2 (.take 3 (.take 4 (.take 5 (.take 6 (.take 7 (.alt 8 (.take 9 (.take 10 (.take 11 (.alt 12 (.alt 13 (.take 14 .done) .last) .last)))) (.alt 12 (.alt 8 (.take 9 (.take 10 (.take 11 (.alt 13 (.take 14 .done) .last)))) .last) .last)))))))))) [1] (QOk_body _ _ _) follows_mixed (by kernel_rfl) (by kernel_rfl) ?_
    simp only [go_sem, Nat.reduceAdd, Nat.reduceSub, Nat.reduceMul, Nat.reduceEqDiff, Nat.reduceLT, Nat.reduceLeDiff, Nat.reduceBEq, Nat.reduceBNe, Int.reduceLT, Int.reduceLE, Int.reduceEq, Int.reduceAdd, Int.reduceSub, Int.reduceNeg, reduceCtorEq]
    by_cases hp : downErr d = 0
    · skip
      refine ⟨?_, fun g2 => ?_⟩
      · refine anyc_ok (N := 3000) (call_does (fun v G => ∃ dv, v = .tuple #[dv, .int .i64 0] ∧ DevG G dv (flushDev d)) rfl rfl (by kernel_rfl) rfl (by simp only [dOk_some, dOk_none, Nat.reduceLT]) (fun G hG => ret_mono (flush_does hg hd hG.wf (tidP hG hT hW (by simp) (by simp; decide) (by first | exact ⟨_, List.mem_cons_self, rfl⟩ | exact ⟨_, List.mem_cons_of_mem _ List.mem_cons_self, rfl⟩)) (hdv.mono (hG.le G0 (by simp)))) fun v G' _ h => dev_get h hp)) (QOk_body _ _ _) rfl (by first | exact .inl rfl | exact .inr ⟨_, _, rfl, rfl⟩) ?_
        rintro _ ⟨_, G1, ⟨dv, rfl, hd1⟩, hn1, rfl⟩
        clear hn1
        obtain ⟨B1, m1, B2, m2, B3, m3, rfl, hfo⟩ := hd1.form
        clear hfo
        simp only [go_sem, Nat.reduceAdd, Nat.reduceSub, Nat.reduceMul, Nat.reduceEqDiff, Nat.reduceLT, Nat.reduceLeDiff, Nat.reduceBEq, Nat.reduceBNe, Int.reduceLT, Int.reduceLE, Int.reduceEq, Int.reduceAdd, Int.reduceSub, Int.reduceNeg, reduceCtorEq]
        intro g2
        refine fin_normP Try.results77 ?_
        simp only [go_sem, Nat.reduceAdd, Nat.reduceSub, Nat.reduceMul, Nat.reduceEqDiff, Nat.reduceLT, Nat.reduceLeDiff, Nat.reduceBEq, Nat.reduceBNe, Int.reduceLT, Int.reduceLE, Int.reduceEq, Int.reduceAdd, Int.reduceSub, Int.reduceNeg, reduceCtorEq]
        intro aa w' _ hle
        refine ⟨B1, m1, B2, m2, B3, m3, ?_, ?_⟩
        · simp [hFlush, hp]
        · have : hFlush (d, 0) = (flushDev d, 0) := by simp [hFlush, hp]
          rw [this]
          exact hd1.mono (hle G1 (by simp))
      · refine anyc_ok (N := 3000) (call_does (fun v G => ∃ dv, v = .tuple #[dv, .int .i64 0] ∧ DevG G dv (flushDev d)) rfl rfl (by kernel_rfl) rfl (by simp only [dOk_some, dOk_none, Nat.reduceLT]) (fun G hG => ret_mono (flush_does hg hd hG.wf (tidP hG hT hW (by simp) (by simp; decide) (by first | exact ⟨_, List.mem_cons_self, rfl⟩ | exact ⟨_, List.mem_cons_of_mem _ List.mem_cons_self, rfl⟩)) (hdv.mono (hG.le G0 (by simp)))) fun v G' _ h => dev_get h hp)) (QOk_body _ _ _) rfl (by first | exact .inl rfl | exact .inr ⟨_, _, rfl, rfl⟩) ?_
        rintro _ ⟨_, G1, ⟨dv, rfl, hd1⟩, hn1, rfl⟩
        clear hn1
        obtain ⟨B1, m1, B2, m2, B3, m3, rfl, hfo⟩ := hd1.form
        clear hfo
        simp only [go_sem, Nat.reduceAdd, Nat.reduceSub, Nat.reduceMul, Nat.reduceEqDiff, Nat.reduceLT, Nat.reduceLeDiff, Nat.reduceBEq, Nat.reduceBNe, Int.reduceLT, Int.reduceLE, Int.reduceEq, Int.reduceAdd, Int.reduceSub, Int.reduceNeg, reduceCtorEq]
        refine fin_normP Try.results77 ?_
        simp only [go_sem, Nat.reduceAdd, Nat.reduceSub, Nat.reduceMul, Nat.reduceEqDiff, Nat.reduceLT, Nat.reduceLeDiff, Nat.reduceBEq, Nat.reduceBNe, Int.reduceLT, Int.reduceLE, Int.reduceEq, Int.reduceAdd, Int.reduceSub, Int.reduceNeg, reduceCtorEq]
        intro aa w' _ hle
        refine ⟨B1, m1, B2, m2, B3, m3, ?_, ?_⟩
        · simp [hFlush, hp]
        · have : hFlush (d, 0) = (flushDev d, 0) := by simp [hFlush, hp]
          rw [this]
          exact hd1.mono (hle G1 (by simp))
    · skip
      have q2 : decide (downErr d = 0) = false := decide_eq_false hp
      refine ⟨?_, fun g2 => ?_⟩
      · refine anyc_ok (N := 3000) (call_does (fun v G => v = .tuple #[zeroDev, .int .i64 (downErr d)]) rfl rfl (by kernel_rfl) rfl (by simp only [dOk_some, dOk_none, Nat.reduceLT]) (fun G hG => ret_mono (flush_does hg hd hG.wf (tidP hG hT hW (by simp) (by simp; decide) (by first | exact ⟨_, List.mem_cons_self, rfl⟩ | exact ⟨_, List.mem_cons_of_mem _ List.mem_cons_self, rfl⟩)) (hdv.mono (hG.le G0 (by simp)))) fun v G' _ h => dev_bad h rfl hp)) (QOk_body _ _ _) rfl (by first | exact .inl rfl | exact .inr ⟨_, _, rfl, rfl⟩) ?_
        rintro _ ⟨_, G1, rfl, hn1, rfl⟩
        have hl01 : G0.Le G1 := hn1.le G0 (by simp)
        clear hn1
        simp only [go_sem, Nat.reduceAdd, Nat.reduceSub, Nat.reduceMul, Nat.reduceEqDiff, Nat.reduceLT, Nat.reduceLeDiff, Nat.reduceBEq, Nat.reduceBNe, Int.reduceLT, Int.reduceLE, Int.reduceEq, Int.reduceAdd, Int.reduceSub, Int.reduceNeg, reduceCtorEq, zeroDev, q2]
        intro g2
        refine fin_normP Try.results77 ?_
        simp only [go_sem, Nat.reduceAdd, Nat.reduceSub, Nat.reduceMul, Nat.reduceEqDiff, Nat.reduceLT, Nat.reduceLeDiff, Nat.reduceBEq, Nat.reduceBNe, Int.reduceLT, Int.reduceLE, Int.reduceEq, Int.reduceAdd, Int.reduceSub, Int.reduceNeg, reduceCtorEq]
        intro aa w' _ hle
        refine ⟨A1, k1, A2, k2, A3, k3, ?_, ?_⟩
        · simp [hFlush, hp]
        · have : hFlush (d, 0) = (d, downErr d) := by simp [hFlush, hp]
          rw [this]
          exact hdv.mono (hle G0 (by simp))
      · refine anyc_ok (N := 3000) (call_does (fun v G => v = .tuple #[zeroDev, .int .i64 (downErr d)]) rfl rfl (by kernel_rfl) rfl (by simp only [dOk_some, dOk_none, Nat.reduceLT]) (fun G hG => ret_mono (flush_does hg hd hG.wf (tidP hG hT hW (by simp) (by simp; decide) (by first | exact ⟨_, List.mem_cons_self, rfl⟩ | exact ⟨_, List.mem_cons_of_mem _ List.mem_cons_self, rfl⟩)) (hdv.mono (hG.le G0 (by simp)))) fun v G' _ h => dev_bad h rfl hp)) (QOk_body _ _ _) rfl (by first | exact .inl rfl | exact .inr ⟨_, _, rfl, rfl⟩) ?_
        rintro _ ⟨_, G1, rfl, hn1, rfl⟩
        have hl01 : G0.Le G1 := hn1.le G0 (by simp)
        clear hn1
        simp only [go_sem, Nat.reduceAdd, Nat.reduceSub, Nat.reduceMul, Nat.reduceEqDiff, Nat.reduceLT, Nat.reduceLeDiff, Nat.reduceBEq, Nat.reduceBNe, Int.reduceLT, Int.reduceLE, Int.reduceEq, Int.reduceAdd, Int.reduceSub, Int.reduceNeg, reduceCtorEq, zeroDev, q2]
        refine fin_normP Try.results77 ?_
        simp only [go_sem, Nat.reduceAdd, Nat.reduceSub, Nat.reduceMul, Nat.reduceEqDiff, Nat.reduceLT, Nat.reduceLeDiff, Nat.reduceBEq, Nat.reduceBNe, Int.reduceLT, Int.reduceLE, Int.reduceEq, Int.reduceAdd, Int.reduceSub, Int.reduceNeg, reduceCtorEq]
        intro aa w' _ hle
        refine ⟨A1, k1, A2, k2, A3, k3, ?_, ?_⟩
        · simp [hFlush, hp]
        · have : hFlush (d, 0) = (d, downErr d) := by simp [hFlush, hp]
          rw [this]
          exact hdv.mono (hle G0 (by simp))
  · have q1 : decide (e = 0) = false := decide_eq_false he
    simp only [go_sem, Nat.reduceAdd, Nat.reduceSub, Nat.reduceMul, Nat.reduceEqDiff, Nat.reduceLT, Nat.reduceLeDiff, Nat.reduceBEq, Nat.reduceBNe, Int.reduceLT, Int.reduceLE, Int.reduceEq, Int.reduceAdd, Int.reduceSub, Int.reduceNeg, reduceCtorEq, q1]
    refine fin_retP Try.results77 ?_
    simp only [go_sem, Nat.reduceAdd, Nat.reduceSub, Nat.reduceMul, Nat.reduceEqDiff, Nat.reduceLT, Nat.reduceLeDiff, Nat.reduceBEq, Nat.reduceBNe, Int.reduceLT, Int.reduceLE, Int.reduceEq, Int.reduceAdd, Int.reduceSub, Int.reduceNeg, reduceCtorEq]
    intro aa w' _ hle
    have : hFlush (d, e) = (d, e) := by simp [hFlush, he]
    rw [this]
    exact ⟨A1, k1, A2, k2, A3, k3, rfl, hdv.mono (hle G0 (by simp))⟩
/-- the end of a hand's work: devices, a journal, an error -/
def HandE (_ : Geo) (x : Dev × Int) (j : Jr) (v : Value) (G : GW) : Prop := ∃ dv, v = .tuple #[dv, jrV (if x.2 = 0 then j else zeroJr), .int .i64 x.2] ∧ (x.2 = 0 ∨ x.2 = 10 → DevG G dv x.1) ∧ (x.2 ≠ 0 → x.2 ≠ 10 → dv = zeroDev)
set_option maxRecDepth 100000 in
set_option maxHeartbeats 16000000 in
theorem hend_does {g : Geo} {x : Dev × Int} {j : Jr} {G0 : GW} (hW : G0.Wf) {gh : Nat} (hM : G0.M gh) {cs : List SC} (hB : Blk G0.w gh handT (dens cs)) (hH : HandG g x cs G0) :
    Calls Try.prog 78 #[.pointer (some ⟨gh, 0, none⟩), jrV j] G0.w (RetP G0 gh handT 10 fun v cs' G => HandG g x cs' G ∧ HandE g x j v G) := by
  obtain ⟨d, e⟩ := x
  obtain ⟨A1, k1, A2, k2, A3, k3, rfl, hdv⟩ := hH
  simp only at hB hdv
  refine enterP (G := G0) (n := 31) (args := [jrV j]) 3000 hW hM hB Try.func78 rfl Try.ntmps78 (by simp) ?_
  by_cases he : e = 0
  · subst he
    simp only [go_sem, Nat.reduceAdd, Nat.reduceSub, Nat.reduceMul, Nat.reduceEqDiff, Nat.reduceLT, Nat.reduceLeDiff, Nat.reduceBEq, Nat.reduceBNe, Int.reduceLT, Int.reduceLE, Int.reduceEq, Int.reduceAdd, Int.reduceSub, Int.reduceNeg, reduceCtorEq, jrV]
    intro g2 g3 g4
    refine draw_ok (N := 3000) (.take 0 (.take 1 (.take 2 (.take 3 (.take 4 (.alt 5 (.alt 6 (.take 7 .done) .last) .last)))))) [2, 3] (QOk_body _ _ _) follows_mixed (by kernel_rfl) (by kernel_rfl) ?_
    simp only [go_sem, Nat.reduceAdd, Nat.reduceSub, Nat.reduceMul, Nat.reduceEqDiff, Nat.reduceLT, Nat.reduceLeDiff, Nat.reduceBEq, Nat.reduceBNe, Int.reduceLT, Int.reduceLE, Int.reduceEq, Int.reduceAdd, Int.reduceSub, Int.reduceNeg, reduceCtorEq]
    refine fin_retP Try.results78 ?_
    simp only [go_sem, Nat.reduceAdd, Nat.reduceSub, Nat.reduceMul, Nat.reduceEqDiff, Nat.reduceLT, Nat.reduceLeDiff, Nat.reduceBEq, Nat.reduceBNe, Int.reduceLT, Int.reduceLE, Int.reduceEq, Int.reduceAdd, Int.reduceSub, Int.reduceNeg, reduceCtorEq]
    intro aa w' _ hle
    exact ⟨⟨A1, k1, A2, k2, A3, k3, rfl, hdv.mono (hle G0 (by simp))⟩, _, rfl, fun _ => hdv.mono (hle G0 (by simp)), fun h => absurd rfl h⟩
  · have q1 : decide (e = 0) = false := decide_eq_false he
    by_cases he2 : e = 10
    · subst he2
      simp only [go_sem, Nat.reduceAdd, Nat.reduceSub, Nat.reduceMul, Nat.reduceEqDiff, Nat.reduceLT, Nat.reduceLeDiff, Nat.reduceBEq, Nat.reduceBNe, Int.reduceLT, Int.reduceLE, Int.reduceEq, Int.reduceAdd, Int.reduceSub, Int.reduceNeg, reduceCtorEq, jrV, q1]
      intro g2 g3 g4
      refine fin_retP Try.results78 ?_
      simp only [go_sem, Nat.reduceAdd, Nat.reduceSub, Nat.reduceMul, Nat.reduceEqDiff, Nat.reduceLT, Nat.reduceLeDiff, Nat.reduceBEq, Nat.reduceBNe, Int.reduceLT, Int.reduceLE, Int.reduceEq, Int.reduceAdd, Int.reduceSub, Int.reduceNeg, reduceCtorEq]
      intro aa w' _ hle
      exact ⟨⟨A1, k1, A2, k2, A3, k3, rfl, hdv.mono (hle G0 (by simp))⟩, _, rfl, fun _ => hdv.mono (hle G0 (by simp)), fun _ h => absurd rfl h⟩
    · have q2 : decide (e = 10) = false := decide_eq_false he2
      simp only [go_sem, Nat.reduceAdd, Nat.reduceSub, Nat.reduceMul, Nat.reduceEqDiff, Nat.reduceLT, Nat.reduceLeDiff, Nat.reduceBEq, Nat.reduceBNe, Int.reduceLT, Int.reduceLE, Int.reduceEq, Int.reduceAdd, Int.reduceSub, Int.reduceNeg, reduceCtorEq, jrV, q1, q2]
      intro g2 g3 g4
      refine draw_ok (N := 3000) (.take 0 (.take 1 (.take 2 (.take 3 (.take 4 (.take 5 (.alt 6 (.alt 7 (.take 8 .done) .last) .last))))))) [2, 3] (QOk_body _ _ _) follows_mixed (by kernel_rfl) (by kernel_rfl) ?_
      simp only [go_sem, Nat.reduceAdd, Nat.reduceSub, Nat.reduceMul, Nat.reduceEqDiff, Nat.reduceLT, Nat.reduceLeDiff, Nat.reduceBEq, Nat.reduceBNe, Int.reduceLT, Int.reduceLE, Int.reduceEq, Int.reduceAdd, Int.reduceSub, Int.reduceNeg, reduceCtorEq]
      refine fin_retP Try.results78 ?_
      simp only [go_sem, Nat.reduceAdd, Nat.reduceSub, Nat.reduceMul, Nat.reduceEqDiff, Nat.reduceLT, Nat.reduceLeDiff, Nat.reduceBEq, Nat.reduceBNe, Int.reduceLT, Int.reduceLE, Int.reduceEq, Int.reduceAdd, Int.reduceSub, Int.reduceNeg, reduceCtorEq]
      intro aa w' _ hle
      refine ⟨⟨A1, k1, A2, k2, A3, k3, rfl, hdv.mono (hle G0 (by simp))⟩, zeroDev, ?_, fun h => absurd h (by simp only; omega), fun _ _ => rfl⟩
      have : (if ((d, e) : Dev × Int).2 = 0 then j else zeroJr) = zeroJr := if_neg he
      rw [this]
      rfl
end Go.Proofs.Ytomfladifefomaa
