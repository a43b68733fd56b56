/- icehousekeep.opened: what is found behind a crash. Conditions: as each law states them. -/
import Derived.Test.YtomfladifefomaaR4
namespace Go.Proofs.Ytomfladifefomaa
open Go.RowKit
set_option linter.unusedSimpArgs false
/-- the devices of an opening behind a crash -/
def backX (d : Dev) (keep : List Bool) (j : Jr) : Dev := (openX (crashDev d keep 0) j).1
set_option maxRecDepth 100000 in
set_option maxHeartbeats 16000000 in
theorem opened_does {g : Geo} (hg : GoodGeo g) {d : Dev} (hd : GoodDev g d) {keep : List Bool} {j : Jr} {snap : List UInt8} {l : List (Int × List UInt8)} {w0 : Int} (hk : Kept g (content (crashDev d keep 0)) j snap l w0) (hst : Stops g (content (crashDev d keep 0)) (j.start + (total l : Int)) (j.first + (l.length : Int)) (lastE 0 l) (total l))
    (hge : j.gen < 1048576) (hep : j.epoch < 1048576) {dv kv : Value} {G0 : GW} (hW : G0.Wf) (hT : Tid bX G0) (h : DevG G0 dv d) (hkv : BoolsG G0 kv keep) :
    Calls Try.prog 52 #[geoV g, dv, kv] G0.w (Ret G0 fun v G => ∃ dv A c A2 c2, v = .tuple #[dv, jrV (upJ j), .slice A snap.length c, .slice A2 l.length c2, .bool true] ∧ DevG G dv (backX d keep j) ∧ ByG G (.slice A snap.length c) snap ∧ SafG G (.slice A2 l.length c2) (l.map (·.2))) := by
  obtain ⟨A1, k1, A2, k2, A3, k3, rfl, hfo⟩ := h.form
  clear hfo
  obtain ⟨A', c', rfl, _, _⟩ := ScR.form hkv
  have hg1 : GoodDev g (crashDev d keep 0) := good_crash hd (by omega)
  have hf1 : (crashDev d keep 0).fuel = -1 := rfl
  have hc1 : (crashDev d keep 0).cache.length = 0 := rfl
  refine enter (G := G0) (n := 44) 3000 hW Try.func52 rfl Try.ntmps52 (by simp) ?_
  simp only [go_sem, Nat.reduceAdd, Nat.reduceSub, Nat.reduceMul, Nat.reduceEqDiff, Nat.reduceLT, Nat.reduceLeDiff, Nat.reduceBEq, Nat.reduceBNe, Int.reduceLT, Int.reduceLE, Int.reduceEq, Int.reduceAdd, Int.reduceSub, Int.reduceNeg, reduceCtorEq, geoV]
  intro g1 g2 g3 g4
  refine plain_ok (N := 3000) (call_does (fun v G => ∃ dv, v = .tuple #[dv, .int .i64 0] ∧ DevG G dv (crashDev d keep 0)) rfl rfl (by kernel_rfl) rfl (by simp only [dOk_some, dOk_none, Nat.reduceLT]) (fun G hG => ret_mono (crash_does (keep := keep) (t := 0) hg hd (by omega) hG.wf (tidB hG (fun _ h => h) hT hW rfl rfl (by simp) (by simp; decide)) (h.mono (hG.le G0 (by simp))) (ScR.mono hkv boolG_mono (hG.le G0 (by simp)))) fun v G' _ h => dev_get h (by decide))) (QOk_body _ _ _) (by first | exact .inl rfl | exact .inr ⟨_, _, rfl, rfl⟩) ?_
  rintro _ ⟨_, G1, ⟨dv, rfl, hd1⟩, hn1, rfl⟩
  clear hn1
  unfold backX
  generalize crashDev d keep 0 = x at *
  obtain ⟨B1, m1, B2, m2, B3, m3, rfl, hfo⟩ := hd1.form
  clear hfo
  simp only [go_sem, Nat.reduceAdd, Nat.reduceSub, Nat.reduceMul, Nat.reduceEqDiff, Nat.reduceLT, Nat.reduceLeDiff, Nat.reduceBEq, Nat.reduceBNe, Int.reduceLT, Int.reduceLE, Int.reduceEq, Int.reduceAdd, Int.reduceSub, Int.reduceNeg, reduceCtorEq]
  intro g5
  have hgo := hk.found hg hst (show l.length < 100 from hk.count hg)
  have hne := hk.newest hg
  have hll : (l.map (·.2)).length = l.length := List.length_map _
  refine plain_ok (N := 3000) (call_does (fun v G => ∃ dv A c A2 c2, v = .tuple #[dv, jrV (upJ j), .slice A snap.length c, .slice A2 l.length c2, .int .i64 0] ∧ DevG G dv (openX x j).1 ∧ ByG G (.slice A snap.length c) snap ∧ SafG G (.slice A2 l.length c2) (l.map (·.2))) rfl rfl (by kernel_rfl) rfl (by simp only [dOk_some, dOk_none, Nat.reduceLT]) (fun G hG => ret_mono (open_does hg hg1 hne (okJ_bare hk.ok) rfl hge hep hgo (by rw [openX_ok hg hg1 hf1 hc1]) hG.wf (tidB hG (fun _ h => h) hT hW rfl rfl (by simp) (by simp; decide)) (hd1.mono (hG.le G1 (by simp)))) fun v G' _ h => by rw [hk.reads, hll] at h; exact h)) (QOk_body _ _ _) (by first | exact .inl rfl | exact .inr ⟨_, _, rfl, rfl⟩) ?_
  rintro _ ⟨_, G2, ⟨dv, A, c, A2', c2, rfl, hd2, hsn, hal⟩, hn2, rfl⟩
  clear hn2
  obtain ⟨C1, n1, C2, n2, C3, n3, rfl, hfo⟩ := hd2.form
  clear hfo
  simp only [go_sem, Nat.reduceAdd, Nat.reduceSub, Nat.reduceMul, Nat.reduceEqDiff, Nat.reduceLT, Nat.reduceLeDiff, Nat.reduceBEq, Nat.reduceBNe, Int.reduceLT, Int.reduceLE, Int.reduceEq, Int.reduceAdd, Int.reduceSub, Int.reduceNeg, reduceCtorEq, jrV]
  intro g6 g7
  refine draw_ok (N := 3000) (.take 0 (.take 1 (.take 2 (.take 3 (.take 4 (.take 5 (.take 6 (.take 7 (.take 8 (.take 9 (.alt 10 (.alt 11 (.take 12 (.take 13 (.take 14 .done))) .last) .last))))))))))) [2, 3] (QOk_body _ _ _) follows_mixed (by kernel_rfl) (by kernel_rfl) ?_
  simp only [go_sem, Nat.reduceAdd, Nat.reduceSub, Nat.reduceMul, Nat.reduceEqDiff, Nat.reduceLT, Nat.reduceLeDiff, Nat.reduceBEq, Nat.reduceBNe, Int.reduceLT, Int.reduceLE, Int.reduceEq, Int.reduceAdd, Int.reduceSub, Int.reduceNeg, reduceCtorEq]
  refine fin_ret (G := G0) Try.results52 ?_
  simp only [go_sem, Nat.reduceAdd, Nat.reduceSub, Nat.reduceMul, Nat.reduceEqDiff, Nat.reduceLT, Nat.reduceLeDiff, Nat.reduceBEq, Nat.reduceBNe, Int.reduceLT, Int.reduceLE, Int.reduceEq, Int.reduceAdd, Int.reduceSub, Int.reduceNeg, reduceCtorEq]
  intro aa w' _ hle
  have hlast := hle G2 (by simp)
  exact ⟨_, A, c, A2', c2, rfl, hd2.mono hlast, hsn.mono hlast, Sq.mono hal rowG_mono hlast⟩
end Go.Proofs.Ytomfladifefomaa
