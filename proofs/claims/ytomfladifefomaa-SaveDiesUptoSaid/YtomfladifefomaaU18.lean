/- 'icehousekeep.FormatEmpty' returns true for every three ints and slice of raw things. Conditions: none. -/
import Derived.Test.YtomfladifefomaaN11
namespace Go.Proofs.Ytomfladifefomaa
open Go.RowKit
set_option linter.unusedSimpArgs false
theorem bools_none (G : GW) : BoolsG G (.slice none 0 0) [] := ⟨[], ⟨rfl, by simp, fun i cs x h1 _ => by cases h1⟩, none, 0, rfl, Nat.le_refl _, by unfold maxLen; omega, rfl, fun h => absurd h (by simp)⟩
/-- behind a crash with nothing in the cache all is as it was -/
theorem crash_same {g : Geo} {d : Dev} (hd : GoodDev g d) (hc : d.cache.length = 0) (keep : List Bool) {n : Nat} (hn : n < d.safe.length) : content (crashDev d keep 0) n = content d n := by
  rw [content_crash hd keep 0 n hn]
  unfold content
  rw [hc]
  rfl
theorem kept_crash {g : Geo} (hg : GoodGeo g) {d : Dev} (hd : GoodDev g d) (hc : d.cache.length = 0) (keep : List Bool) {j : Jr} {snap : List UInt8} {l : List (Int × List UInt8)} {w : Int} (h : Kept g (content d) j snap l w) : Kept g (content (crashDev d keep 0)) j snap l w :=
  h.on hg hd fun _ hn => crash_same hd hc keep hn
theorem blank_none {g : Geo} (hg : GoodGeo g) : (newestJ g (content (newDev g))).gen ≤ 0 := by
  have hs := (newGood g hg).safe
  unfold sectorsOf at hs
  have := hg.r1; have := hg.a1; have := hg.h1
  unfold newestJ newerJ
  rw [newDev_content (show 0 < (newDev g).safe.length by omega), newDev_content (show 1 < (newDev g).safe.length by omega), sup_zero, sup_zero, if_neg (by simp), if_neg (by simp)]
  exact Int.le_refl _
set_option maxRecDepth 100000 in
set_option maxHeartbeats 16000000 in
theorem formatEmpty_ret {w : World} (a0 : Int) (w0 : (Lit.int .i64 a0).wf = true) (a1 : Int) (w1 : (Lit.int .i64 a1).wf = true) (a2 : Int) (w2 : (Lit.int .i64 a2).wf = true) (v3 : Value) (l3 : List Raw) (h3 : RawsG ⟨Non, w⟩ v3 l3) :
    Calls Try.prog 17 #[.int .i64 a0, .int .i64 a1, .int .i64 a2, v3] w (Ret ⟨Non, w⟩ fun v _ => v = .bool true) := by
  obtain ⟨A', c', rfl, _, _⟩ := ScR.form h3
  have i0 : i64 a0 := i64_bd w0
  have i1 : i64 a1 := i64_bd w1
  have i2 : i64 a2 := i64_bd w2
  refine enter (G := ⟨Non, w⟩) (n := 104) 3000 (wf_nonL w) Try.func17 rfl Try.ntmps17 (by simp) ?_
  simp only [go_sem, Nat.reduceAdd, Nat.reduceSub, Nat.reduceMul, Nat.reduceEqDiff, Nat.reduceLT, Nat.reduceLeDiff, Nat.reduceBEq, Nat.reduceBNe, Int.reduceLT, Int.reduceLE, Int.reduceEq, Int.reduceAdd, Int.reduceSub, Int.reduceNeg, reduceCtorEq]
  refine plain_ok (N := 3000) (call_does (fun v _ => v = .agg #[.int .i64 (geoK a0 a1 a2).ring, .int .i64 (geoK a0 a1 a2).area, .int .i64 (geoK a0 a1 a2).hot, .int .i64 (geoK a0 a1 a2).volume, .int .i64 (geoK a0 a1 a2).volumes]) rfl rfl (by kernel_rfl) rfl (by simp only [dOk_some, dOk_none, Nat.reduceLT]) (fun G hG => geometry_does i0 i1 i2 hG.wf)) (QOk_body _ _ _) (by first | exact .inl rfl | exact .inr ⟨_, _, rfl, rfl⟩) ?_
  rintro _ ⟨_, G1, rfl, hn1, rfl⟩
  clear hn1
  have hg := geoK_good a0 a1 a2
  generalize geoK a0 a1 a2 = g at hg
  simp only [go_sem, Nat.reduceAdd, Nat.reduceSub, Nat.reduceMul, Nat.reduceEqDiff, Nat.reduceLT, Nat.reduceLeDiff, Nat.reduceBEq, Nat.reduceBNe, Int.reduceLT, Int.reduceLE, Int.reduceEq, Int.reduceAdd, Int.reduceSub, Int.reduceNeg, reduceCtorEq]
  intro g1
  refine plain_ok (N := 3000) (call_does (fun v G => ∃ dv, v = .tuple #[dv, jrV firstJ, .bool true] ∧ DevG G dv (fmtDev g)) rfl rfl (by kernel_rfl) rfl (by simp only [dOk_some, dOk_none, Nat.reduceLT]) (fun G hG => formatted_does hg hG.wf (tidL hG (by simp) (by simp; decide)))) (QOk_body _ _ _) (by first | exact .inl rfl | exact .inr ⟨_, _, rfl, rfl⟩) ?_
  rintro _ ⟨_, G2, ⟨dv, rfl, hd0⟩, hn2, rfl⟩
  clear hn2
  obtain ⟨hg0, hf0, hc0⟩ := fmtDev_good hg
  have hk0 := fmt_kept hg
  generalize fmtDev g = d0 at hd0 hg0 hf0 hc0 hk0
  have hk1 := kept_crash hg hg0 hc0 [] hk0
  obtain ⟨A1, k1, A2, k2, A3, k3, rfl, hfo⟩ := hd0.form
  clear hfo
  simp only [go_sem, Nat.reduceAdd, Nat.reduceSub, Nat.reduceMul, Nat.reduceEqDiff, Nat.reduceLT, Nat.reduceLeDiff, Nat.reduceBEq, Nat.reduceBNe, Int.reduceLT, Int.reduceLE, Int.reduceEq, Int.reduceAdd, Int.reduceSub, Int.reduceNeg, reduceCtorEq, jrV, firstJ]
  intro g2 g3
  refine plain_ok (N := 3000) (call_does (fun v G => ∃ dv A c A2 c2, v = .tuple #[dv, jrV (upJ firstJ), .slice A 0 c, .slice A2 0 c2, .bool true] ∧ DevG G dv (backX d0 [] firstJ)) rfl rfl (by kernel_rfl) rfl (by simp only [dOk_some, dOk_none, Nat.reduceLT]) (fun G hG => ret_mono (opened_does (keep := []) hg hg0 hk1 (hk1.stops _) (by decide) (by decide) hG.wf (tidL hG (by simp) (by simp; decide)) (hd0.mono (hG.le G2 (by simp))) (bools_none G)) fun v G' _ h => by obtain ⟨dv, A, c, A2, c2, e, h1, _⟩ := h; exact ⟨dv, A, c, A2, c2, e, h1⟩)) (QOk_body _ _ _) (by first | exact .inl rfl | exact .inr ⟨_, _, rfl, rfl⟩) ?_
  rintro _ ⟨_, G3, ⟨dv, A, c, A2', c2, rfl, hd1⟩, hn3, rfl⟩
  clear hn3
  generalize backX d0 [] firstJ = d1 at hd1
  obtain ⟨B1, m1, B2, m2, B3, m3, rfl, hfo⟩ := hd1.form
  clear hfo
  simp only [go_sem, Nat.reduceAdd, Nat.reduceSub, Nat.reduceMul, Nat.reduceEqDiff, Nat.reduceLT, Nat.reduceLeDiff, Nat.reduceBEq, Nat.reduceBNe, Int.reduceLT, Int.reduceLE, Int.reduceEq, Int.reduceAdd, Int.reduceSub, Int.reduceNeg, reduceCtorEq, jrV, upJ, firstJ]
  intro g4 g5
  refine plain_ok (N := 3000) (call_does (fun v G => ∃ dv, v = .tuple #[dv, .int .i64 0] ∧ DevG G dv (newDev g)) rfl rfl (by kernel_rfl) rfl (by simp only [dOk_some, dOk_none, Nat.reduceLT]) (fun G hG => new_does hg hG.wf (tidL hG (by simp) (by simp; decide)))) (QOk_body _ _ _) (by first | exact .inl rfl | exact .inr ⟨_, _, rfl, rfl⟩) ?_
  rintro _ ⟨_, G4, ⟨dv, rfl, hd2⟩, hn4, rfl⟩
  clear hn4
  have hbl := blank_none hg
  have hg2 := newGood g hg
  generalize newDev g = d2 at hd2 hbl hg2
  obtain ⟨C1, n1, C2, n2, C3, n3, rfl, hfo⟩ := hd2.form
  clear hfo
  simp only [go_sem, Nat.reduceAdd, Nat.reduceSub, Nat.reduceMul, Nat.reduceEqDiff, Nat.reduceLT, Nat.reduceLeDiff, Nat.reduceBEq, Nat.reduceBNe, Int.reduceLT, Int.reduceLE, Int.reduceEq, Int.reduceAdd, Int.reduceSub, Int.reduceNeg, reduceCtorEq]
  intro g6
  refine plain_ok (N := 3000) (call_does (fun v _ => v = .tuple #[zeroDev, jrV zeroJr, .slice none 0 0, .slice none 0 0, .int .i64 4]) rfl rfl (by kernel_rfl) rfl (by simp only [dOk_some, dOk_none, Nat.reduceLT]) (fun G hG => open_none hg hg2 hbl hG.wf (hd2.mono (hG.le G4 (by simp))))) (QOk_body _ _ _) (by first | exact .inl rfl | exact .inr ⟨_, _, rfl, rfl⟩) ?_
  rintro _ ⟨_, G5, rfl, hn5, rfl⟩
  clear hn5
  have q0 : decide (((0 : Nat) : Int) = 0) = true := rfl
  simp only [go_sem, Nat.reduceAdd, Nat.reduceSub, Nat.reduceMul, Nat.reduceEqDiff, Nat.reduceLT, Nat.reduceLeDiff, Nat.reduceBEq, Nat.reduceBNe, Int.reduceLT, Int.reduceLE, Int.reduceEq, Int.reduceAdd, Int.reduceSub, Int.reduceNeg, reduceCtorEq, zeroDev, jrV, zeroJr, q0]
  intro g7 g8
  refine plain_ok (N := 3000) (call_does (fun v _ => v = .int .i64 0) rfl rfl (by kernel_rfl) rfl (by simp only [dOk_some, dOk_none, Nat.reduceLT]) (fun G hG => ret_mono (checkJ_does (j := firstJ) hg hG.wf) fun v G' _ h => by rw [h, firstJ_ok hg]; rfl)) (QOk_body _ _ _) (by first | exact .inl rfl | exact .inr ⟨_, _, rfl, rfl⟩) ?_
  rintro _ ⟨_, G6, rfl, hn6, rfl⟩
  clear hn6
  simp only [go_sem, Nat.reduceAdd, Nat.reduceSub, Nat.reduceMul, Nat.reduceEqDiff, Nat.reduceLT, Nat.reduceLeDiff, Nat.reduceBEq, Nat.reduceBNe, Int.reduceLT, Int.reduceLE, Int.reduceEq, Int.reduceAdd, Int.reduceSub, Int.reduceNeg, reduceCtorEq]
  repeat (refine And.intro (by omega) ?_)
  refine fin_ret (G := ⟨Non, w⟩) Try.results17 ?_
  simp only [go_sem, Nat.reduceAdd, Nat.reduceSub, Nat.reduceMul, Nat.reduceEqDiff, Nat.reduceLT, Nat.reduceLeDiff, Nat.reduceBEq, Nat.reduceBNe, Int.reduceLT, Int.reduceLE, Int.reduceEq, Int.reduceAdd, Int.reduceSub, Int.reduceNeg, reduceCtorEq]
  intro aa w' _ _
  rfl
theorem formatEmpty_walk {w : World} (a0 : Int) (w0 : (Lit.int .i64 a0).wf = true) (a1 : Int) (w1 : (Lit.int .i64 a1).wf = true) (a2 : Int) (w2 : (Lit.int .i64 a2).wf = true) (v3 : Value) (l3 : List Raw) (h3 : RawsG ⟨Non, w⟩ v3 l3) :
    Calls Try.prog 17 #[.int .i64 a0, .int .i64 a1, .int .i64 a2, v3] w fun e w' => e = .returned (.bool true) ∧ Below w.heap.size w w' :=
  (formatEmpty_ret a0 w0 a1 w1 a2 w2 v3 l3 h3).mono fun e w' ⟨v, he, hv, hc⟩ => ⟨by rw [he, hv], hc.below⟩
end Go.Proofs.Ytomfladifefomaa
