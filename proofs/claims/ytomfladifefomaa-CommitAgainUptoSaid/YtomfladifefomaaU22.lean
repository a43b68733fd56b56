/- 'icehousekeep.CommitAgain' returns true for every two ints, two texts and two slices of booleans. Conditions: the texts are of 1048576 bytes at most. -/
import Derived.Test.YtomfladifefomaaU20
import Derived.Test.YtomfladifefomaaU21
namespace Go.Proofs.Ytomfladifefomaa
open Go.RowKit
set_option linter.unusedSimpArgs false
set_option maxRecDepth 100000 in
set_option maxHeartbeats 32000000 in
theorem commitAgain_ret {w : World} (a0 : Int) (w0 : (Lit.int .i64 a0).wf = true) (s : ByteArray) (hs : s.size + 1 ≤ maxLen) (t : ByteArray) (ht0 : t.size ≤ maxLen) (a3 : Int) (w3 : (Lit.int .i64 a3).wf = true) (v4 : Value) (keep : List Bool) (h4 : BoolsG ⟨Non, w⟩ v4 keep) (v5 : Value) (last : List Bool) (h5 : BoolsG ⟨Non, w⟩ v5 last) :
    Calls Try.prog 21 #[.int .i64 a0, .string s, .string t, .int .i64 a3, v4, v5] w (Ret ⟨Non, w⟩ fun v _ => v = .bool true) := by
  obtain ⟨A', c', rfl, _, _⟩ := ScR.form h4
  obtain ⟨A'', c'', rfl, _, _⟩ := ScR.form h5
  have i0 : i64 a0 := i64_bd w0
  have i3 : i64 a3 := i64_bd w3
  have hs2 : (s.size : Int) + 1 ≤ 9223372036854775807 := by unfold maxLen at hs; omega
  have hr8 : 8 ≤ (geoK a0 a0 a0).ring := by
    show (8 : Int) ≤ 8 + pick a0 30
    have := pick_bd a0 30 (by omega)
    omega
  refine enter (G := ⟨Non, w⟩) (n := 170) 3000 (wf_nonL w) Try.func21 rfl Try.ntmps21 (by simp) ?_
  simp only [go_sem, Nat.reduceAdd, Nat.reduceSub, Nat.reduceMul, Nat.reduceEqDiff, Nat.reduceLT, Nat.reduceLeDiff, Nat.reduceBEq, Nat.reduceBNe, Int.reduceLT, Int.reduceLE, Int.reduceEq, Int.reduceAdd, Int.reduceSub, Int.reduceNeg, reduceCtorEq]
  refine plain_ok (N := 3000) (call_does (fun v _ => v = .agg #[.int .i64 (geoK a0 a0 a0).ring, .int .i64 (geoK a0 a0 a0).area, .int .i64 (geoK a0 a0 a0).hot, .int .i64 (geoK a0 a0 a0).volume, .int .i64 (geoK a0 a0 a0).volumes]) rfl rfl (by kernel_rfl) rfl (by simp only [dOk_some, dOk_none, Nat.reduceLT]) (fun G hG => geometry_does i0 i0 i0 hG.wf)) (QOk_body _ _ _) (by first | exact .inl rfl | exact .inr ⟨_, _, rfl, rfl⟩) ?_
  rintro _ ⟨_, G1, rfl, hn1, rfl⟩
  clear hn1
  have hg := geoK_good a0 a0 a0
  generalize geoK a0 a0 a0 = g at hg hr8
  simp only [go_sem, Nat.reduceAdd, Nat.reduceSub, Nat.reduceMul, Nat.reduceEqDiff, Nat.reduceLT, Nat.reduceLeDiff, Nat.reduceBEq, Nat.reduceBNe, Int.reduceLT, Int.reduceLE, Int.reduceEq, Int.reduceAdd, Int.reduceSub, Int.reduceNeg, reduceCtorEq]
  intro g1
  refine plain_ok (N := 3000) (call_does (fun v G => ∃ dv, v = .tuple #[dv, jrV firstJ, .bool true] ∧ DevG G dv (fmtDev g)) rfl rfl (by kernel_rfl) rfl (by simp only [dOk_some, dOk_none, Nat.reduceLT]) (fun G hG => formatted_does hg hG.wf (tidL hG (by simp) (by simp; decide)))) (QOk_body _ _ _) (by first | exact .inl rfl | exact .inr ⟨_, _, rfl, rfl⟩) ?_
  rintro _ ⟨_, G2, ⟨dv, rfl, hd0⟩, hn2, rfl⟩
  clear hn2
  obtain ⟨hg0, hf0, hc0⟩ := fmtDev_good hg
  have hk0 := fmt_kept hg
  generalize fmtDev g = d0 at hd0 hg0 hf0 hc0 hk0
  obtain ⟨A1, k1, A2, k2, A3, k3, rfl, hfo⟩ := hd0.form
  clear hfo
  have hfirst : firstJ.gen = 1 ∧ firstJ.epoch = 1 ∧ firstJ.used = 0 ∧ firstJ.next = 1 := ⟨rfl, rfl, rfl, rfl⟩
  have hjv : jrV firstJ = .agg #[.int .i64 firstJ.gen, .int .i64 firstJ.epoch, .int .i64 firstJ.area, .int .i64 firstJ.length, .int .i64 firstJ.start, .int .i64 firstJ.first, .int .i64 firstJ.place, .int .i64 firstJ.next, .int .i64 firstJ.used] := rfl
  rw [hjv]
  clear hjv
  generalize firstJ = j0 at hk0 hfirst
  simp only [go_sem, Nat.reduceAdd, Nat.reduceSub, Nat.reduceMul, Nat.reduceEqDiff, Nat.reduceLT, Nat.reduceLeDiff, Nat.reduceBEq, Nat.reduceBNe, Int.reduceLT, Int.reduceLE, Int.reduceEq, Int.reduceAdd, Int.reduceSub, Int.reduceNeg, reduceCtorEq]
  intro g2 g3
  refine cut_code2 (N := 3000) (ι := Dev × (Option Addr × Nat) × (Option Addr × Nat) × (Option Addr × Nat) × GW)
    (fun i => match i with | (z, (F1, f1), (F2, f2), (F3, f3), G) => ⟨[(1, .c (.v (.string s))), (2, .c (.v (.string t))), (4, .c (.v (.slice A' keep.length c'))), (5, .c (.v (.slice A'' last.length c''))), (13, .c (.p 0 g1 0)), (14, .c (.p 1 g2 0)), (15, .c (.p 2 g3 0)), (16, .c (.v (.bool true))), (17, .c (.v (.int .i64 0)))],
      [⟨2, g3, 81, [.v (.int .i64 j0.gen), .v (.int .i64 j0.epoch), .v (.int .i64 j0.area), .v (.int .i64 j0.length), .v (.int .i64 j0.start), .v (.int .i64 j0.first), .v (.int .i64 j0.place), .v (.int .i64 j0.next), .v (.int .i64 j0.used)]⟩, ⟨1, g2, 37, [.v (.slice F1 z.safe.length f1), .v (.slice F2 z.cache.length f2), .v (.slice F3 z.vols.length f3), .v (.int .i64 z.fuel)]⟩, ⟨0, g1, 32, [.v (.int .i64 g.ring), .v (.int .i64 g.area), .v (.int .i64 g.hot), .v (.int .i64 g.volume), .v (.int .i64 g.volumes)]⟩], [], [], [G, ⟨Non, w⟩], 3⟩)
    (fun i => match i with | (z, (F1, f1), (F2, f2), (F3, f3), G) => DevG G (.agg #[.slice F1 z.safe.length f1, .slice F2 z.cache.length f2, .slice F3 z.vols.length f3, .int .i64 z.fuel]) z ∧ GoodDev g z ∧ z.cache.length = 0 ∧ Kept g (content z) j0 [] [] 0) (QOk_body _ _ _) ?_ ?_
  rotate_left
  · intro k' J hk' hJ
    refine draw_ok (N := 3000) (.take 0 (.take 2 (.alt 1 (.alt 3 (.alt 4 (.take 5 (.take 6 (.take 7 (.alt 8 (.take 9 .done) .last)))) .last) .last) (.alt 3 (.alt 1 (.alt 4 (.take 5 (.take 6 (.take 7 (.alt 8 (.take 9 .done) .last)))) .last) .last) .last)))) [1] hk' follows_mixed (by kernel_rfl) (by kernel_rfl) ?_
    simp only [go_sem, Nat.reduceAdd, Nat.reduceSub, Nat.reduceMul, Nat.reduceEqDiff, Nat.reduceLT, Nat.reduceLeDiff, Nat.reduceBEq, Nat.reduceBNe, Int.reduceLT, Int.reduceLE, Int.reduceEq, Int.reduceAdd, Int.reduceSub, Int.reduceNeg, reduceCtorEq]
    refine ⟨?_, ?_⟩
    · refine anyc_ok (N := 3000) (call_does (fun v _ => ∃ k : Nat, (k : Int) = pick a3 7 ∧ (k : Int) < 7 ∧ v = .int .i64 (k : Int)) rfl rfl (by kernel_rfl) rfl (by simp only [dOk_some, dOk_none, Nat.reduceLT]) (fun G hG => picked_does i3.1 i3.2 (by omega) (by omega))) hk' rfl (by first | exact .inl rfl | exact .inr ⟨_, _, rfl, rfl⟩) ?_
      rintro _ ⟨_, G12, ⟨k, _, hk, rfl⟩, hn12, rfl⟩
      clear hn12
      simp only [go_sem, Nat.reduceAdd, Nat.reduceSub, Nat.reduceMul, Nat.reduceEqDiff, Nat.reduceLT, Nat.reduceLeDiff, Nat.reduceBEq, Nat.reduceBNe, Int.reduceLT, Int.reduceLE, Int.reduceEq, Int.reduceAdd, Int.reduceSub, Int.reduceNeg, reduceCtorEq]
      have he : armErr (k : Int) = 0 := by unfold armErr; rw [if_neg (by omega)]
      refine anyc_ok (N := 3000) (call_does (fun v G => ∃ dv, v = .tuple #[dv, .int .i64 0] ∧ DevG G dv { d0 with fuel := (k : Int) }) rfl rfl (by kernel_rfl) rfl (by simp only [dOk_some, dOk_none, Nat.reduceLT]) (fun G hG => ret_mono (arm_does (f := (k : Int)) hg hg0 hG.wf (tidL hG (by simp) (by simp; decide)) (hd0.mono (hG.le G2 (by simp)))) fun v G' _ h => dev_get h he)) hk' rfl (by first | exact .inl rfl | exact .inr ⟨_, _, rfl, rfl⟩) ?_
      rintro _ ⟨_, G13, ⟨dv, rfl, hd2⟩, hn13, rfl⟩
      clear hn13
      obtain ⟨D1, e1, D2, e2, D3, e3, rfl, hfo⟩ := hd2.form
      clear hfo
      simp only [go_sem, Nat.reduceAdd, Nat.reduceSub, Nat.reduceMul, Nat.reduceEqDiff, Nat.reduceLT, Nat.reduceLeDiff, Nat.reduceBEq, Nat.reduceBNe, Int.reduceLT, Int.reduceLE, Int.reduceEq, Int.reduceAdd, Int.reduceSub, Int.reduceNeg, reduceCtorEq]
      exact hJ (_, (D1, e1), (D2, e2), (D3, e3), G13) _ ⟨hd2, good_arm hg0 (by omega) (by omega), hc0, by rw [content_fuel]; exact hk0⟩ (by simp only [go_sem, Nat.reduceAdd, Nat.reduceSub, Nat.reduceMul, Nat.reduceEqDiff, Nat.reduceLT, Nat.reduceLeDiff, Nat.reduceBEq, Nat.reduceBNe, Int.reduceLT, Int.reduceLE, Int.reduceEq, Int.reduceAdd, Int.reduceSub, Int.reduceNeg, reduceCtorEq]; simp)
    · refine anyc_ok (N := 3000) (call_does (fun v _ => ∃ k : Nat, (k : Int) = pick a3 7 ∧ (k : Int) < 7 ∧ v = .int .i64 (k : Int)) rfl rfl (by kernel_rfl) rfl (by simp only [dOk_some, dOk_none, Nat.reduceLT]) (fun G hG => picked_does i3.1 i3.2 (by omega) (by omega))) hk' rfl (by first | exact .inl rfl | exact .inr ⟨_, _, rfl, rfl⟩) ?_
      rintro _ ⟨_, G12, ⟨k, _, hk, rfl⟩, hn12, rfl⟩
      clear hn12
      simp only [go_sem, Nat.reduceAdd, Nat.reduceSub, Nat.reduceMul, Nat.reduceEqDiff, Nat.reduceLT, Nat.reduceLeDiff, Nat.reduceBEq, Nat.reduceBNe, Int.reduceLT, Int.reduceLE, Int.reduceEq, Int.reduceAdd, Int.reduceSub, Int.reduceNeg, reduceCtorEq]
      have he : armErr (k : Int) = 0 := by unfold armErr; rw [if_neg (by omega)]
      refine anyc_ok (N := 3000) (call_does (fun v G => ∃ dv, v = .tuple #[dv, .int .i64 0] ∧ DevG G dv { d0 with fuel := (k : Int) }) rfl rfl (by kernel_rfl) rfl (by simp only [dOk_some, dOk_none, Nat.reduceLT]) (fun G hG => ret_mono (arm_does (f := (k : Int)) hg hg0 hG.wf (tidL hG (by simp) (by simp; decide)) (hd0.mono (hG.le G2 (by simp)))) fun v G' _ h => dev_get h he)) hk' rfl (by first | exact .inl rfl | exact .inr ⟨_, _, rfl, rfl⟩) ?_
      rintro _ ⟨_, G13, ⟨dv, rfl, hd2⟩, hn13, rfl⟩
      clear hn13
      obtain ⟨D1, e1, D2, e2, D3, e3, rfl, hfo⟩ := hd2.form
      clear hfo
      simp only [go_sem, Nat.reduceAdd, Nat.reduceSub, Nat.reduceMul, Nat.reduceEqDiff, Nat.reduceLT, Nat.reduceLeDiff, Nat.reduceBEq, Nat.reduceBNe, Int.reduceLT, Int.reduceLE, Int.reduceEq, Int.reduceAdd, Int.reduceSub, Int.reduceNeg, reduceCtorEq]
      exact hJ (_, (D1, e1), (D2, e2), (D3, e3), G13) _ ⟨hd2, good_arm hg0 (by omega) (by omega), hc0, by rw [content_fuel]; exact hk0⟩ (by simp only [go_sem, Nat.reduceAdd, Nat.reduceSub, Nat.reduceMul, Nat.reduceEqDiff, Nat.reduceLT, Nat.reduceLeDiff, Nat.reduceBEq, Nat.reduceBNe, Int.reduceLT, Int.reduceLE, Int.reduceEq, Int.reduceAdd, Int.reduceSub, Int.reduceNeg, reduceCtorEq]; simp)
  rintro ⟨d2, ⟨D1, e1⟩, ⟨D2, e2⟩, ⟨D3, e3⟩, G13⟩ hC
  obtain ⟨hd2, hg2, hc2, hk2⟩ := hC
  clear hd0 hg0 hf0 hc0 hk0 d0 A1 A2 A3 k1 k2 k3
  simp only
  simp only [go_sem, Nat.reduceAdd, Nat.reduceSub, Nat.reduceMul, Nat.reduceEqDiff, Nat.reduceLT, Nat.reduceLeDiff, Nat.reduceBEq, Nat.reduceBNe, Int.reduceLT, Int.reduceLE, Int.reduceEq, Int.reduceAdd, Int.reduceSub, Int.reduceNeg, reduceCtorEq]
  refine ⟨hs2, ?_⟩
  obtain ⟨T, hTe⟩ : ∃ T : ByteArray, T = s ++ ⟨#[33]⟩ := ⟨_, rfl⟩
  have hT : T.size ≤ maxLen := by rw [hTe, ByteArray.size_append]; exact hs
  rw [← hTe]
  refine plain_ok (N := 3000) (call_does (fun v _ => v = .string (bodyOf T 290)) rfl rfl (by kernel_rfl) rfl (by simp only [dOk_some, dOk_none, Nat.reduceLT]) (fun G hG => body_does hT ⟨by omega, by omega⟩ hG.wf)) (QOk_body _ _ _) (by first | exact .inl rfl | exact .inr ⟨_, _, rfl, rfl⟩) ?_
  rintro _ ⟨_, G8, rfl, hn8, rfl⟩
  clear hn8
  simp only [go_sem, Nat.reduceAdd, Nat.reduceSub, Nat.reduceMul, Nat.reduceEqDiff, Nat.reduceLT, Nat.reduceLeDiff, Nat.reduceBEq, Nat.reduceBNe, Int.reduceLT, Int.reduceLE, Int.reduceEq, Int.reduceAdd, Int.reduceSub, Int.reduceNeg, reduceCtorEq]
  refine ⟨hs2, ?_⟩
  rw [← hTe]
  refine plain_ok (N := 3000) (call_does (fun v _ => v = .string (bodyOf T 290)) rfl rfl (by kernel_rfl) rfl (by simp only [dOk_some, dOk_none, Nat.reduceLT]) (fun G hG => body_does hT ⟨by omega, by omega⟩ hG.wf)) (QOk_body _ _ _) (by first | exact .inl rfl | exact .inr ⟨_, _, rfl, rfl⟩) ?_
  rintro _ ⟨_, G9, rfl, hn9, rfl⟩
  clear hn9
  have hS2 := bodyOf_size T 290
  simp only [go_sem, Nat.reduceAdd, Nat.reduceSub, Nat.reduceMul, Nat.reduceEqDiff, Nat.reduceLT, Nat.reduceLeDiff, Nat.reduceBEq, Nat.reduceBNe, Int.reduceLT, Int.reduceLE, Int.reduceEq, Int.reduceAdd, Int.reduceSub, Int.reduceNeg, reduceCtorEq]
  refine ⟨by omega, ?_⟩
  have hS : ((bodyOf T 290).extract (Int.toNat 0) (min ((bodyOf T 290).size : Int) 250).toNat).size ≤ 250 := by simp; omega
  refine plain_ok (N := 3000) (bytes_does (e := 5) rfl (tyStr9) (tySlice23) (tyInt5) rfl (by simp only [dOk_some, dOk_none, Nat.reduceLT]) (by omega)) (QOk_body _ _ _) (by first | exact .inl rfl | exact .inr ⟨_, _, rfl, rfl⟩) ?_
  rintro _ ⟨Ay, cy, G10, hby, rfl⟩
  generalize (bodyOf T 290).extract (Int.toNat 0) (min ((bodyOf T 290).size : Int) 250).toNat = q at hby hS
  have hly : q.data.toList.length ≤ 250 := by rw [Array.length_toList]; exact hS
  generalize q.data.toList = y at hby hly
  clear hS hS2
  simp only [go_sem, Nat.reduceAdd, Nat.reduceSub, Nat.reduceMul, Nat.reduceEqDiff, Nat.reduceLT, Nat.reduceLeDiff, Nat.reduceBEq, Nat.reduceBNe, Int.reduceLT, Int.reduceLE, Int.reduceEq, Int.reduceAdd, Int.reduceSub, Int.reduceNeg, reduceCtorEq]
  have hcy : cnt y ≤ 5 ∧ 1 ≤ cnt y := by unfold cnt; omega
  have hnf2 : ¬ fullJ g j0 y := by unfold fullJ; omega
  obtain ⟨hy2, hgy, hky⟩ := die_kept hg hg2 hc2 hk2 hnf2
  refine plain_ok (N := 3000) (call_does (fun u G => HandE g (hFlush (commitTo g d2 j0 y (cnt y))) (moreJ g j0 y) u G) rfl rfl (by kernel_rfl) rfl (by simp only [dOk_some, dOk_none, Nat.reduceLT]) (fun G hG => ret_mono (commit_any hg hg2 hk2.ok (by omega) hG.wf (tidL hG (by simp) (by simp; decide)) (hd2.mono (hG.le G13 (by simp))) (ByG.mono hby (hG.le G10 (by simp)))) fun u G' _ h => by rcases h with ⟨q, _⟩ | ⟨_, h⟩; exact absurd q hnf2; exact h)) (QOk_body _ _ _) (by first | exact .inl rfl | exact .inr ⟨_, _, rfl, rfl⟩) ?_
  rintro _ ⟨_, G14, ⟨dv, rfl, hE1, _⟩, hn14, rfl⟩
  clear hn14
  have hd3 := hE1 hy2
  have hky := hky keep
  clear hE1
  have hj2 : (moreJ g j0 y).gen = 1 ∧ (moreJ g j0 y).epoch = 1 ∧ (moreJ g j0 y).used = (cnt y : Int) ∧ (moreJ g j0 y).next = 2 := ⟨hfirst.1, hfirst.2.1, by show j0.used + (cnt y : Int) = _; omega, by show j0.next + 1 = 2; omega⟩
  generalize (if (hFlush (commitTo g d2 j0 y (cnt y))).2 = 0 then moreJ g j0 y else zeroJr) = J3
  generalize hFlush (commitTo g d2 j0 y (cnt y)) = yy at *
  generalize moreJ g j0 y = j2 at *
  obtain ⟨d3, e⟩ := yy
  simp only at hy2 hgy hky hd3 ⊢
  obtain ⟨E1, m1, E2, m2, E3, m3, rfl, hfo⟩ := hd3.form
  clear hfo
  rcases hky with hkA | ⟨rfl, hkB, hsB⟩
  · rcases hy2 with rfl | rfl
    all_goals
      simp only [go_sem, Nat.reduceAdd, Nat.reduceSub, Nat.reduceMul, Nat.reduceEqDiff, Nat.reduceLT, Nat.reduceLeDiff, Nat.reduceBEq, Nat.reduceBNe, Int.reduceLT, Int.reduceLE, Int.reduceEq, Int.reduceAdd, Int.reduceSub, Int.reduceNeg, reduceCtorEq, jrV]
      intro g4 g5
      refine plain_ok (N := 3000) (call_does (fun u G => ∃ dv A c A2 c2, u = .tuple #[dv, jrV (upJ j2), .slice A 0 c, .slice A2 1 c2, .bool true] ∧ DevG G dv (backX d3 keep j2)) rfl rfl (by kernel_rfl) rfl (by simp only [dOk_some, dOk_none, Nat.reduceLT]) (fun G hG => ret_mono (opened_does (keep := keep) hg hgy hkA (hkA.stops _) (by omega) (by omega) hG.wf (tidL hG (by simp) (by simp; decide)) (hd3.mono (hG.le G14 (by simp))) (ScR.mono h4 boolG_mono (hG.le ⟨Non, w⟩ (by simp)))) fun u G' _ h => by obtain ⟨dv, A, c, A2, c2, e, h1, _, h3⟩ := h; exact ⟨dv, A, c, A2, c2, e, h1⟩)) (QOk_body _ _ _) (by first | exact .inl rfl | exact .inr ⟨_, _, rfl, rfl⟩) ?_
      rintro _ ⟨_, G15, ⟨dv, Ao, co, Aa, ca, rfl, hd5⟩, hn15, rfl⟩
      clear hn15
      obtain ⟨hk5, hg5, hf5, hc5⟩ := back_kept hg hgy keep hkA (by omega) (by omega)
      have hj5 : (upJ j2).gen = j2.gen + 1 ∧ (upJ j2).epoch = j2.epoch + 1 ∧ (upJ j2).used = j2.used ∧ (upJ j2).next = j2.next := ⟨rfl, rfl, rfl, rfl⟩
      generalize backX d3 keep j2 = d5 at hd5 hk5 hg5 hf5 hc5
      generalize upJ j2 = j5 at hk5 hj5
      obtain ⟨L1, s1, L2, s2, L3, s3, rfl, hfo⟩ := hd5.form
      clear hfo
      simp only [go_sem, Nat.reduceAdd, Nat.reduceSub, Nat.reduceMul, Nat.reduceEqDiff, Nat.reduceLT, Nat.reduceLeDiff, Nat.reduceBEq, Nat.reduceBNe, Int.reduceLT, Int.reduceLE, Int.reduceEq, Int.reduceAdd, Int.reduceSub, Int.reduceNeg, reduceCtorEq, jrV]
      refine plain_ok (N := 3000) (call_does (fun v _ => v = .string (bodyOf t 90)) rfl rfl (by kernel_rfl) rfl (by simp only [dOk_some, dOk_none, Nat.reduceLT]) (fun G hG => body_does ht0 ⟨by omega, by omega⟩ hG.wf)) (QOk_body _ _ _) (by first | exact .inl rfl | exact .inr ⟨_, _, rfl, rfl⟩) ?_
      rintro _ ⟨_, G16, rfl, hn16, rfl⟩
      clear hn16
      simp only [go_sem, Nat.reduceAdd, Nat.reduceSub, Nat.reduceMul, Nat.reduceEqDiff, Nat.reduceLT, Nat.reduceLeDiff, Nat.reduceBEq, Nat.reduceBNe, Int.reduceLT, Int.reduceLE, Int.reduceEq, Int.reduceAdd, Int.reduceSub, Int.reduceNeg, reduceCtorEq]
      refine plain_ok (N := 3000) (call_does (fun v _ => v = .string (bodyOf t 90)) rfl rfl (by kernel_rfl) rfl (by simp only [dOk_some, dOk_none, Nat.reduceLT]) (fun G hG => body_does ht0 ⟨by omega, by omega⟩ hG.wf)) (QOk_body _ _ _) (by first | exact .inl rfl | exact .inr ⟨_, _, rfl, rfl⟩) ?_
      rintro _ ⟨_, G17, rfl, hn17, rfl⟩
      clear hn17
      have hS2 := bodyOf_size t 90
      simp only [go_sem, Nat.reduceAdd, Nat.reduceSub, Nat.reduceMul, Nat.reduceEqDiff, Nat.reduceLT, Nat.reduceLeDiff, Nat.reduceBEq, Nat.reduceBNe, Int.reduceLT, Int.reduceLE, Int.reduceEq, Int.reduceAdd, Int.reduceSub, Int.reduceNeg, reduceCtorEq]
      refine ⟨by omega, ?_⟩
      have hS : ((bodyOf t 90).extract (Int.toNat 0) (min ((bodyOf t 90).size : Int) 80).toNat).size ≤ 80 := by simp; omega
      refine plain_ok (N := 3000) (bytes_does (e := 5) rfl (tyStr9) (tySlice23) (tyInt5) rfl (by simp only [dOk_some, dOk_none, Nat.reduceLT]) (by omega)) (QOk_body _ _ _) (by first | exact .inl rfl | exact .inr ⟨_, _, rfl, rfl⟩) ?_
      rintro _ ⟨Az, cz, G18, hbz, rfl⟩
      generalize (bodyOf t 90).extract (Int.toNat 0) (min ((bodyOf t 90).size : Int) 80).toNat = q at hbz hS
      have hlz : q.data.toList.length ≤ 80 := by rw [Array.length_toList]; exact hS
      generalize q.data.toList = z at hbz hlz
      clear hS hS2
      simp only [go_sem, Nat.reduceAdd, Nat.reduceSub, Nat.reduceMul, Nat.reduceEqDiff, Nat.reduceLT, Nat.reduceLeDiff, Nat.reduceBEq, Nat.reduceBNe, Int.reduceLT, Int.reduceLE, Int.reduceEq, Int.reduceAdd, Int.reduceSub, Int.reduceNeg, reduceCtorEq]
      have hcz : cnt z ≤ 2 ∧ 1 ≤ cnt z := by unfold cnt; omega
      have hnf5 : ¬ fullJ g j5 z := by unfold fullJ; omega
      refine plain_ok (N := 3000) (call_does (fun u G => ∃ dv, u = .tuple #[dv, jrV (moreJ g j5 z), .int .i64 0] ∧ DevG G dv (hFlush (commitTo g d5 j5 z (cnt z))).1) rfl rfl (by kernel_rfl) rfl (by simp only [dOk_some, dOk_none, Nat.reduceLT]) (fun G hG => ret_mono (commit_does hg hg5 hf5 hc5 (kept_weak hk5) (by omega) hG.wf (tidL hG (by simp) (by simp; decide)) (hd5.mono (hG.le G15 (by simp))) (ByG.mono hbz (hG.le G18 (by simp)))) fun u G' _ h => by rcases h with ⟨q, _⟩ | ⟨_, h⟩; exact absurd q hnf5; exact h)) (QOk_body _ _ _) (by first | exact .inl rfl | exact .inr ⟨_, _, rfl, rfl⟩) ?_
      rintro _ ⟨_, G19, ⟨dv, rfl, hd6⟩, hn19, rfl⟩
      clear hn19
      obtain ⟨_, hg6, hf6, hc6, hk6⟩ := commit_kept hg hg5 hf5 hc5 (kept_weak hk5) hnf5
      have hj6 : (moreJ g j5 z).gen = j5.gen ∧ (moreJ g j5 z).epoch = j5.epoch := ⟨rfl, rfl⟩
      generalize (hFlush (commitTo g d5 j5 z (cnt z))).1 = d6 at hd6 hg6 hf6 hc6 hk6
      generalize moreJ g j5 z = j6 at hk6 hj6
      obtain ⟨M1, t1, M2, t2, M3, t3, rfl, hfo⟩ := hd6.form
      clear hfo
      simp only [go_sem, Nat.reduceAdd, Nat.reduceSub, Nat.reduceMul, Nat.reduceEqDiff, Nat.reduceLT, Nat.reduceLeDiff, Nat.reduceBEq, Nat.reduceBNe, Int.reduceLT, Int.reduceLE, Int.reduceEq, Int.reduceAdd, Int.reduceSub, Int.reduceNeg, reduceCtorEq, jrV]
      have hk7 := kept_crash hg hg6 hc6 last hk6
      refine plain_ok (N := 3000) (call_does (fun u G => ∃ dv A c A2 c2, u = .tuple #[dv, jrV (upJ j6), .slice A 0 c, .slice A2 2 c2, .bool true] ∧ DevG G dv (backX d6 last j6) ∧ SafG G (.slice A2 2 c2) [y, z]) rfl rfl (by kernel_rfl) rfl (by simp only [dOk_some, dOk_none, Nat.reduceLT]) (fun G hG => ret_mono (opened_does (keep := last) hg hg6 hk7 (hk7.stops _) (by omega) (by omega) hG.wf (tidL hG (by simp) (by simp; decide)) (hd6.mono (hG.le G19 (by simp))) (ScR.mono h5 boolG_mono (hG.le ⟨Non, w⟩ (by simp)))) fun u G' _ h => by obtain ⟨dv, A, c, A2, c2, e, h1, _, h3⟩ := h; exact ⟨dv, A, c, A2, c2, e, h1, h3⟩)) (QOk_body _ _ _) (by first | exact .inl rfl | exact .inr ⟨_, _, rfl, rfl⟩) ?_
      rintro _ ⟨_, G20, ⟨dv, Ap, cp, Aq, cq, rfl, hd7, hal⟩, hn20, rfl⟩
      clear hn20
      obtain ⟨N1, u1, N2, u2, N3, u3, rfl, hfo⟩ := hd7.form
      clear hfo
      have r1 : decide (((2 : Nat) : Int) = ((1 : Nat) : Int) + 1) = true := rfl
      have r2 : decide (j6.next = j6.next) = true := decide_eq_true rfl
      have r3 : decide (((1 : Nat) : Int) = 0) = false := rfl
      simp only [go_sem, Nat.reduceAdd, Nat.reduceSub, Nat.reduceMul, Nat.reduceEqDiff, Nat.reduceLT, Nat.reduceLeDiff, Nat.reduceBEq, Nat.reduceBNe, Int.reduceLT, Int.reduceLE, Int.reduceEq, Int.reduceAdd, Int.reduceSub, Int.reduceNeg, reduceCtorEq, jrV, upJ, r1, r2]
      intro g6 g7
      repeat (refine And.intro (by omega) ?_)
      have hz0 : ([y, z] : List (List UInt8))[1]? = some z := rfl
      refine preview_ok (R := RowG) (kc := 1) hz0 (fun G hG => (Sq.mono hal rowG_mono (hG G20 (by simp))).sc) fun ga oa csa Ga hA _ hca hlea => ?_
      subst hA
      clear hlea
      obtain ⟨Abb, cbb, rfl, hbz2⟩ := rowcell hca
      simp only [go_sem, Nat.reduceAdd, Nat.reduceSub, Nat.reduceMul, Nat.reduceEqDiff, Nat.reduceLT, Nat.reduceLeDiff, Nat.reduceBEq, Nat.reduceBNe, Int.reduceLT, Int.reduceLE, Int.reduceEq, Int.reduceAdd, Int.reduceSub, Int.reduceNeg, reduceCtorEq]
      have hy0 : ([y, z] : List (List UInt8))[0]? = some y := rfl
      refine preview_ok (R := RowG) (kc := 1) hy0 (fun G hG => (Sq.mono hal rowG_mono (hG G20 (by simp))).sc) fun gc oc csc Gc hA _ hcc hlec => ?_
      cases hA
      clear hlec
      obtain ⟨Acc, ccc, rfl, hby2⟩ := rowcell hcc
      simp only [go_sem, Nat.reduceAdd, Nat.reduceSub, Nat.reduceMul, Nat.reduceEqDiff, Nat.reduceLT, Nat.reduceLeDiff, Nat.reduceBEq, Nat.reduceBNe, Int.reduceLT, Int.reduceLE, Int.reduceEq, Int.reduceAdd, Int.reduceSub, Int.reduceNeg, reduceCtorEq]
      refine draw_ok (N := 3000) (.take 0 (.take 1 (.take 2 (.take 3 (.take 4 (.take 6 (.alt 5 (.alt 7 (.take 8 (.take 9 (.take 10 (.take 11 (.take 12 (.take 13 (.take 14 (.take 15 (.take 16 (.take 18 (.alt 17 (.alt 19 (.take 20 (.take 21 (.take 22 (.take 23 .done)))) .last) (.alt 19 (.alt 17 (.take 20 (.take 21 (.take 22 (.take 23 .done)))) .last) .last)))))))))))) .last) (.alt 7 (.alt 5 (.take 8 (.take 9 (.take 10 (.take 11 (.take 12 (.take 13 (.take 14 (.take 15 (.take 16 (.take 18 (.alt 17 (.alt 19 (.take 20 (.take 21 (.take 22 (.take 23 .done)))) .last) (.alt 19 (.alt 17 (.take 20 (.take 21 (.take 22 (.take 23 .done)))) .last) .last)))))))))))) .last) .last)))))))) [] (QOk_body _ _ _) follows_mixed (by kernel_rfl) (by kernel_rfl) ?_
      simp only [go_sem, Nat.reduceAdd, Nat.reduceSub, Nat.reduceMul, Nat.reduceEqDiff, Nat.reduceLT, Nat.reduceLeDiff, Nat.reduceBEq, Nat.reduceBNe, Int.reduceLT, Int.reduceLE, Int.reduceEq, Int.reduceAdd, Int.reduceSub, Int.reduceNeg, reduceCtorEq, r3]
      refine take_elem 7 (m := 1) rfl tySlice29 tySize23 rfl rfl (by simp only [dOk_some, dOk_none, Nat.reduceLT]) rfl (by omega) ?_
      simp only [go_sem, Nat.reduceAdd, Nat.reduceSub, Nat.reduceMul, Nat.reduceEqDiff, Nat.reduceLT, Nat.reduceLeDiff, Nat.reduceBEq, Nat.reduceBNe, Int.reduceLT, Int.reduceLE, Int.reduceEq, Int.reduceAdd, Int.reduceSub, Int.reduceNeg, reduceCtorEq, r3]
      refine ⟨?_, ?_⟩
      · refine any_ok2 (N := 3000) (text_does (bs := z) (e := 5) rfl tyStr9 tySlice23 tyInt5 rfl (by simp only [dOk_some, dOk_none, Nat.reduceLT]) (fun G hG => ByG.mono hbz2 (hG.le Ga (by simp)))) (QOk_body _ _ _) rfl (by first | exact .inl rfl | exact .inr ⟨_, _, rfl, rfl⟩) (by intro _ hK; first | (obtain ⟨_, _, _, _, rfl⟩ := hK; exact ⟨rfl, fun _ h => h⟩) | (obtain ⟨_, _, rfl⟩ := hK; exact ⟨rfl, fun _ h => h⟩) | (obtain ⟨_, _, _, _, _, _, rfl⟩ := hK; exact ⟨rfl, fun _ h => List.mem_cons_of_mem _ h⟩) | (obtain ⟨_, _, _, _, _, _, _, rfl⟩ := hK; exact ⟨rfl, fun _ h => List.mem_cons_of_mem _ h⟩) | (obtain rfl := hK; exact ⟨rfl, fun _ h => h⟩)) ?_
        rintro _ rfl
        simp only [go_sem, Nat.reduceAdd, Nat.reduceSub, Nat.reduceMul, Nat.reduceEqDiff, Nat.reduceLT, Nat.reduceLeDiff, Nat.reduceBEq, Nat.reduceBNe, Int.reduceLT, Int.reduceLE, Int.reduceEq, Int.reduceAdd, Int.reduceSub, Int.reduceNeg, reduceCtorEq, r3]
        refine any_ok2 (N := 3000) (text_does (bs := z) (e := 5) rfl tyStr9 tySlice23 tyInt5 rfl (by simp only [dOk_some, dOk_none, Nat.reduceLT]) (fun G hG => ByG.mono hbz (hG.le G18 (by simp)))) (QOk_body _ _ _) rfl (by first | exact .inl rfl | exact .inr ⟨_, _, rfl, rfl⟩) (by intro _ hK; first | (obtain ⟨_, _, _, _, rfl⟩ := hK; exact ⟨rfl, fun _ h => h⟩) | (obtain ⟨_, _, rfl⟩ := hK; exact ⟨rfl, fun _ h => h⟩) | (obtain ⟨_, _, _, _, _, _, rfl⟩ := hK; exact ⟨rfl, fun _ h => List.mem_cons_of_mem _ h⟩) | (obtain ⟨_, _, _, _, _, _, _, rfl⟩ := hK; exact ⟨rfl, fun _ h => List.mem_cons_of_mem _ h⟩) | (obtain rfl := hK; exact ⟨rfl, fun _ h => h⟩)) ?_
        rintro _ rfl
        simp only [go_sem, Nat.reduceAdd, Nat.reduceSub, Nat.reduceMul, Nat.reduceEqDiff, Nat.reduceLT, Nat.reduceLeDiff, Nat.reduceBEq, Nat.reduceBNe, Int.reduceLT, Int.reduceLE, Int.reduceEq, Int.reduceAdd, Int.reduceSub, Int.reduceNeg, reduceCtorEq, r3]
        refine take_elem 8 (m := 0) rfl tySlice29 tySize23 rfl rfl (by simp only [dOk_some, dOk_none, Nat.reduceLT]) rfl (by omega) ?_
        simp only [go_sem, Nat.reduceAdd, Nat.reduceSub, Nat.reduceMul, Nat.reduceEqDiff, Nat.reduceLT, Nat.reduceLeDiff, Nat.reduceBEq, Nat.reduceBNe, Int.reduceLT, Int.reduceLE, Int.reduceEq, Int.reduceAdd, Int.reduceSub, Int.reduceNeg, reduceCtorEq, r3]
        refine ⟨?_, ?_⟩
        · refine any_ok2 (N := 3000) (text_does (bs := y) (e := 5) rfl tyStr9 tySlice23 tyInt5 rfl (by simp only [dOk_some, dOk_none, Nat.reduceLT]) (fun G hG => ByG.mono hby2 (hG.le Gc (by simp)))) (QOk_body _ _ _) rfl (by first | exact .inl rfl | exact .inr ⟨_, _, rfl, rfl⟩) (by intro _ hK; first | (obtain ⟨_, _, _, _, rfl⟩ := hK; exact ⟨rfl, fun _ h => h⟩) | (obtain ⟨_, _, rfl⟩ := hK; exact ⟨rfl, fun _ h => h⟩) | (obtain ⟨_, _, _, _, _, _, rfl⟩ := hK; exact ⟨rfl, fun _ h => List.mem_cons_of_mem _ h⟩) | (obtain ⟨_, _, _, _, _, _, _, rfl⟩ := hK; exact ⟨rfl, fun _ h => List.mem_cons_of_mem _ h⟩) | (obtain rfl := hK; exact ⟨rfl, fun _ h => h⟩)) ?_
          rintro _ rfl
          simp only [go_sem, Nat.reduceAdd, Nat.reduceSub, Nat.reduceMul, Nat.reduceEqDiff, Nat.reduceLT, Nat.reduceLeDiff, Nat.reduceBEq, Nat.reduceBNe, Int.reduceLT, Int.reduceLE, Int.reduceEq, Int.reduceAdd, Int.reduceSub, Int.reduceNeg, reduceCtorEq, r3]
          refine any_ok2 (N := 3000) (text_does (bs := y) (e := 5) rfl tyStr9 tySlice23 tyInt5 rfl (by simp only [dOk_some, dOk_none, Nat.reduceLT]) (fun G hG => ByG.mono hby (hG.le G10 (by simp)))) (QOk_body _ _ _) rfl (by first | exact .inl rfl | exact .inr ⟨_, _, rfl, rfl⟩) (by intro _ hK; first | (obtain ⟨_, _, _, _, rfl⟩ := hK; exact ⟨rfl, fun _ h => h⟩) | (obtain ⟨_, _, rfl⟩ := hK; exact ⟨rfl, fun _ h => h⟩) | (obtain ⟨_, _, _, _, _, _, rfl⟩ := hK; exact ⟨rfl, fun _ h => List.mem_cons_of_mem _ h⟩) | (obtain ⟨_, _, _, _, _, _, _, rfl⟩ := hK; exact ⟨rfl, fun _ h => List.mem_cons_of_mem _ h⟩) | (obtain rfl := hK; exact ⟨rfl, fun _ h => h⟩)) ?_
          rintro _ rfl
          simp only [go_sem, Nat.reduceAdd, Nat.reduceSub, Nat.reduceMul, Nat.reduceEqDiff, Nat.reduceLT, Nat.reduceLeDiff, Nat.reduceBEq, Nat.reduceBNe, Int.reduceLT, Int.reduceLE, Int.reduceEq, Int.reduceAdd, Int.reduceSub, Int.reduceNeg, reduceCtorEq, r3]
          refine fin_ret (G := ⟨Non, w⟩) Try.results21 ?_
          simp only [go_sem, Nat.reduceAdd, Nat.reduceSub, Nat.reduceMul, Nat.reduceEqDiff, Nat.reduceLT, Nat.reduceLeDiff, Nat.reduceBEq, Nat.reduceBNe, Int.reduceLT, Int.reduceLE, Int.reduceEq, Int.reduceAdd, Int.reduceSub, Int.reduceNeg, reduceCtorEq]
          intro aa w' _ _
          rfl
        · refine any_ok2 (N := 3000) (text_does (bs := y) (e := 5) rfl tyStr9 tySlice23 tyInt5 rfl (by simp only [dOk_some, dOk_none, Nat.reduceLT]) (fun G hG => ByG.mono hby (hG.le G10 (by simp)))) (QOk_body _ _ _) rfl (by first | exact .inl rfl | exact .inr ⟨_, _, rfl, rfl⟩) (by intro _ hK; first | (obtain ⟨_, _, _, _, rfl⟩ := hK; exact ⟨rfl, fun _ h => h⟩) | (obtain ⟨_, _, rfl⟩ := hK; exact ⟨rfl, fun _ h => h⟩) | (obtain ⟨_, _, _, _, _, _, rfl⟩ := hK; exact ⟨rfl, fun _ h => List.mem_cons_of_mem _ h⟩) | (obtain ⟨_, _, _, _, _, _, _, rfl⟩ := hK; exact ⟨rfl, fun _ h => List.mem_cons_of_mem _ h⟩) | (obtain rfl := hK; exact ⟨rfl, fun _ h => h⟩)) ?_
          rintro _ rfl
          simp only [go_sem, Nat.reduceAdd, Nat.reduceSub, Nat.reduceMul, Nat.reduceEqDiff, Nat.reduceLT, Nat.reduceLeDiff, Nat.reduceBEq, Nat.reduceBNe, Int.reduceLT, Int.reduceLE, Int.reduceEq, Int.reduceAdd, Int.reduceSub, Int.reduceNeg, reduceCtorEq, r3]
          refine any_ok2 (N := 3000) (text_does (bs := y) (e := 5) rfl tyStr9 tySlice23 tyInt5 rfl (by simp only [dOk_some, dOk_none, Nat.reduceLT]) (fun G hG => ByG.mono hby2 (hG.le Gc (by simp)))) (QOk_body _ _ _) rfl (by first | exact .inl rfl | exact .inr ⟨_, _, rfl, rfl⟩) (by intro _ hK; first | (obtain ⟨_, _, _, _, rfl⟩ := hK; exact ⟨rfl, fun _ h => h⟩) | (obtain ⟨_, _, rfl⟩ := hK; exact ⟨rfl, fun _ h => h⟩) | (obtain ⟨_, _, _, _, _, _, rfl⟩ := hK; exact ⟨rfl, fun _ h => List.mem_cons_of_mem _ h⟩) | (obtain ⟨_, _, _, _, _, _, _, rfl⟩ := hK; exact ⟨rfl, fun _ h => List.mem_cons_of_mem _ h⟩) | (obtain rfl := hK; exact ⟨rfl, fun _ h => h⟩)) ?_
          rintro _ rfl
          simp only [go_sem, Nat.reduceAdd, Nat.reduceSub, Nat.reduceMul, Nat.reduceEqDiff, Nat.reduceLT, Nat.reduceLeDiff, Nat.reduceBEq, Nat.reduceBNe, Int.reduceLT, Int.reduceLE, Int.reduceEq, Int.reduceAdd, Int.reduceSub, Int.reduceNeg, reduceCtorEq, r3]
          refine fin_ret (G := ⟨Non, w⟩) Try.results21 ?_
          simp only [go_sem, Nat.reduceAdd, Nat.reduceSub, Nat.reduceMul, Nat.reduceEqDiff, Nat.reduceLT, Nat.reduceLeDiff, Nat.reduceBEq, Nat.reduceBNe, Int.reduceLT, Int.reduceLE, Int.reduceEq, Int.reduceAdd, Int.reduceSub, Int.reduceNeg, reduceCtorEq]
          intro aa w' _ _
          rfl
      · refine any_ok2 (N := 3000) (text_does (bs := z) (e := 5) rfl tyStr9 tySlice23 tyInt5 rfl (by simp only [dOk_some, dOk_none, Nat.reduceLT]) (fun G hG => ByG.mono hbz (hG.le G18 (by simp)))) (QOk_body _ _ _) rfl (by first | exact .inl rfl | exact .inr ⟨_, _, rfl, rfl⟩) (by intro _ hK; first | (obtain ⟨_, _, _, _, rfl⟩ := hK; exact ⟨rfl, fun _ h => h⟩) | (obtain ⟨_, _, rfl⟩ := hK; exact ⟨rfl, fun _ h => h⟩) | (obtain ⟨_, _, _, _, _, _, rfl⟩ := hK; exact ⟨rfl, fun _ h => List.mem_cons_of_mem _ h⟩) | (obtain ⟨_, _, _, _, _, _, _, rfl⟩ := hK; exact ⟨rfl, fun _ h => List.mem_cons_of_mem _ h⟩) | (obtain rfl := hK; exact ⟨rfl, fun _ h => h⟩)) ?_
        rintro _ rfl
        simp only [go_sem, Nat.reduceAdd, Nat.reduceSub, Nat.reduceMul, Nat.reduceEqDiff, Nat.reduceLT, Nat.reduceLeDiff, Nat.reduceBEq, Nat.reduceBNe, Int.reduceLT, Int.reduceLE, Int.reduceEq, Int.reduceAdd, Int.reduceSub, Int.reduceNeg, reduceCtorEq, r3]
        refine any_ok2 (N := 3000) (text_does (bs := z) (e := 5) rfl tyStr9 tySlice23 tyInt5 rfl (by simp only [dOk_some, dOk_none, Nat.reduceLT]) (fun G hG => ByG.mono hbz2 (hG.le Ga (by simp)))) (QOk_body _ _ _) rfl (by first | exact .inl rfl | exact .inr ⟨_, _, rfl, rfl⟩) (by intro _ hK; first | (obtain ⟨_, _, _, _, rfl⟩ := hK; exact ⟨rfl, fun _ h => h⟩) | (obtain ⟨_, _, rfl⟩ := hK; exact ⟨rfl, fun _ h => h⟩) | (obtain ⟨_, _, _, _, _, _, rfl⟩ := hK; exact ⟨rfl, fun _ h => List.mem_cons_of_mem _ h⟩) | (obtain ⟨_, _, _, _, _, _, _, rfl⟩ := hK; exact ⟨rfl, fun _ h => List.mem_cons_of_mem _ h⟩) | (obtain rfl := hK; exact ⟨rfl, fun _ h => h⟩)) ?_
        rintro _ rfl
        simp only [go_sem, Nat.reduceAdd, Nat.reduceSub, Nat.reduceMul, Nat.reduceEqDiff, Nat.reduceLT, Nat.reduceLeDiff, Nat.reduceBEq, Nat.reduceBNe, Int.reduceLT, Int.reduceLE, Int.reduceEq, Int.reduceAdd, Int.reduceSub, Int.reduceNeg, reduceCtorEq, r3]
        refine take_elem 8 (m := 0) rfl tySlice29 tySize23 rfl rfl (by simp only [dOk_some, dOk_none, Nat.reduceLT]) rfl (by omega) ?_
        simp only [go_sem, Nat.reduceAdd, Nat.reduceSub, Nat.reduceMul, Nat.reduceEqDiff, Nat.reduceLT, Nat.reduceLeDiff, Nat.reduceBEq, Nat.reduceBNe, Int.reduceLT, Int.reduceLE, Int.reduceEq, Int.reduceAdd, Int.reduceSub, Int.reduceNeg, reduceCtorEq, r3]
        refine ⟨?_, ?_⟩
        · refine any_ok2 (N := 3000) (text_does (bs := y) (e := 5) rfl tyStr9 tySlice23 tyInt5 rfl (by simp only [dOk_some, dOk_none, Nat.reduceLT]) (fun G hG => ByG.mono hby2 (hG.le Gc (by simp)))) (QOk_body _ _ _) rfl (by first | exact .inl rfl | exact .inr ⟨_, _, rfl, rfl⟩) (by intro _ hK; first | (obtain ⟨_, _, _, _, rfl⟩ := hK; exact ⟨rfl, fun _ h => h⟩) | (obtain ⟨_, _, rfl⟩ := hK; exact ⟨rfl, fun _ h => h⟩) | (obtain ⟨_, _, _, _, _, _, rfl⟩ := hK; exact ⟨rfl, fun _ h => List.mem_cons_of_mem _ h⟩) | (obtain ⟨_, _, _, _, _, _, _, rfl⟩ := hK; exact ⟨rfl, fun _ h => List.mem_cons_of_mem _ h⟩) | (obtain rfl := hK; exact ⟨rfl, fun _ h => h⟩)) ?_
          rintro _ rfl
          simp only [go_sem, Nat.reduceAdd, Nat.reduceSub, Nat.reduceMul, Nat.reduceEqDiff, Nat.reduceLT, Nat.reduceLeDiff, Nat.reduceBEq, Nat.reduceBNe, Int.reduceLT, Int.reduceLE, Int.reduceEq, Int.reduceAdd, Int.reduceSub, Int.reduceNeg, reduceCtorEq, r3]
          refine any_ok2 (N := 3000) (text_does (bs := y) (e := 5) rfl tyStr9 tySlice23 tyInt5 rfl (by simp only [dOk_some, dOk_none, Nat.reduceLT]) (fun G hG => ByG.mono hby (hG.le G10 (by simp)))) (QOk_body _ _ _) rfl (by first | exact .inl rfl | exact .inr ⟨_, _, rfl, rfl⟩) (by intro _ hK; first | (obtain ⟨_, _, _, _, rfl⟩ := hK; exact ⟨rfl, fun _ h => h⟩) | (obtain ⟨_, _, rfl⟩ := hK; exact ⟨rfl, fun _ h => h⟩) | (obtain ⟨_, _, _, _, _, _, rfl⟩ := hK; exact ⟨rfl, fun _ h => List.mem_cons_of_mem _ h⟩) | (obtain ⟨_, _, _, _, _, _, _, rfl⟩ := hK; exact ⟨rfl, fun _ h => List.mem_cons_of_mem _ h⟩) | (obtain rfl := hK; exact ⟨rfl, fun _ h => h⟩)) ?_
          rintro _ rfl
          simp only [go_sem, Nat.reduceAdd, Nat.reduceSub, Nat.reduceMul, Nat.reduceEqDiff, Nat.reduceLT, Nat.reduceLeDiff, Nat.reduceBEq, Nat.reduceBNe, Int.reduceLT, Int.reduceLE, Int.reduceEq, Int.reduceAdd, Int.reduceSub, Int.reduceNeg, reduceCtorEq, r3]
          refine fin_ret (G := ⟨Non, w⟩) Try.results21 ?_
          simp only [go_sem, Nat.reduceAdd, Nat.reduceSub, Nat.reduceMul, Nat.reduceEqDiff, Nat.reduceLT, Nat.reduceLeDiff, Nat.reduceBEq, Nat.reduceBNe, Int.reduceLT, Int.reduceLE, Int.reduceEq, Int.reduceAdd, Int.reduceSub, Int.reduceNeg, reduceCtorEq]
          intro aa w' _ _
          rfl
        · refine any_ok2 (N := 3000) (text_does (bs := y) (e := 5) rfl tyStr9 tySlice23 tyInt5 rfl (by simp only [dOk_some, dOk_none, Nat.reduceLT]) (fun G hG => ByG.mono hby (hG.le G10 (by simp)))) (QOk_body _ _ _) rfl (by first | exact .inl rfl | exact .inr ⟨_, _, rfl, rfl⟩) (by intro _ hK; first | (obtain ⟨_, _, _, _, rfl⟩ := hK; exact ⟨rfl, fun _ h => h⟩) | (obtain ⟨_, _, rfl⟩ := hK; exact ⟨rfl, fun _ h => h⟩) | (obtain ⟨_, _, _, _, _, _, rfl⟩ := hK; exact ⟨rfl, fun _ h => List.mem_cons_of_mem _ h⟩) | (obtain ⟨_, _, _, _, _, _, _, rfl⟩ := hK; exact ⟨rfl, fun _ h => List.mem_cons_of_mem _ h⟩) | (obtain rfl := hK; exact ⟨rfl, fun _ h => h⟩)) ?_
          rintro _ rfl
          simp only [go_sem, Nat.reduceAdd, Nat.reduceSub, Nat.reduceMul, Nat.reduceEqDiff, Nat.reduceLT, Nat.reduceLeDiff, Nat.reduceBEq, Nat.reduceBNe, Int.reduceLT, Int.reduceLE, Int.reduceEq, Int.reduceAdd, Int.reduceSub, Int.reduceNeg, reduceCtorEq, r3]
          refine any_ok2 (N := 3000) (text_does (bs := y) (e := 5) rfl tyStr9 tySlice23 tyInt5 rfl (by simp only [dOk_some, dOk_none, Nat.reduceLT]) (fun G hG => ByG.mono hby2 (hG.le Gc (by simp)))) (QOk_body _ _ _) rfl (by first | exact .inl rfl | exact .inr ⟨_, _, rfl, rfl⟩) (by intro _ hK; first | (obtain ⟨_, _, _, _, rfl⟩ := hK; exact ⟨rfl, fun _ h => h⟩) | (obtain ⟨_, _, rfl⟩ := hK; exact ⟨rfl, fun _ h => h⟩) | (obtain ⟨_, _, _, _, _, _, rfl⟩ := hK; exact ⟨rfl, fun _ h => List.mem_cons_of_mem _ h⟩) | (obtain ⟨_, _, _, _, _, _, _, rfl⟩ := hK; exact ⟨rfl, fun _ h => List.mem_cons_of_mem _ h⟩) | (obtain rfl := hK; exact ⟨rfl, fun _ h => h⟩)) ?_
          rintro _ rfl
          simp only [go_sem, Nat.reduceAdd, Nat.reduceSub, Nat.reduceMul, Nat.reduceEqDiff, Nat.reduceLT, Nat.reduceLeDiff, Nat.reduceBEq, Nat.reduceBNe, Int.reduceLT, Int.reduceLE, Int.reduceEq, Int.reduceAdd, Int.reduceSub, Int.reduceNeg, reduceCtorEq, r3]
          refine fin_ret (G := ⟨Non, w⟩) Try.results21 ?_
          simp only [go_sem, Nat.reduceAdd, Nat.reduceSub, Nat.reduceMul, Nat.reduceEqDiff, Nat.reduceLT, Nat.reduceLeDiff, Nat.reduceBEq, Nat.reduceBNe, Int.reduceLT, Int.reduceLE, Int.reduceEq, Int.reduceAdd, Int.reduceSub, Int.reduceNeg, reduceCtorEq]
          intro aa w' _ _
          rfl
  · skip
    simp only [go_sem, Nat.reduceAdd, Nat.reduceSub, Nat.reduceMul, Nat.reduceEqDiff, Nat.reduceLT, Nat.reduceLeDiff, Nat.reduceBEq, Nat.reduceBNe, Int.reduceLT, Int.reduceLE, Int.reduceEq, Int.reduceAdd, Int.reduceSub, Int.reduceNeg, reduceCtorEq, jrV]
    intro g4 g5
    refine plain_ok (N := 3000) (call_does (fun u G => ∃ dv A c A2 c2, u = .tuple #[dv, jrV (upJ j0), .slice A 0 c, .slice A2 0 c2, .bool true] ∧ DevG G dv (backX d3 keep j0)) rfl rfl (by kernel_rfl) rfl (by simp only [dOk_some, dOk_none, Nat.reduceLT]) (fun G hG => ret_mono (opened_does (keep := keep) hg hgy hkB hsB (by omega) (by omega) hG.wf (tidL hG (by simp) (by simp; decide)) (hd3.mono (hG.le G14 (by simp))) (ScR.mono h4 boolG_mono (hG.le ⟨Non, w⟩ (by simp)))) fun u G' _ h => by obtain ⟨dv, A, c, A2, c2, e, h1, _, h3⟩ := h; exact ⟨dv, A, c, A2, c2, e, h1⟩)) (QOk_body _ _ _) (by first | exact .inl rfl | exact .inr ⟨_, _, rfl, rfl⟩) ?_
    rintro _ ⟨_, G15, ⟨dv, Ao, co, Aa, ca, rfl, hd5⟩, hn15, rfl⟩
    clear hn15
    obtain ⟨hk5, hg5, hf5, hc5⟩ := back_kept hg hgy keep hkB (by omega) (by omega)
    have hj5 : (upJ j0).gen = j0.gen + 1 ∧ (upJ j0).epoch = j0.epoch + 1 ∧ (upJ j0).used = j0.used ∧ (upJ j0).next = j0.next := ⟨rfl, rfl, rfl, rfl⟩
    generalize backX d3 keep j0 = d5 at hd5 hk5 hg5 hf5 hc5
    generalize upJ j0 = j5 at hk5 hj5
    obtain ⟨L1, s1, L2, s2, L3, s3, rfl, hfo⟩ := hd5.form
    clear hfo
    simp only [go_sem, Nat.reduceAdd, Nat.reduceSub, Nat.reduceMul, Nat.reduceEqDiff, Nat.reduceLT, Nat.reduceLeDiff, Nat.reduceBEq, Nat.reduceBNe, Int.reduceLT, Int.reduceLE, Int.reduceEq, Int.reduceAdd, Int.reduceSub, Int.reduceNeg, reduceCtorEq, jrV]
    refine plain_ok (N := 3000) (call_does (fun v _ => v = .string (bodyOf t 90)) rfl rfl (by kernel_rfl) rfl (by simp only [dOk_some, dOk_none, Nat.reduceLT]) (fun G hG => body_does ht0 ⟨by omega, by omega⟩ hG.wf)) (QOk_body _ _ _) (by first | exact .inl rfl | exact .inr ⟨_, _, rfl, rfl⟩) ?_
    rintro _ ⟨_, G16, rfl, hn16, rfl⟩
    clear hn16
    simp only [go_sem, Nat.reduceAdd, Nat.reduceSub, Nat.reduceMul, Nat.reduceEqDiff, Nat.reduceLT, Nat.reduceLeDiff, Nat.reduceBEq, Nat.reduceBNe, Int.reduceLT, Int.reduceLE, Int.reduceEq, Int.reduceAdd, Int.reduceSub, Int.reduceNeg, reduceCtorEq]
    refine plain_ok (N := 3000) (call_does (fun v _ => v = .string (bodyOf t 90)) rfl rfl (by kernel_rfl) rfl (by simp only [dOk_some, dOk_none, Nat.reduceLT]) (fun G hG => body_does ht0 ⟨by omega, by omega⟩ hG.wf)) (QOk_body _ _ _) (by first | exact .inl rfl | exact .inr ⟨_, _, rfl, rfl⟩) ?_
    rintro _ ⟨_, G17, rfl, hn17, rfl⟩
    clear hn17
    have hS2 := bodyOf_size t 90
    simp only [go_sem, Nat.reduceAdd, Nat.reduceSub, Nat.reduceMul, Nat.reduceEqDiff, Nat.reduceLT, Nat.reduceLeDiff, Nat.reduceBEq, Nat.reduceBNe, Int.reduceLT, Int.reduceLE, Int.reduceEq, Int.reduceAdd, Int.reduceSub, Int.reduceNeg, reduceCtorEq]
    refine ⟨by omega, ?_⟩
    have hS : ((bodyOf t 90).extract (Int.toNat 0) (min ((bodyOf t 90).size : Int) 80).toNat).size ≤ 80 := by simp; omega
    refine plain_ok (N := 3000) (bytes_does (e := 5) rfl (tyStr9) (tySlice23) (tyInt5) rfl (by simp only [dOk_some, dOk_none, Nat.reduceLT]) (by omega)) (QOk_body _ _ _) (by first | exact .inl rfl | exact .inr ⟨_, _, rfl, rfl⟩) ?_
    rintro _ ⟨Az, cz, G18, hbz, rfl⟩
    generalize (bodyOf t 90).extract (Int.toNat 0) (min ((bodyOf t 90).size : Int) 80).toNat = q at hbz hS
    have hlz : q.data.toList.length ≤ 80 := by rw [Array.length_toList]; exact hS
    generalize q.data.toList = z at hbz hlz
    clear hS hS2
    simp only [go_sem, Nat.reduceAdd, Nat.reduceSub, Nat.reduceMul, Nat.reduceEqDiff, Nat.reduceLT, Nat.reduceLeDiff, Nat.reduceBEq, Nat.reduceBNe, Int.reduceLT, Int.reduceLE, Int.reduceEq, Int.reduceAdd, Int.reduceSub, Int.reduceNeg, reduceCtorEq]
    have hcz : cnt z ≤ 2 ∧ 1 ≤ cnt z := by unfold cnt; omega
    have hnf5 : ¬ fullJ g j5 z := by unfold fullJ; omega
    refine plain_ok (N := 3000) (call_does (fun u G => ∃ dv, u = .tuple #[dv, jrV (moreJ g j5 z), .int .i64 0] ∧ DevG G dv (hFlush (commitTo g d5 j5 z (cnt z))).1) rfl rfl (by kernel_rfl) rfl (by simp only [dOk_some, dOk_none, Nat.reduceLT]) (fun G hG => ret_mono (commit_does hg hg5 hf5 hc5 hk5 (by omega) hG.wf (tidL hG (by simp) (by simp; decide)) (hd5.mono (hG.le G15 (by simp))) (ByG.mono hbz (hG.le G18 (by simp)))) fun u G' _ h => by rcases h with ⟨q, _⟩ | ⟨_, h⟩; exact absurd q hnf5; exact h)) (QOk_body _ _ _) (by first | exact .inl rfl | exact .inr ⟨_, _, rfl, rfl⟩) ?_
    rintro _ ⟨_, G19, ⟨dv, rfl, hd6⟩, hn19, rfl⟩
    clear hn19
    obtain ⟨_, hg6, hf6, hc6, hk6⟩ := commit_kept hg hg5 hf5 hc5 hk5 hnf5
    have hj6 : (moreJ g j5 z).gen = j5.gen ∧ (moreJ g j5 z).epoch = j5.epoch := ⟨rfl, rfl⟩
    generalize (hFlush (commitTo g d5 j5 z (cnt z))).1 = d6 at hd6 hg6 hf6 hc6 hk6
    generalize moreJ g j5 z = j6 at hk6 hj6
    obtain ⟨M1, t1, M2, t2, M3, t3, rfl, hfo⟩ := hd6.form
    clear hfo
    simp only [go_sem, Nat.reduceAdd, Nat.reduceSub, Nat.reduceMul, Nat.reduceEqDiff, Nat.reduceLT, Nat.reduceLeDiff, Nat.reduceBEq, Nat.reduceBNe, Int.reduceLT, Int.reduceLE, Int.reduceEq, Int.reduceAdd, Int.reduceSub, Int.reduceNeg, reduceCtorEq, jrV]
    have hk7 := kept_crash hg hg6 hc6 last hk6
    refine plain_ok (N := 3000) (call_does (fun u G => ∃ dv A c A2 c2, u = .tuple #[dv, jrV (upJ j6), .slice A 0 c, .slice A2 1 c2, .bool true] ∧ DevG G dv (backX d6 last j6) ∧ SafG G (.slice A2 1 c2) [z]) rfl rfl (by kernel_rfl) rfl (by simp only [dOk_some, dOk_none, Nat.reduceLT]) (fun G hG => ret_mono (opened_does (keep := last) hg hg6 hk7 (hk7.stops _) (by omega) (by omega) hG.wf (tidL hG (by simp) (by simp; decide)) (hd6.mono (hG.le G19 (by simp))) (ScR.mono h5 boolG_mono (hG.le ⟨Non, w⟩ (by simp)))) fun u G' _ h => by obtain ⟨dv, A, c, A2, c2, e, h1, _, h3⟩ := h; exact ⟨dv, A, c, A2, c2, e, h1, h3⟩)) (QOk_body _ _ _) (by first | exact .inl rfl | exact .inr ⟨_, _, rfl, rfl⟩) ?_
    rintro _ ⟨_, G20, ⟨dv, Ap, cp, Aq, cq, rfl, hd7, hal⟩, hn20, rfl⟩
    clear hn20
    obtain ⟨N1, u1, N2, u2, N3, u3, rfl, hfo⟩ := hd7.form
    clear hfo
    have r1 : decide (((1 : Nat) : Int) = ((0 : Nat) : Int) + 1) = true := rfl
    have r2 : decide (j6.next = j6.next) = true := decide_eq_true rfl
    have r3 : decide (((0 : Nat) : Int) = 0) = true := rfl
    simp only [go_sem, Nat.reduceAdd, Nat.reduceSub, Nat.reduceMul, Nat.reduceEqDiff, Nat.reduceLT, Nat.reduceLeDiff, Nat.reduceBEq, Nat.reduceBNe, Int.reduceLT, Int.reduceLE, Int.reduceEq, Int.reduceAdd, Int.reduceSub, Int.reduceNeg, reduceCtorEq, jrV, upJ, r1, r2]
    intro g6 g7
    repeat (refine And.intro (by omega) ?_)
    have hz0 : ([z] : List (List UInt8))[0]? = some z := rfl
    refine preview_ok (R := RowG) (kc := 1) hz0 (fun G hG => (Sq.mono hal rowG_mono (hG G20 (by simp))).sc) fun ga oa csa Ga hA _ hca hlea => ?_
    subst hA
    clear hlea
    obtain ⟨Abb, cbb, rfl, hbz2⟩ := rowcell hca
    simp only [go_sem, Nat.reduceAdd, Nat.reduceSub, Nat.reduceMul, Nat.reduceEqDiff, Nat.reduceLT, Nat.reduceLeDiff, Nat.reduceBEq, Nat.reduceBNe, Int.reduceLT, Int.reduceLE, Int.reduceEq, Int.reduceAdd, Int.reduceSub, Int.reduceNeg, reduceCtorEq]
    refine draw_ok (N := 3000) (.take 0 (.take 1 (.take 2 (.take 3 (.take 4 (.take 6 (.alt 5 (.alt 7 (.take 8 (.take 9 (.take 10 (.take 11 (.take 12 (.take 13 (.take 14 (.take 15 (.take 16 (.take 18 (.alt 17 (.alt 19 (.take 20 (.take 21 (.take 22 (.take 23 .done)))) .last) (.alt 19 (.alt 17 (.take 20 (.take 21 (.take 22 (.take 23 .done)))) .last) .last)))))))))))) .last) (.alt 7 (.alt 5 (.take 8 (.take 9 (.take 10 (.take 11 (.take 12 (.take 13 (.take 14 (.take 15 (.take 16 (.take 18 (.alt 17 (.alt 19 (.take 20 (.take 21 (.take 22 (.take 23 .done)))) .last) (.alt 19 (.alt 17 (.take 20 (.take 21 (.take 22 (.take 23 .done)))) .last) .last)))))))))))) .last) .last)))))))) [] (QOk_body _ _ _) follows_mixed (by kernel_rfl) (by kernel_rfl) ?_
    simp only [go_sem, Nat.reduceAdd, Nat.reduceSub, Nat.reduceMul, Nat.reduceEqDiff, Nat.reduceLT, Nat.reduceLeDiff, Nat.reduceBEq, Nat.reduceBNe, Int.reduceLT, Int.reduceLE, Int.reduceEq, Int.reduceAdd, Int.reduceSub, Int.reduceNeg, reduceCtorEq, r3]
    refine take_elem 7 (m := 0) rfl tySlice29 tySize23 rfl rfl (by simp only [dOk_some, dOk_none, Nat.reduceLT]) rfl (by omega) ?_
    simp only [go_sem, Nat.reduceAdd, Nat.reduceSub, Nat.reduceMul, Nat.reduceEqDiff, Nat.reduceLT, Nat.reduceLeDiff, Nat.reduceBEq, Nat.reduceBNe, Int.reduceLT, Int.reduceLE, Int.reduceEq, Int.reduceAdd, Int.reduceSub, Int.reduceNeg, reduceCtorEq, r3]
    refine ⟨?_, ?_⟩
    · refine any_ok2 (N := 3000) (text_does (bs := z) (e := 5) rfl tyStr9 tySlice23 tyInt5 rfl (by simp only [dOk_some, dOk_none, Nat.reduceLT]) (fun G hG => ByG.mono hbz2 (hG.le Ga (by simp)))) (QOk_body _ _ _) rfl (by first | exact .inl rfl | exact .inr ⟨_, _, rfl, rfl⟩) (by intro _ hK; first | (obtain ⟨_, _, _, _, rfl⟩ := hK; exact ⟨rfl, fun _ h => h⟩) | (obtain ⟨_, _, rfl⟩ := hK; exact ⟨rfl, fun _ h => h⟩) | (obtain ⟨_, _, _, _, _, _, rfl⟩ := hK; exact ⟨rfl, fun _ h => List.mem_cons_of_mem _ h⟩) | (obtain ⟨_, _, _, _, _, _, _, rfl⟩ := hK; exact ⟨rfl, fun _ h => List.mem_cons_of_mem _ h⟩) | (obtain rfl := hK; exact ⟨rfl, fun _ h => h⟩)) ?_
      rintro _ rfl
      simp only [go_sem, Nat.reduceAdd, Nat.reduceSub, Nat.reduceMul, Nat.reduceEqDiff, Nat.reduceLT, Nat.reduceLeDiff, Nat.reduceBEq, Nat.reduceBNe, Int.reduceLT, Int.reduceLE, Int.reduceEq, Int.reduceAdd, Int.reduceSub, Int.reduceNeg, reduceCtorEq, r3]
      refine any_ok2 (N := 3000) (text_does (bs := z) (e := 5) rfl tyStr9 tySlice23 tyInt5 rfl (by simp only [dOk_some, dOk_none, Nat.reduceLT]) (fun G hG => ByG.mono hbz (hG.le G18 (by simp)))) (QOk_body _ _ _) rfl (by first | exact .inl rfl | exact .inr ⟨_, _, rfl, rfl⟩) (by intro _ hK; first | (obtain ⟨_, _, _, _, rfl⟩ := hK; exact ⟨rfl, fun _ h => h⟩) | (obtain ⟨_, _, rfl⟩ := hK; exact ⟨rfl, fun _ h => h⟩) | (obtain ⟨_, _, _, _, _, _, rfl⟩ := hK; exact ⟨rfl, fun _ h => List.mem_cons_of_mem _ h⟩) | (obtain ⟨_, _, _, _, _, _, _, rfl⟩ := hK; exact ⟨rfl, fun _ h => List.mem_cons_of_mem _ h⟩) | (obtain rfl := hK; exact ⟨rfl, fun _ h => h⟩)) ?_
      rintro _ rfl
      simp only [go_sem, Nat.reduceAdd, Nat.reduceSub, Nat.reduceMul, Nat.reduceEqDiff, Nat.reduceLT, Nat.reduceLeDiff, Nat.reduceBEq, Nat.reduceBNe, Int.reduceLT, Int.reduceLE, Int.reduceEq, Int.reduceAdd, Int.reduceSub, Int.reduceNeg, reduceCtorEq, r3]
      first
        | (refine ⟨?_, ?_⟩ <;> (refine fin_ret (G := ⟨Non, w⟩) Try.results21 ?_; simp only [go_sem, Nat.reduceAdd, Nat.reduceSub, Nat.reduceMul, Nat.reduceEqDiff, Nat.reduceLT, Nat.reduceLeDiff, Nat.reduceBEq, Nat.reduceBNe, Int.reduceLT, Int.reduceLE, Int.reduceEq, Int.reduceAdd, Int.reduceSub, Int.reduceNeg, reduceCtorEq]; intro aa w' _ _; rfl))
        | (refine fin_ret (G := ⟨Non, w⟩) Try.results21 ?_; simp only [go_sem, Nat.reduceAdd, Nat.reduceSub, Nat.reduceMul, Nat.reduceEqDiff, Nat.reduceLT, Nat.reduceLeDiff, Nat.reduceBEq, Nat.reduceBNe, Int.reduceLT, Int.reduceLE, Int.reduceEq, Int.reduceAdd, Int.reduceSub, Int.reduceNeg, reduceCtorEq]; intro aa w' _ _; rfl)
    · refine any_ok2 (N := 3000) (text_does (bs := z) (e := 5) rfl tyStr9 tySlice23 tyInt5 rfl (by simp only [dOk_some, dOk_none, Nat.reduceLT]) (fun G hG => ByG.mono hbz (hG.le G18 (by simp)))) (QOk_body _ _ _) rfl (by first | exact .inl rfl | exact .inr ⟨_, _, rfl, rfl⟩) (by intro _ hK; first | (obtain ⟨_, _, _, _, rfl⟩ := hK; exact ⟨rfl, fun _ h => h⟩) | (obtain ⟨_, _, rfl⟩ := hK; exact ⟨rfl, fun _ h => h⟩) | (obtain ⟨_, _, _, _, _, _, rfl⟩ := hK; exact ⟨rfl, fun _ h => List.mem_cons_of_mem _ h⟩) | (obtain ⟨_, _, _, _, _, _, _, rfl⟩ := hK; exact ⟨rfl, fun _ h => List.mem_cons_of_mem _ h⟩) | (obtain rfl := hK; exact ⟨rfl, fun _ h => h⟩)) ?_
      rintro _ rfl
      simp only [go_sem, Nat.reduceAdd, Nat.reduceSub, Nat.reduceMul, Nat.reduceEqDiff, Nat.reduceLT, Nat.reduceLeDiff, Nat.reduceBEq, Nat.reduceBNe, Int.reduceLT, Int.reduceLE, Int.reduceEq, Int.reduceAdd, Int.reduceSub, Int.reduceNeg, reduceCtorEq, r3]
      refine any_ok2 (N := 3000) (text_does (bs := z) (e := 5) rfl tyStr9 tySlice23 tyInt5 rfl (by simp only [dOk_some, dOk_none, Nat.reduceLT]) (fun G hG => ByG.mono hbz2 (hG.le Ga (by simp)))) (QOk_body _ _ _) rfl (by first | exact .inl rfl | exact .inr ⟨_, _, rfl, rfl⟩) (by intro _ hK; first | (obtain ⟨_, _, _, _, rfl⟩ := hK; exact ⟨rfl, fun _ h => h⟩) | (obtain ⟨_, _, rfl⟩ := hK; exact ⟨rfl, fun _ h => h⟩) | (obtain ⟨_, _, _, _, _, _, rfl⟩ := hK; exact ⟨rfl, fun _ h => List.mem_cons_of_mem _ h⟩) | (obtain ⟨_, _, _, _, _, _, _, rfl⟩ := hK; exact ⟨rfl, fun _ h => List.mem_cons_of_mem _ h⟩) | (obtain rfl := hK; exact ⟨rfl, fun _ h => h⟩)) ?_
      rintro _ rfl
      simp only [go_sem, Nat.reduceAdd, Nat.reduceSub, Nat.reduceMul, Nat.reduceEqDiff, Nat.reduceLT, Nat.reduceLeDiff, Nat.reduceBEq, Nat.reduceBNe, Int.reduceLT, Int.reduceLE, Int.reduceEq, Int.reduceAdd, Int.reduceSub, Int.reduceNeg, reduceCtorEq, r3]
      first
        | (refine ⟨?_, ?_⟩ <;> (refine fin_ret (G := ⟨Non, w⟩) Try.results21 ?_; simp only [go_sem, Nat.reduceAdd, Nat.reduceSub, Nat.reduceMul, Nat.reduceEqDiff, Nat.reduceLT, Nat.reduceLeDiff, Nat.reduceBEq, Nat.reduceBNe, Int.reduceLT, Int.reduceLE, Int.reduceEq, Int.reduceAdd, Int.reduceSub, Int.reduceNeg, reduceCtorEq]; intro aa w' _ _; rfl))
        | (refine fin_ret (G := ⟨Non, w⟩) Try.results21 ?_; simp only [go_sem, Nat.reduceAdd, Nat.reduceSub, Nat.reduceMul, Nat.reduceEqDiff, Nat.reduceLT, Nat.reduceLeDiff, Nat.reduceBEq, Nat.reduceBNe, Int.reduceLT, Int.reduceLE, Int.reduceEq, Int.reduceAdd, Int.reduceSub, Int.reduceNeg, reduceCtorEq]; intro aa w' _ _; rfl)
theorem commitAgain_walk {w : World} (a0 : Int) (w0 : (Lit.int .i64 a0).wf = true) (s : ByteArray) (hs : s.size ≤ 1048576) (t : ByteArray) (ht : t.size ≤ 1048576) (a3 : Int) (w3 : (Lit.int .i64 a3).wf = true) (v4 : Value) (keep : List Bool) (h4 : BoolsG ⟨Non, w⟩ v4 keep) (v5 : Value) (last : List Bool) (h5 : BoolsG ⟨Non, w⟩ v5 last) :
    Calls Try.prog 21 #[.int .i64 a0, .string s, .string t, .int .i64 a3, v4, v5] w fun e w' => e = .returned (.bool true) ∧ Below w.heap.size w w' :=
  (commitAgain_ret a0 w0 s (by unfold maxLen; omega) t (by unfold maxLen; omega) a3 w3 v4 keep h4 v5 last h5).mono fun e w' ⟨v, he, hv, hc⟩ => ⟨by rw [he, hv], hc.below⟩
end Go.Proofs.Ytomfladifefomaa
