/- 'icehousekeep.FuelCounts' returns true for every int and slice of raw things. Conditions: none. -/
import Derived.Test.YtomfladifefomaaU10
import Derived.Test.YtomfladifefomaaH1
namespace Go.Proofs.Ytomfladifefomaa
open Go.RowKit
set_option linter.unusedSimpArgs false
theorem put_ok {d : Dev} {k n : Nat} (hk : k < d.safe.length) (hn : n ≤ 64) (hc : d.cache.length < 2000) (hf : d.fuel ≠ 0) : putErr d (k : Int) n = 0 := by
  unfold putErr
  rw [if_neg (by omega), if_neg (by omega), if_neg (by omega), if_neg hf]
theorem put_down {d : Dev} {k n : Nat} (hk : k < d.safe.length) (hn : n ≤ 64) (hc : d.cache.length < 2000) (hf : d.fuel = 0) : putErr d (k : Int) n = 10 := by
  unfold putErr
  rw [if_neg (by omega), if_neg (by omega), if_neg (by omega), if_pos hf]
theorem spent_pos {d : Dev} (h : 0 < d.fuel) : (spent d).fuel = d.fuel - 1 := by simp [spent, h]
theorem bytes1 {G : GW} {v : Value} (h : Sl G 5 1 1 v [.int .u8 1]) : ByG G v [1] := h
set_option maxRecDepth 100000 in
set_option maxHeartbeats 8000000 in
theorem fuelCounts_ret {w : World} (a0 : Int) (w0 : (Lit.int .i64 a0).wf = true) (v1 : Value) (l1 : List Raw) (h1 : RawsG ⟨Non, w⟩ v1 l1) :
    Calls Try.prog 13 #[.int .i64 a0, v1] w (Ret ⟨Non, w⟩ fun v _ => v = .bool true) := by
  obtain ⟨A, c, rfl, _, _⟩ := ScR.form h1
  obtain ⟨x1, x2⟩ := i64_bd w0
  refine enter (G := ⟨Non, w⟩) (n := 125) 3000 (wf_nonL w) Try.func13 rfl Try.ntmps13 (by simp) ?_
  simp only [go_sem, Nat.reduceAdd, Nat.reduceSub, Nat.reduceMul, Nat.reduceEqDiff, Nat.reduceLT, Nat.reduceLeDiff, Nat.reduceBEq, Nat.reduceBNe, Int.reduceLT, Int.reduceLE, Int.reduceEq, Int.reduceAdd, Int.reduceSub, Int.reduceNeg, decide_true, decide_false, Bool.not_true, Bool.not_false, cond_true, cond_false, beq_self_eq_true, and_self, ne_eq, not_true_eq_false, not_false_eq_true, reduceCtorEq, Bool.true_beq, Bool.false_beq]
  refine plain_ok (N := 3000) (call_does (fun v _ => v = .agg #[.int .i64 6, .int .i64 2, .int .i64 6, .int .i64 300, .int .i64 3]) rfl rfl (by kernel_rfl) rfl (by simp only [dOk_some, dOk_none, Nat.reduceLT]) (fun G hG => small_does _)) (QOk_body _ _ _) (by first | exact .inl rfl | exact .inr ⟨_, _, rfl, rfl⟩) ?_
  rintro _ ⟨v, G1, rfl, hn1, rfl⟩
  clear hn1
  simp only [go_sem, Nat.reduceAdd, Nat.reduceSub, Nat.reduceMul, Nat.reduceEqDiff, Nat.reduceLT, Nat.reduceLeDiff, Nat.reduceBEq, Nat.reduceBNe, Int.reduceLT, Int.reduceLE, Int.reduceEq, Int.reduceAdd, Int.reduceSub, Int.reduceNeg, decide_true, decide_false, Bool.not_true, Bool.not_false, cond_true, cond_false, beq_self_eq_true, and_self, ne_eq, not_true_eq_false, not_false_eq_true, reduceCtorEq, Bool.true_beq, Bool.false_beq]
  intro g1
  refine plain_ok (N := 3000) (call_does (fun v G => ∃ dv d, v = .tuple #[dv, .bool true] ∧ DevG G dv d ∧ GoodDev smallGeo d ∧ d.fuel = -1 ∧ (d.cache.length : Int) ≤ 10) rfl rfl (by kernel_rfl) rfl (by simp only [dOk_some, dOk_none, Nat.reduceLT]) (fun G hG => devices_does (most := 10) smallGood (by omega) (by omega) hG.wf (tidL hG (by simp) (by simp; decide)) (ScR.mono h1 rawG_mono (hG.le ⟨Non, w⟩ (by simp))))) (QOk_body _ _ _) (by first | exact .inl rfl | exact .inr ⟨_, _, rfl, rfl⟩) ?_
  rintro _ ⟨_, G2, ⟨dv, d, rfl, hd, hg, hf, hc⟩, hn2, rfl⟩
  clear hn2
  obtain ⟨A1, k1, A2, k2, A3, k3, rfl, hfo⟩ := hd.form
  clear hfo
  have hs18 : d.safe.length = 18 := by have := hg.safe; simp only [sectorsOf, smallGeo] at this; omega
  simp only [go_sem, Nat.reduceAdd, Nat.reduceSub, Nat.reduceMul, Nat.reduceEqDiff, Nat.reduceLT, Nat.reduceLeDiff, Nat.reduceBEq, Nat.reduceBNe, Int.reduceLT, Int.reduceLE, Int.reduceEq, Int.reduceAdd, Int.reduceSub, Int.reduceNeg, decide_true, decide_false, Bool.not_true, Bool.not_false, cond_true, cond_false, beq_self_eq_true, and_self, ne_eq, not_true_eq_false, not_false_eq_true, reduceCtorEq, Bool.true_beq, Bool.false_beq]
  intro g2
  refine plain_ok (N := 3000) (call_does (fun v _ => ∃ k : Nat, (k : Int) = pick a0 20 ∧ (k : Int) < 20 ∧ v = .int .i64 (k : Int)) rfl rfl (by kernel_rfl) rfl (by simp only [dOk_some, dOk_none, Nat.reduceLT]) (fun G hG => picked_does x1 x2 (by omega) (by omega))) (QOk_body _ _ _) (by first | exact .inl rfl | exact .inr ⟨_, _, rfl, rfl⟩) ?_
  rintro _ ⟨_, G3, ⟨k, _, hk, rfl⟩, hn3, rfl⟩
  clear hn3
  simp only [go_sem, Nat.reduceAdd, Nat.reduceSub, Nat.reduceMul, Nat.reduceEqDiff, Nat.reduceLT, Nat.reduceLeDiff, Nat.reduceBEq, Nat.reduceBNe, Int.reduceLT, Int.reduceLE, Int.reduceEq, Int.reduceAdd, Int.reduceSub, Int.reduceNeg, decide_true, decide_false, Bool.not_true, Bool.not_false, cond_true, cond_false, beq_self_eq_true, and_self, ne_eq, not_true_eq_false, not_false_eq_true, reduceCtorEq, Bool.true_beq, Bool.false_beq]
  have he : armErr (k : Int) = 0 := by unfold armErr; rw [if_neg (by omega)]
  refine plain_ok (N := 3000) (call_does (fun v G => ∃ dv, v = .tuple #[dv, .int .i64 0] ∧ DevG G dv { d with fuel := (k : Int) }) rfl rfl (by kernel_rfl) rfl (by simp only [dOk_some, dOk_none, Nat.reduceLT]) (fun G hG => ret_mono (arm_does (f := (k : Int)) smallGood hg hG.wf (tidL hG (by simp) (by simp; decide)) (hd.mono (hG.le G2 (by simp)))) fun v G' _ h => dev_get h he)) (QOk_body _ _ _) (by first | exact .inl rfl | exact .inr ⟨_, _, rfl, rfl⟩) ?_
  rintro _ ⟨_, G4, ⟨dv, rfl, hd2⟩, hn4, rfl⟩
  clear hn4
  obtain ⟨y, ey⟩ : ∃ y : Dev, y = { d with fuel := (k : Int) } := ⟨_, rfl⟩
  rw [← ey] at hd2
  have hg2 : GoodDev smallGeo y := by rw [ey]; exact good_arm hg (by omega) (by omega)
  have hf2 : y.fuel = (k : Int) := by rw [ey]
  have hs2 : y.safe.length = 18 := by rw [ey]; exact hs18
  have hc2 : y.cache.length ≤ 10 := by rw [ey]; show d.cache.length ≤ 10; omega
  clear ey
  obtain ⟨C1, n1, C2, n2, C3, n3, rfl, hfo⟩ := hd2.form
  clear hfo
  simp only [go_sem, Nat.reduceAdd, Nat.reduceSub, Nat.reduceMul, Nat.reduceEqDiff, Nat.reduceLT, Nat.reduceLeDiff, Nat.reduceBEq, Nat.reduceBNe, Int.reduceLT, Int.reduceLE, Int.reduceEq, Int.reduceAdd, Int.reduceSub, Int.reduceNeg, decide_true, decide_false, Bool.not_true, Bool.not_false, cond_true, cond_false, beq_self_eq_true, and_self, ne_eq, not_true_eq_false, not_false_eq_true, reduceCtorEq, Bool.true_beq, Bool.false_beq]
  refine loop_ok (N := 3000) (ι := Nat × Dev × (Option Addr × Nat) × (Option Addr × Nat) × (Option Addr × Nat) × GW)
    (fun i => match i with | (v, d, (C1, n1), (C2, n2), (C3, n3), G) => ⟨[(5, .c (.p 0 g1 0)), (6, .c (.p 1 g2 0)), (8, .c (.v (.int .i64 (k : Int)))), (10, .c (.v (.int .i64 (v : Int))))],
      [⟨1, g2, 37, [.v (.slice C1 d.safe.length n1), .v (.slice C2 d.cache.length n2), .v (.slice C3 d.vols.length n3), .v (.int .i64 d.fuel)]⟩, ⟨0, g1, 32, [.v (.int .i64 6), .v (.int .i64 2), .v (.int .i64 6), .v (.int .i64 300), .v (.int .i64 3)]⟩], [], [], [G], 2⟩)
    (fun i => match i with | (v, d, (C1, n1), (C2, n2), (C3, n3), G) => (v ≤ k ∧ d.cache.length ≤ 10 + v ∧ d.safe.length = 18 ∧ d.fuel = (k : Int) - (v : Int)) ∧ GoodDev smallGeo d ∧ DevG G (.agg #[.slice C1 d.safe.length n1, .slice C2 d.cache.length n2, .slice C3 d.vols.length n3, .int .i64 d.fuel]) d)
    (fun i => k - i.1) (QOk_body _ _ _) (0, y, (C1, n1), (C2, n2), (C3, n3), G4) ⟨⟨by omega, by omega, hs2, by omega⟩, hg2, hd2⟩ (by simp only [go_sem, Nat.reduceAdd, Nat.reduceSub, Nat.reduceMul, Nat.reduceEqDiff, Nat.reduceLT, Nat.reduceLeDiff, Nat.reduceBEq, Nat.reduceBNe, Int.reduceLT, Int.reduceLE, Int.reduceEq, Int.reduceAdd, Int.reduceSub, Int.reduceNeg, decide_true, decide_false, Bool.not_true, Bool.not_false, cond_true, cond_false, beq_self_eq_true, and_self, ne_eq, not_true_eq_false, not_false_eq_true, reduceCtorEq, Bool.true_beq, Bool.false_beq]; simp) ?_
  clear hd2 hg2 hf2 hs2 hc2 hd hg hf hc hs18 he C1 n1 C2 n2 C3 n3 y G4 A1 k1 A2 k2 A3 k3 d G2
  rintro ⟨v, d, ⟨C1, n1⟩, ⟨C2, n2⟩, ⟨C3, n3⟩, G4⟩ ⟨⟨hv, hvc, hs18, hf⟩, hg, hd⟩
  simp only
  by_cases hlt : v < k
  · have q1 : decide ((v : Int) < (k : Int)) = true := decide_eq_true (by omega)
    simp only [go_sem, Nat.reduceAdd, Nat.reduceSub, Nat.reduceMul, Nat.reduceEqDiff, Nat.reduceLT, Nat.reduceLeDiff, Nat.reduceBEq, Nat.reduceBNe, Int.reduceLT, Int.reduceLE, Int.reduceEq, Int.reduceAdd, Int.reduceSub, Int.reduceNeg, decide_true, decide_false, Bool.not_true, Bool.not_false, cond_true, cond_false, beq_self_eq_true, and_self, ne_eq, not_true_eq_false, not_false_eq_true, reduceCtorEq, Bool.true_beq, Bool.false_beq, q1]
    have he : ∀ j : Nat, j < 18 → putErr d (j : Int) ([1] : List UInt8).length = 0 := fun j hj => put_ok (by omega) (by simp) (by omega) (by omega)
    have hm0 := Int.emod_nonneg (v : Int) (b := (d.safe.length : Int)) (by omega)
    have hm1 := Int.emod_lt_of_pos (v : Int) (b := (d.safe.length : Int)) (by omega)
    obtain ⟨j, hj, hj18⟩ : ∃ j : Nat, HMod.hMod (v : Int) (d.safe.length : Int) = (j : Int) ∧ j < 18 := ⟨(HMod.hMod (v : Int) (d.safe.length : Int)).toNat, by omega, by omega⟩
    refine draw_ok (N := 3000) (.take 0 (.take 1 (.take 2 (.take 3 (.take 4 (.take 5 (.take 6 (.alt 7 (.alt 8 (.take 9 (.take 10 (.take 11 (.alt 12 (.alt 13 (.take 14 .done) .last) .last)))) (.alt 12 (.alt 8 (.take 9 (.take 10 (.take 11 (.alt 13 (.take 14 .done) .last)))) .last) .last)) (.alt 12 (.alt 7 (.alt 8 (.take 9 (.take 10 (.take 11 (.alt 13 (.take 14 .done) .last)))) .last) .last) .last))))))))) [] (QOk_body _ _ _) follows_mixed (by kernel_rfl) (by kernel_rfl) ?_
    simp only [go_sem, Nat.reduceAdd, Nat.reduceSub, Nat.reduceMul, Nat.reduceEqDiff, Nat.reduceLT, Nat.reduceLeDiff, Nat.reduceBEq, Nat.reduceBNe, Int.reduceLT, Int.reduceLE, Int.reduceEq, Int.reduceAdd, Int.reduceSub, Int.reduceNeg, decide_true, decide_false, Bool.not_true, Bool.not_false, cond_true, cond_false, beq_self_eq_true, and_self, ne_eq, not_true_eq_false, not_false_eq_true, reduceCtorEq, Bool.true_beq, Bool.false_beq]
    refine ⟨by omega, ?_⟩
    rw [hj]
    refine ⟨?_, ?_⟩
    · intro g5
      refine ⟨?_, ?_⟩
      · refine anyRead_ok (B1 := []) rfl 1 1 1 (Nat.le_refl _) (by unfold maxLen; omega) rfl id (by simp) fun G5 _ hs5 => ?_
        simp only [go_sem, Nat.reduceAdd, Nat.reduceSub, Nat.reduceMul, Nat.reduceEqDiff, Nat.reduceLT, Nat.reduceLeDiff, Nat.reduceBEq, Nat.reduceBNe, Int.reduceLT, Int.reduceLE, Int.reduceEq, Int.reduceAdd, Int.reduceSub, Int.reduceNeg, decide_true, decide_false, Bool.not_true, Bool.not_false, cond_true, cond_false, beq_self_eq_true, and_self, ne_eq, not_true_eq_false, not_false_eq_true, reduceCtorEq, Bool.true_beq, Bool.false_beq]
        refine any_ok2 (N := 3000) (call_does (fun v G => ∃ dv, v = .tuple #[dv, .int .i64 0] ∧ DevG G dv (putDev d (j : Int) [1])) rfl rfl (by kernel_rfl) rfl (by simp only [dOk_some, dOk_none, Nat.reduceLT]) (fun G hG => ret_mono (put_does (n := (j : Int)) (bs := [1]) smallGood hg hG.wf (tidL hG (by simp) (by simp; decide)) (hd.mono (hG.le G4 (by simp))) (ByG.mono (bytes1 hs5) (hG.le G5 (by simp)))) fun v G' _ h => dev_get h (he j hj18))) (QOk_body _ _ _) rfl (by first | exact .inl rfl | exact .inr ⟨_, _, rfl, rfl⟩) (by intro _ hK; first | (obtain ⟨_, _, _, _, rfl⟩ := hK; exact ⟨rfl, fun _ h => h⟩) | (obtain ⟨_, _, rfl⟩ := hK; exact ⟨rfl, fun _ h => h⟩) | (obtain ⟨_, _, _, _, _, _, rfl⟩ := hK; exact ⟨rfl, fun _ h => List.mem_cons_of_mem _ h⟩) | (obtain ⟨_, _, _, _, _, _, _, rfl⟩ := hK; exact ⟨rfl, fun _ h => List.mem_cons_of_mem _ h⟩) | (obtain rfl := hK; exact ⟨rfl, fun _ h => h⟩)) ?_
        rintro _ ⟨_, G6, ⟨dv, rfl, hd2⟩, hn7, rfl⟩
        clear hn7
        have hg2 := good_put hg (he j hj18)
        have hs2 : (putDev d (j : Int) [1]).safe.length = 18 := hs18
        have hf2 : (putDev d (j : Int) [1]).fuel = (k : Int) - ((v + 1 : Nat) : Int) := by
          show (spent d).fuel = _
          rw [spent_pos (by omega)]; omega
        have hc2 : (putDev d (j : Int) [1]).cache.length ≤ 10 + (v + 1) := by simp [putDev]; omega
        generalize putDev d (j : Int) [1] = x at hd2 hg2 hs2 hf2 hc2
        obtain ⟨B1, m1, B2, m2, B3, m3, rfl, hfo⟩ := hd2.form
        clear hfo
        simp only [go_sem, Nat.reduceAdd, Nat.reduceSub, Nat.reduceMul, Nat.reduceEqDiff, Nat.reduceLT, Nat.reduceLeDiff, Nat.reduceBEq, Nat.reduceBNe, Int.reduceLT, Int.reduceLE, Int.reduceEq, Int.reduceAdd, Int.reduceSub, Int.reduceNeg, decide_true, decide_false, Bool.not_true, Bool.not_false, cond_true, cond_false, beq_self_eq_true, and_self, ne_eq, not_true_eq_false, not_false_eq_true, reduceCtorEq, Bool.true_beq, Bool.false_beq]
        intro g6
        exact ⟨by omega, again_ok (v + 1, x, (B1, m1), (B2, m2), (B3, m3), G6) ⟨⟨by omega, hc2, hs2, hf2⟩, hg2, hd2⟩ (by simp only; omega) (by simp only [go_sem, Nat.reduceAdd, Nat.reduceSub, Nat.reduceMul, Nat.reduceEqDiff, Nat.reduceLT, Nat.reduceLeDiff, Nat.reduceBEq, Nat.reduceBNe, Int.reduceLT, Int.reduceLE, Int.reduceEq, Int.reduceAdd, Int.reduceSub, Int.reduceNeg, decide_true, decide_false, Bool.not_true, Bool.not_false, cond_true, cond_false, beq_self_eq_true, and_self, ne_eq, not_true_eq_false, not_false_eq_true, reduceCtorEq, Bool.true_beq, Bool.false_beq]; simp)⟩
      · intro g6
        refine anyRead_ok (B1 := [_]) rfl 1 1 1 (Nat.le_refl _) (by unfold maxLen; omega) rfl id (by simp) fun G5 _ hs5 => ?_
        simp only [go_sem, Nat.reduceAdd, Nat.reduceSub, Nat.reduceMul, Nat.reduceEqDiff, Nat.reduceLT, Nat.reduceLeDiff, Nat.reduceBEq, Nat.reduceBNe, Int.reduceLT, Int.reduceLE, Int.reduceEq, Int.reduceAdd, Int.reduceSub, Int.reduceNeg, decide_true, decide_false, Bool.not_true, Bool.not_false, cond_true, cond_false, beq_self_eq_true, and_self, ne_eq, not_true_eq_false, not_false_eq_true, reduceCtorEq, Bool.true_beq, Bool.false_beq]
        refine any_ok2 (N := 3000) (call_does (fun v G => ∃ dv, v = .tuple #[dv, .int .i64 0] ∧ DevG G dv (putDev d (j : Int) [1])) rfl rfl (by kernel_rfl) rfl (by simp only [dOk_some, dOk_none, Nat.reduceLT]) (fun G hG => ret_mono (put_does (n := (j : Int)) (bs := [1]) smallGood hg hG.wf (tidL hG (by simp) (by simp; decide)) (hd.mono (hG.le G4 (by simp))) (ByG.mono (bytes1 hs5) (hG.le G5 (by simp)))) fun v G' _ h => dev_get h (he j hj18))) (QOk_body _ _ _) rfl (by first | exact .inl rfl | exact .inr ⟨_, _, rfl, rfl⟩) (by intro _ hK; first | (obtain ⟨_, _, _, _, rfl⟩ := hK; exact ⟨rfl, fun _ h => h⟩) | (obtain ⟨_, _, rfl⟩ := hK; exact ⟨rfl, fun _ h => h⟩) | (obtain ⟨_, _, _, _, _, _, rfl⟩ := hK; exact ⟨rfl, fun _ h => List.mem_cons_of_mem _ h⟩) | (obtain ⟨_, _, _, _, _, _, _, rfl⟩ := hK; exact ⟨rfl, fun _ h => List.mem_cons_of_mem _ h⟩) | (obtain rfl := hK; exact ⟨rfl, fun _ h => h⟩)) ?_
        rintro _ ⟨_, G6, ⟨dv, rfl, hd2⟩, hn7, rfl⟩
        clear hn7
        have hg2 := good_put hg (he j hj18)
        have hs2 : (putDev d (j : Int) [1]).safe.length = 18 := hs18
        have hf2 : (putDev d (j : Int) [1]).fuel = (k : Int) - ((v + 1 : Nat) : Int) := by
          show (spent d).fuel = _
          rw [spent_pos (by omega)]; omega
        have hc2 : (putDev d (j : Int) [1]).cache.length ≤ 10 + (v + 1) := by simp [putDev]; omega
        generalize putDev d (j : Int) [1] = x at hd2 hg2 hs2 hf2 hc2
        obtain ⟨B1, m1, B2, m2, B3, m3, rfl, hfo⟩ := hd2.form
        clear hfo
        simp only [go_sem, Nat.reduceAdd, Nat.reduceSub, Nat.reduceMul, Nat.reduceEqDiff, Nat.reduceLT, Nat.reduceLeDiff, Nat.reduceBEq, Nat.reduceBNe, Int.reduceLT, Int.reduceLE, Int.reduceEq, Int.reduceAdd, Int.reduceSub, Int.reduceNeg, decide_true, decide_false, Bool.not_true, Bool.not_false, cond_true, cond_false, beq_self_eq_true, and_self, ne_eq, not_true_eq_false, not_false_eq_true, reduceCtorEq, Bool.true_beq, Bool.false_beq]
        exact ⟨by omega, again_ok (v + 1, x, (B1, m1), (B2, m2), (B3, m3), G6) ⟨⟨by omega, hc2, hs2, hf2⟩, hg2, hd2⟩ (by simp only; omega) (by simp only [go_sem, Nat.reduceAdd, Nat.reduceSub, Nat.reduceMul, Nat.reduceEqDiff, Nat.reduceLT, Nat.reduceLeDiff, Nat.reduceBEq, Nat.reduceBNe, Int.reduceLT, Int.reduceLE, Int.reduceEq, Int.reduceAdd, Int.reduceSub, Int.reduceNeg, decide_true, decide_false, Bool.not_true, Bool.not_false, cond_true, cond_false, beq_self_eq_true, and_self, ne_eq, not_true_eq_false, not_false_eq_true, reduceCtorEq, Bool.true_beq, Bool.false_beq]; simp)⟩
    · intro g6 g5
      refine anyRead_ok (B1 := []) rfl 1 1 1 (Nat.le_refl _) (by unfold maxLen; omega) rfl id (by simp) fun G5 _ hs5 => ?_
      simp only [go_sem, Nat.reduceAdd, Nat.reduceSub, Nat.reduceMul, Nat.reduceEqDiff, Nat.reduceLT, Nat.reduceLeDiff, Nat.reduceBEq, Nat.reduceBNe, Int.reduceLT, Int.reduceLE, Int.reduceEq, Int.reduceAdd, Int.reduceSub, Int.reduceNeg, decide_true, decide_false, Bool.not_true, Bool.not_false, cond_true, cond_false, beq_self_eq_true, and_self, ne_eq, not_true_eq_false, not_false_eq_true, reduceCtorEq, Bool.true_beq, Bool.false_beq]
      refine any_ok2 (N := 3000) (call_does (fun v G => ∃ dv, v = .tuple #[dv, .int .i64 0] ∧ DevG G dv (putDev d (j : Int) [1])) rfl rfl (by kernel_rfl) rfl (by simp only [dOk_some, dOk_none, Nat.reduceLT]) (fun G hG => ret_mono (put_does (n := (j : Int)) (bs := [1]) smallGood hg hG.wf (tidL hG (by simp) (by simp; decide)) (hd.mono (hG.le G4 (by simp))) (ByG.mono (bytes1 hs5) (hG.le G5 (by simp)))) fun v G' _ h => dev_get h (he j hj18))) (QOk_body _ _ _) rfl (by first | exact .inl rfl | exact .inr ⟨_, _, rfl, rfl⟩) (by intro _ hK; first | (obtain ⟨_, _, _, _, rfl⟩ := hK; exact ⟨rfl, fun _ h => h⟩) | (obtain ⟨_, _, rfl⟩ := hK; exact ⟨rfl, fun _ h => h⟩) | (obtain ⟨_, _, _, _, _, _, rfl⟩ := hK; exact ⟨rfl, fun _ h => List.mem_cons_of_mem _ h⟩) | (obtain ⟨_, _, _, _, _, _, _, rfl⟩ := hK; exact ⟨rfl, fun _ h => List.mem_cons_of_mem _ h⟩) | (obtain rfl := hK; exact ⟨rfl, fun _ h => h⟩)) ?_
      rintro _ ⟨_, G6, ⟨dv, rfl, hd2⟩, hn7, rfl⟩
      clear hn7
      have hg2 := good_put hg (he j hj18)
      have hs2 : (putDev d (j : Int) [1]).safe.length = 18 := hs18
      have hf2 : (putDev d (j : Int) [1]).fuel = (k : Int) - ((v + 1 : Nat) : Int) := by
        show (spent d).fuel = _
        rw [spent_pos (by omega)]; omega
      have hc2 : (putDev d (j : Int) [1]).cache.length ≤ 10 + (v + 1) := by simp [putDev]; omega
      generalize putDev d (j : Int) [1] = x at hd2 hg2 hs2 hf2 hc2
      obtain ⟨B1, m1, B2, m2, B3, m3, rfl, hfo⟩ := hd2.form
      clear hfo
      simp only [go_sem, Nat.reduceAdd, Nat.reduceSub, Nat.reduceMul, Nat.reduceEqDiff, Nat.reduceLT, Nat.reduceLeDiff, Nat.reduceBEq, Nat.reduceBNe, Int.reduceLT, Int.reduceLE, Int.reduceEq, Int.reduceAdd, Int.reduceSub, Int.reduceNeg, decide_true, decide_false, Bool.not_true, Bool.not_false, cond_true, cond_false, beq_self_eq_true, and_self, ne_eq, not_true_eq_false, not_false_eq_true, reduceCtorEq, Bool.true_beq, Bool.false_beq]
      exact ⟨by omega, again_ok (v + 1, x, (B1, m1), (B2, m2), (B3, m3), G6) ⟨⟨by omega, hc2, hs2, hf2⟩, hg2, hd2⟩ (by simp only; omega) (by simp only [go_sem, Nat.reduceAdd, Nat.reduceSub, Nat.reduceMul, Nat.reduceEqDiff, Nat.reduceLT, Nat.reduceLeDiff, Nat.reduceBEq, Nat.reduceBNe, Int.reduceLT, Int.reduceLE, Int.reduceEq, Int.reduceAdd, Int.reduceSub, Int.reduceNeg, decide_true, decide_false, Bool.not_true, Bool.not_false, cond_true, cond_false, beq_self_eq_true, and_self, ne_eq, not_true_eq_false, not_false_eq_true, reduceCtorEq, Bool.true_beq, Bool.false_beq]; simp)⟩
  · have q1 : decide ((v : Int) < (k : Int)) = false := decide_eq_false (by omega)
    have hf0 : d.fuel = 0 := by omega
    simp only [go_sem, Nat.reduceAdd, Nat.reduceSub, Nat.reduceMul, Nat.reduceEqDiff, Nat.reduceLT, Nat.reduceLeDiff, Nat.reduceBEq, Nat.reduceBNe, Int.reduceLT, Int.reduceLE, Int.reduceEq, Int.reduceAdd, Int.reduceSub, Int.reduceNeg, decide_true, decide_false, Bool.not_true, Bool.not_false, cond_true, cond_false, beq_self_eq_true, and_self, ne_eq, not_true_eq_false, not_false_eq_true, reduceCtorEq, Bool.true_beq, Bool.false_beq, q1]
    refine plain_ok (N := 3000) (call_does (fun v G => v = .tuple #[.agg #[.slice none 0 0, .slice none 0 0, .slice none 0 0, .int .i64 0], .int .i64 10]) rfl rfl (by kernel_rfl) rfl (by simp only [dOk_some, dOk_none, Nat.reduceLT]) (fun G hG => ret_mono (put_does (n := 0) (bs := []) smallGood hg hG.wf (tidL hG (by simp) (by simp; decide)) (hd.mono (hG.le G4 (by simp))) (byG_nil _)) fun v G' _ h => dev_bad h (put_down (k := 0) (by omega) (by simp) (by omega) hf0) (by decide))) (QOk_body _ _ _) (by first | exact .inl rfl | exact .inr ⟨_, _, rfl, rfl⟩) ?_
    rintro _ ⟨_, G5, rfl, hn5, rfl⟩
    clear hn5
    simp only [go_sem, Nat.reduceAdd, Nat.reduceSub, Nat.reduceMul, Nat.reduceEqDiff, Nat.reduceLT, Nat.reduceLeDiff, Nat.reduceBEq, Nat.reduceBNe, Int.reduceLT, Int.reduceLE, Int.reduceEq, Int.reduceAdd, Int.reduceSub, Int.reduceNeg, decide_true, decide_false, Bool.not_true, Bool.not_false, cond_true, cond_false, beq_self_eq_true, and_self, ne_eq, not_true_eq_false, not_false_eq_true, reduceCtorEq, Bool.true_beq, Bool.false_beq]
    intro g3
    have hdn : downErr d = 10 := by unfold downErr; rw [if_pos hf0]
    refine plain_ok (N := 3000) (call_does (fun v G => v = .tuple #[.agg #[.slice none 0 0, .slice none 0 0, .slice none 0 0, .int .i64 0], .int .i64 10]) rfl rfl (by kernel_rfl) rfl (by simp only [dOk_some, dOk_none, Nat.reduceLT]) (fun G hG => ret_mono (flush_does smallGood hg hG.wf (tidL hG (by simp) (by simp; decide)) (hd.mono (hG.le G4 (by simp)))) fun v G' _ h => dev_bad h hdn (by decide))) (QOk_body _ _ _) (by first | exact .inl rfl | exact .inr ⟨_, _, rfl, rfl⟩) ?_
    rintro _ ⟨_, G6, rfl, hn6, rfl⟩
    clear hn6
    simp only [go_sem, Nat.reduceAdd, Nat.reduceSub, Nat.reduceMul, Nat.reduceEqDiff, Nat.reduceLT, Nat.reduceLeDiff, Nat.reduceBEq, Nat.reduceBNe, Int.reduceLT, Int.reduceLE, Int.reduceEq, Int.reduceAdd, Int.reduceSub, Int.reduceNeg, decide_true, decide_false, Bool.not_true, Bool.not_false, cond_true, cond_false, beq_self_eq_true, and_self, ne_eq, not_true_eq_false, not_false_eq_true, reduceCtorEq, Bool.true_beq, Bool.false_beq]
    intro g4
    refine plain_ok (N := 3000) (call_does (fun v G => v = .tuple #[.agg #[.slice none 0 0, .slice none 0 0, .slice none 0 0, .int .i64 0], .int .i64 10]) rfl rfl (by kernel_rfl) rfl (by simp only [dOk_some, dOk_none, Nat.reduceLT]) (fun G hG => ret_mono (mark_does smallGood hg hG.wf (tidL hG (by simp) (by simp; decide)) (hd.mono (hG.le G4 (by simp)))) fun v G' _ h => dev_bad h hdn (by decide))) (QOk_body _ _ _) (by first | exact .inl rfl | exact .inr ⟨_, _, rfl, rfl⟩) ?_
    rintro _ ⟨_, G7, rfl, hn7, rfl⟩
    clear hn7
    simp only [go_sem, Nat.reduceAdd, Nat.reduceSub, Nat.reduceMul, Nat.reduceEqDiff, Nat.reduceLT, Nat.reduceLeDiff, Nat.reduceBEq, Nat.reduceBNe, Int.reduceLT, Int.reduceLE, Int.reduceEq, Int.reduceAdd, Int.reduceSub, Int.reduceNeg, decide_true, decide_false, Bool.not_true, Bool.not_false, cond_true, cond_false, beq_self_eq_true, and_self, ne_eq, not_true_eq_false, not_false_eq_true, reduceCtorEq, Bool.true_beq, Bool.false_beq]
    intro g5
    refine plain_ok (N := 3000) (call_does (fun v G => ∃ A c, v = .tuple #[.slice A 64 c, .int .i64 0] ∧ ByG G (.slice A 64 c) (content d 0)) rfl rfl (by kernel_rfl) rfl (by simp only [dOk_some, dOk_none, Nat.reduceLT]) (fun G hG => get_ok (k := 0) smallGood hg (by omega) hG.wf (hd.mono (hG.le G4 (by simp))))) (QOk_body _ _ _) (by first | exact .inl rfl | exact .inr ⟨_, _, rfl, rfl⟩) ?_
    rintro _ ⟨_, G8, ⟨Ag, cg, rfl, _⟩, hn8, rfl⟩
    clear hn8
    simp only [go_sem, Nat.reduceAdd, Nat.reduceSub, Nat.reduceMul, Nat.reduceEqDiff, Nat.reduceLT, Nat.reduceLeDiff, Nat.reduceBEq, Nat.reduceBNe, Int.reduceLT, Int.reduceLE, Int.reduceEq, Int.reduceAdd, Int.reduceSub, Int.reduceNeg, decide_true, decide_false, Bool.not_true, Bool.not_false, cond_true, cond_false, beq_self_eq_true, and_self, ne_eq, not_true_eq_false, not_false_eq_true, reduceCtorEq, Bool.true_beq, Bool.false_beq]
    refine plain_ok (N := 3000) (call_does (fun v G => ∃ dv, v = .tuple #[dv, .int .i64 0] ∧ DevG G dv (crashDev d [] 0)) rfl rfl (by kernel_rfl) rfl (by simp only [dOk_some, dOk_none, Nat.reduceLT]) (fun G hG => ret_mono (crash_does (keep := []) (t := 0) smallGood hg (by omega) hG.wf (tidL hG (by simp) (by simp; decide)) (hd.mono (hG.le G4 (by simp))) (bools_nil _)) fun v G' _ h => dev_get h (by decide))) (QOk_body _ _ _) (by first | exact .inl rfl | exact .inr ⟨_, _, rfl, rfl⟩) ?_
    rintro _ ⟨_, G9, ⟨dv, rfl, hd5⟩, hn9, rfl⟩
    clear hn9
    have hg5 := good_crash (keep := []) (t := 0) hg (by omega)
    have hf5 : (crashDev d [] 0).fuel = -1 := rfl
    generalize crashDev d [] 0 = d5 at hd5 hg5 hf5
    obtain ⟨D1, e1, D2, e2, D3, e3, rfl, hfo⟩ := hd5.form
    clear hfo
    simp only [go_sem, Nat.reduceAdd, Nat.reduceSub, Nat.reduceMul, Nat.reduceEqDiff, Nat.reduceLT, Nat.reduceLeDiff, Nat.reduceBEq, Nat.reduceBNe, Int.reduceLT, Int.reduceLE, Int.reduceEq, Int.reduceAdd, Int.reduceSub, Int.reduceNeg, decide_true, decide_false, Bool.not_true, Bool.not_false, cond_true, cond_false, beq_self_eq_true, and_self, ne_eq, not_true_eq_false, not_false_eq_true, reduceCtorEq, Bool.true_beq, Bool.false_beq]
    intro g6
    have hd0 : downErr d5 = 0 := by unfold downErr; rw [if_neg (by omega)]
    refine plain_ok (N := 3000) (call_does (fun v G => ∃ dv, v = .tuple #[dv, .int .i64 0] ∧ DevG G dv (flushDev d5)) rfl rfl (by kernel_rfl) rfl (by simp only [dOk_some, dOk_none, Nat.reduceLT]) (fun G hG => ret_mono (flush_does smallGood hg5 hG.wf (tidL hG (by simp) (by simp; decide)) (hd5.mono (hG.le G9 (by simp)))) fun v G' _ h => dev_get h hd0)) (QOk_body _ _ _) (by first | exact .inl rfl | exact .inr ⟨_, _, rfl, rfl⟩) ?_
    rintro _ ⟨_, G10, ⟨dv, rfl, hd6⟩, hn10, rfl⟩
    clear hn10
    generalize flushDev d5 = d6 at hd6
    obtain ⟨F1, f1, F2, f2, F3, f3, rfl, hfo⟩ := hd6.form
    clear hfo
    simp only [go_sem, Nat.reduceAdd, Nat.reduceSub, Nat.reduceMul, Nat.reduceEqDiff, Nat.reduceLT, Nat.reduceLeDiff, Nat.reduceBEq, Nat.reduceBNe, Int.reduceLT, Int.reduceLE, Int.reduceEq, Int.reduceAdd, Int.reduceSub, Int.reduceNeg, decide_true, decide_false, Bool.not_true, Bool.not_false, cond_true, cond_false, beq_self_eq_true, and_self, ne_eq, not_true_eq_false, not_false_eq_true, reduceCtorEq, Bool.true_beq, Bool.false_beq]
    intro g7
    refine fin_ret (G := ⟨Non, w⟩) Try.results13 ?_
    simp only [go_sem, Nat.reduceAdd, Nat.reduceSub, Nat.reduceMul, Nat.reduceEqDiff, Nat.reduceLT, Nat.reduceLeDiff, Nat.reduceBEq, Nat.reduceBNe, Int.reduceLT, Int.reduceLE, Int.reduceEq, Int.reduceAdd, Int.reduceSub, Int.reduceNeg, decide_true, decide_false, Bool.not_true, Bool.not_false, cond_true, cond_false, beq_self_eq_true, and_self, ne_eq, not_true_eq_false, not_false_eq_true, reduceCtorEq, Bool.true_beq, Bool.false_beq]
    intro aa w' _ _
    rfl
theorem fuelCounts_walk {w : World} (a0 : Int) (w0 : (Lit.int .i64 a0).wf = true) (v1 : Value) (l1 : List Raw) (h1 : RawsG ⟨Non, w⟩ v1 l1) :
    Calls Try.prog 13 #[.int .i64 a0, v1] w fun e w' => e = .returned (.bool true) ∧ Below w.heap.size w w' :=
  (fuelCounts_ret a0 w0 v1 l1 h1).mono fun e w' ⟨v, he, hv, hc⟩ => ⟨by rw [he, hv], hc.below⟩
end Go.Proofs.Ytomfladifefomaa
