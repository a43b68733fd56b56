/- 'icehousekeep.FlushSafe' returns true for every slice of raw things, int, text and slice of raw things. Conditions: none. -/
import Derived.Test.YtomfladifefomaaU7
import Derived.Test.YtomfladifefomaaA3
namespace Go.Proofs.Ytomfladifefomaa
open Go.RowKit
set_option linter.unusedSimpArgs false
theorem bools_nil (G : GW) : BoolsG G (.slice none 0 0) [] := ⟨[], ⟨rfl, by simp, fun i cs x h1 _ => by cases h1⟩, none, 0, rfl, Nat.le_refl _, by unfold maxLen; omega, rfl, fun h => absurd h (by simp)⟩
theorem byG_nil (G : GW) : ByG G (.slice none 0 0) [] := ⟨none, 0, rfl, Nat.le_refl _, by unfold maxLen; omega, rfl, fun h => absurd h (by simp)⟩
theorem val_none (d : Dev) (n : Nat) : ∀ i, valTo (fun i => ([] : List Bool).getD i false) d n i = d.safe.getD n []
  | 0 => rfl
  | i + 1 => by
    unfold valTo
    cases d.cache[i]? with
    | none => exact val_none d n i
    | some x => simpa using val_none d n i
theorem flush_at {g : Geo} {d : Dev} (h : GoodDev g d) {n : Nat} (hn : n < d.safe.length) : (flushDev d).safe[n]? = some (content d n) := puts_val h all_ n hn _
set_option maxRecDepth 100000 in
set_option maxHeartbeats 8000000 in
theorem flushSafe_ret {w : World} (v0 : Value) (l0 : List Raw) (h0 : RawsG ⟨Non, w⟩ v0 l0) (a1 : Int) (w1 : (Lit.int .i64 a1).wf = true) (s : ByteArray) (v3 : Value) (l3 : List Raw) (h3 : RawsG ⟨Non, w⟩ v3 l3) :
    Calls Try.prog 8 #[v0, .int .i64 a1, .string s, v3] w (Ret ⟨Non, w⟩ fun v _ => v = .bool true) := by
  obtain ⟨A, c, rfl, _, _⟩ := ScR.form h0
  obtain ⟨A', c', rfl, _, _⟩ := ScR.form h3
  obtain ⟨x1, x2⟩ := i64_bd w1
  refine enter (G := ⟨Non, w⟩) (n := 135) 3000 (wf_nonL w) Try.func8 rfl Try.ntmps8 (by simp) ?_
  simp only [go_sem, Nat.reduceAdd, Nat.reduceSub, Nat.reduceMul, Nat.reduceEqDiff, Nat.reduceLT, Nat.reduceLeDiff, Nat.reduceBEq, Nat.reduceBNe, Int.reduceLT, Int.reduceLE, Int.reduceEq, Int.reduceAdd, Int.reduceSub, Int.reduceNeg, decide_true, decide_false, Bool.not_true, Bool.not_false, cond_true, cond_false, beq_self_eq_true, and_self, ne_eq, not_true_eq_false, not_false_eq_true, reduceCtorEq, Bool.true_beq, Bool.false_beq]
  refine plain_ok (N := 3000) (call_does (fun v _ => v = .agg #[.int .i64 6, .int .i64 2, .int .i64 6, .int .i64 300, .int .i64 3]) rfl rfl (by kernel_rfl) rfl (by simp only [dOk_some, dOk_none, Nat.reduceLT]) (fun G hG => small_does _)) (QOk_body _ _ _) (by first | exact .inl rfl | exact .inr ⟨_, _, rfl, rfl⟩) ?_
  rintro _ ⟨v, G1, rfl, hn1, rfl⟩
  clear hn1
  simp only [go_sem, Nat.reduceAdd, Nat.reduceSub, Nat.reduceMul, Nat.reduceEqDiff, Nat.reduceLT, Nat.reduceLeDiff, Nat.reduceBEq, Nat.reduceBNe, Int.reduceLT, Int.reduceLE, Int.reduceEq, Int.reduceAdd, Int.reduceSub, Int.reduceNeg, decide_true, decide_false, Bool.not_true, Bool.not_false, cond_true, cond_false, beq_self_eq_true, and_self, ne_eq, not_true_eq_false, not_false_eq_true, reduceCtorEq, Bool.true_beq, Bool.false_beq]
  intro g1
  refine plain_ok (N := 3000) (call_does (fun v G => ∃ dv d, v = .tuple #[dv, .bool true] ∧ DevG G dv d ∧ GoodDev smallGeo d ∧ d.fuel = -1 ∧ (d.cache.length : Int) ≤ 20) rfl rfl (by kernel_rfl) rfl (by simp only [dOk_some, dOk_none, Nat.reduceLT]) (fun G hG => devices_does (most := 20) smallGood (by omega) (by omega) hG.wf (tidL hG (by simp) (by simp; decide)) (ScR.mono h0 rawG_mono (hG.le ⟨Non, w⟩ (by simp))))) (QOk_body _ _ _) (by first | exact .inl rfl | exact .inr ⟨_, _, rfl, rfl⟩) ?_
  rintro _ ⟨_, G2, ⟨dv, d, rfl, hd, hg, hf, hc⟩, hn2, rfl⟩
  have hl02 : GW.Le ⟨Non, w⟩ G2 := hn2.le _ (by simp)
  clear hn2
  obtain ⟨A1, k1, A2, k2, A3, k3, rfl, hfo⟩ := hd.form
  clear hfo
  have hs18 : d.safe.length = 18 := by have := hg.safe; simp only [sectorsOf, smallGeo] at this; omega
  simp only [go_sem, Nat.reduceAdd, Nat.reduceSub, Nat.reduceMul, Nat.reduceEqDiff, Nat.reduceLT, Nat.reduceLeDiff, Nat.reduceBEq, Nat.reduceBNe, Int.reduceLT, Int.reduceLE, Int.reduceEq, Int.reduceAdd, Int.reduceSub, Int.reduceNeg, decide_true, decide_false, Bool.not_true, Bool.not_false, cond_true, cond_false, beq_self_eq_true, and_self, ne_eq, not_true_eq_false, not_false_eq_true, reduceCtorEq, Bool.true_beq, Bool.false_beq]
  intro g2
  refine plain_ok (N := 3000) (call_does (fun v _ => ∃ k : Nat, (k : Int) = pick a1 (d.safe.length : Int) ∧ (k : Int) < (d.safe.length : Int) ∧ v = .int .i64 (k : Int)) rfl rfl (by kernel_rfl) rfl (by simp only [dOk_some, dOk_none, Nat.reduceLT]) (fun G hG => picked_does x1 x2 (by omega) (by omega))) (QOk_body _ _ _) (by first | exact .inl rfl | exact .inr ⟨_, _, rfl, rfl⟩) ?_
  rintro _ ⟨_, G3, ⟨n, _, hn, rfl⟩, hn3, rfl⟩
  clear hn3
  simp only [go_sem, Nat.reduceAdd, Nat.reduceSub, Nat.reduceMul, Nat.reduceEqDiff, Nat.reduceLT, Nat.reduceLeDiff, Nat.reduceBEq, Nat.reduceBNe, Int.reduceLT, Int.reduceLE, Int.reduceEq, Int.reduceAdd, Int.reduceSub, Int.reduceNeg, decide_true, decide_false, Bool.not_true, Bool.not_false, cond_true, cond_false, beq_self_eq_true, and_self, ne_eq, not_true_eq_false, not_false_eq_true, reduceCtorEq, Bool.true_beq, Bool.false_beq]
  refine ⟨by omega, ?_⟩
  obtain ⟨b, hb⟩ : ∃ b : List UInt8, b = (s.extract 0 (min s.size 64)).data.toList := ⟨_, rfl⟩
  have hbl : b.length ≤ 64 := by rw [hb]; exact cut_len s 64
  refine plain_ok (N := 3000) (bytes_does (e := 5) rfl (tyStr9) (tySlice23) (tyInt5) rfl (by simp only [dOk_some, dOk_none, Nat.reduceLT]) (cut_sz s 64 (by omega))) (QOk_body _ _ _) (by first | exact .inl rfl | exact .inr ⟨_, _, rfl, rfl⟩) ?_
  rw [cut_is s 64 64 rfl, ← hb]
  rintro _ ⟨Ab, cb, G5, hby, rfl⟩
  simp only [go_sem, Nat.reduceAdd, Nat.reduceSub, Nat.reduceMul, Nat.reduceEqDiff, Nat.reduceLT, Nat.reduceLeDiff, Nat.reduceBEq, Nat.reduceBNe, Int.reduceLT, Int.reduceLE, Int.reduceEq, Int.reduceAdd, Int.reduceSub, Int.reduceNeg, decide_true, decide_false, Bool.not_true, Bool.not_false, cond_true, cond_false, beq_self_eq_true, and_self, ne_eq, not_true_eq_false, not_false_eq_true, reduceCtorEq, Bool.true_beq, Bool.false_beq]
  have he : putErr d (n : Int) b.length = 0 := put_zero (by omega) hbl (by omega) hf
  refine plain_ok (N := 3000) (call_does (fun v G => ∃ dv, v = .tuple #[dv, .int .i64 0] ∧ DevG G dv (putDev d (n : Int) b)) rfl rfl (by kernel_rfl) rfl (by simp only [dOk_some, dOk_none, Nat.reduceLT]) (fun G hG => ret_mono (put_does (n := (n : Int)) (bs := b) smallGood hg hG.wf (tidL hG (by simp) (by simp; decide)) (hd.mono (hG.le G2 (by simp))) (ByG.mono hby (hG.le G5 (by simp)))) fun v G' _ h => dev_get h he)) (QOk_body _ _ _) (by first | exact .inl rfl | exact .inr ⟨_, _, rfl, rfl⟩) ?_
  rintro _ ⟨_, G7, ⟨dv, rfl, hd2⟩, hn7, rfl⟩
  have hl07 : GW.Le ⟨Non, w⟩ G7 := hn7.le _ (by simp)
  have hl57 : G5.Le G7 := hn7.le _ (by simp)
  clear hn7
  have hg2 := good_put hg he
  have r1 := content_put d (n : Int) b n
  have hs2 : (putDev d (n : Int) b).safe.length = 18 := hs18
  have hf2 : (putDev d (n : Int) b).fuel = -1 := spent_fuel1 hf
  generalize putDev d (n : Int) b = x at hd2 hg2 r1 hs2 hf2
  obtain ⟨B1, m1, B2, m2, B3, m3, rfl, hfo⟩ := hd2.form
  clear hfo
  rw [if_pos rfl] at r1
  simp only [go_sem, Nat.reduceAdd, Nat.reduceSub, Nat.reduceMul, Nat.reduceEqDiff, Nat.reduceLT, Nat.reduceLeDiff, Nat.reduceBEq, Nat.reduceBNe, Int.reduceLT, Int.reduceLE, Int.reduceEq, Int.reduceAdd, Int.reduceSub, Int.reduceNeg, decide_true, decide_false, Bool.not_true, Bool.not_false, cond_true, cond_false, beq_self_eq_true, and_self, ne_eq, not_true_eq_false, not_false_eq_true, reduceCtorEq, Bool.true_beq, Bool.false_beq]
  have hdn : downErr x = 0 := by unfold downErr; rw [if_neg (by omega)]
  refine plain_ok (N := 3000) (call_does (fun v G => ∃ dv, v = .tuple #[dv, .int .i64 0] ∧ DevG G dv (flushDev x)) rfl rfl (by kernel_rfl) rfl (by simp only [dOk_some, dOk_none, Nat.reduceLT]) (fun G hG => ret_mono (flush_does smallGood hg2 hG.wf (tidL hG (by simp) (by simp; decide)) (hd2.mono (hG.le G7 (by simp)))) fun v G' _ h => dev_get h hdn)) (QOk_body _ _ _) (by first | exact .inl rfl | exact .inr ⟨_, _, rfl, rfl⟩) ?_
  rintro _ ⟨_, G8, ⟨dv, rfl, hd3⟩, hn8, rfl⟩
  have hl08 : GW.Le ⟨Non, w⟩ G8 := hn8.le _ (by simp)
  have hl58 : G5.Le G8 := hn8.le _ (by simp)
  clear hn8
  have hg3 := good_flush hg2
  have hf3 : (flushDev x).fuel = -1 := spent_fuel1 hf2
  have hc3 : (flushDev x).cache.length = 0 := rfl
  have hs3 : (flushDev x).safe.length = 18 := by show (putsTo _ x x.cache.length).length = 18; rw [puts_len]; exact hs2
  have hat3 := flush_at hg2 (n := n) (by omega)
  rw [r1] at hat3
  generalize flushDev x = y at hd3 hg3 hf3 hc3 hs3 hat3
  obtain ⟨C1, n1, C2, n2, C3, n3, rfl, hfo⟩ := hd3.form
  clear hfo
  simp only [go_sem, Nat.reduceAdd, Nat.reduceSub, Nat.reduceMul, Nat.reduceEqDiff, Nat.reduceLT, Nat.reduceLeDiff, Nat.reduceBEq, Nat.reduceBNe, Int.reduceLT, Int.reduceLE, Int.reduceEq, Int.reduceAdd, Int.reduceSub, Int.reduceNeg, decide_true, decide_false, Bool.not_true, Bool.not_false, cond_true, cond_false, beq_self_eq_true, and_self, ne_eq, not_true_eq_false, not_false_eq_true, reduceCtorEq, Bool.true_beq, Bool.false_beq]
  have hnl : n < 18 := by omega
  have hk3 : RawsG G8 (.slice A' l3.length c') l3 := ScR.mono h3 rawG_mono hl08
  refine loop_ok (N := 3000) (ι := Nat × Dev × (Option Addr × Nat) × (Option Addr × Nat) × (Option Addr × Nat) × GW)
    (fun i => match i with | (v, d, (C1, n1), (C2, n2), (C3, n3), G) => ⟨[(3, .c (.v (.slice A' l3.length c'))), (9, .c (.p 0 g1 0)), (10, .c (.p 1 g2 0)), (12, .c (.v (.int .i64 (n : Int)))), (13, .c (.v (.slice Ab b.length cb))), (14, .c (.v (.int .i64 0))), (15, .c (.v (.int .i64 0))), (16, .c (.v (.int .i64 (v : Int))))],
      [⟨1, g2, 37, [.v (.slice C1 d.safe.length n1), .v (.slice C2 d.cache.length n2), .v (.slice C3 d.vols.length n3), .v (.int .i64 d.fuel)]⟩, ⟨0, g1, 32, [.v (.int .i64 6), .v (.int .i64 2), .v (.int .i64 6), .v (.int .i64 300), .v (.int .i64 3)]⟩], [], [], [G], 2⟩)
    (fun i => match i with | (v, d, (C1, n1), (C2, n2), (C3, n3), G) => (v ≤ 10 ∧ d.cache.length ≤ v ∧ d.safe.length = 18 ∧ d.fuel = -1 ∧ d.safe[n]? = some (sec b)) ∧ GoodDev smallGeo d ∧ DevG G (.agg #[.slice C1 d.safe.length n1, .slice C2 d.cache.length n2, .slice C3 d.vols.length n3, .int .i64 d.fuel]) d ∧ RawsG G (.slice A' l3.length c') l3 ∧ ByG G (.slice Ab b.length cb) b)
    (fun i => 10 - i.1) (QOk_body _ _ _) (0, y, (C1, n1), (C2, n2), (C3, n3), G8) ⟨⟨by omega, by omega, hs3, hf3, hat3⟩, hg3, hd3, hk3, ByG.mono hby hl58⟩ (by simp only [go_sem, Nat.reduceAdd, Nat.reduceSub, Nat.reduceMul, Nat.reduceEqDiff, Nat.reduceLT, Nat.reduceLeDiff, Nat.reduceBEq, Nat.reduceBNe, Int.reduceLT, Int.reduceLE, Int.reduceEq, Int.reduceAdd, Int.reduceSub, Int.reduceNeg, decide_true, decide_false, Bool.not_true, Bool.not_false, cond_true, cond_false, beq_self_eq_true, and_self, ne_eq, not_true_eq_false, not_false_eq_true, reduceCtorEq, Bool.true_beq, Bool.false_beq]; simp) ?_
  clear hd3 hg3 hf3 hc3 hs3 hat3 hk3 hd2 hg2 r1 hs2 hf2 hl07 hl08 hl57 hl58 hby hl02 hd hg hf hc hs18 he hn hdn C1 n1 C2 n2 C3 n3 y x G8 G7 G5
  rintro ⟨v, d, ⟨C1, n1⟩, ⟨C2, n2⟩, ⟨C3, n3⟩, G8⟩ ⟨⟨hv, hvc, hs18, hf, hat⟩, hg, hd, hk3, hby⟩
  simp only
  by_cases hlt : v < l3.length
  · have q1 : decide ((v : Int) < (l3.length : Int)) = true := decide_eq_true (by omega)
    by_cases hl10 : v < 10
    · have q2 : decide ((v : Int) < 10) = true := decide_eq_true (by omega)
      obtain ⟨z, hz⟩ : ∃ z, l3[v]? = some z := ⟨_, List.getElem?_eq_getElem hlt⟩
      simp only [go_sem, Nat.reduceAdd, Nat.reduceSub, Nat.reduceMul, Nat.reduceEqDiff, Nat.reduceLT, Nat.reduceLeDiff, Nat.reduceBEq, Nat.reduceBNe, Int.reduceLT, Int.reduceLE, Int.reduceEq, Int.reduceAdd, Int.reduceSub, Int.reduceNeg, decide_true, decide_false, Bool.not_true, Bool.not_false, cond_true, cond_false, beq_self_eq_true, and_self, ne_eq, not_true_eq_false, not_false_eq_true, reduceCtorEq, Bool.true_beq, Bool.false_beq, q1, q2]
      refine draw_ok (N := 3000) (.take 0 (.take 1 (.take 5 (.take 6 (.take 7 (.alt 2 (.take 3 (.alt 4 (.alt 8 (.take 9 .done) .last) .last)) .last)))))) [] (QOk_body _ _ _) follows_mixed (by kernel_rfl) (by kernel_rfl) ?_
      simp only [go_sem, Nat.reduceAdd, Nat.reduceSub, Nat.reduceMul, Nat.reduceEqDiff, Nat.reduceLT, Nat.reduceLeDiff, Nat.reduceBEq, Nat.reduceBNe, Int.reduceLT, Int.reduceLE, Int.reduceEq, Int.reduceAdd, Int.reduceSub, Int.reduceNeg, decide_true, decide_false, Bool.not_true, Bool.not_false, cond_true, cond_false, beq_self_eq_true, and_self, ne_eq, not_true_eq_false, not_false_eq_true, reduceCtorEq, Bool.true_beq, Bool.false_beq]
      refine any_ok2 (N := 3000) (elemC_does (R := RawG) (l := l3) (m := v) rfl tySlice48 tySize58 rfl rfl (by simp only [dOk_some, dOk_none, Nat.reduceLT]) rfl hz (fun G hG => ScR.mono hk3 rawG_mono (hG.le G8 (by simp)))) (QOk_body _ _ _) rfl (by first | exact .inl rfl | exact .inr ⟨_, _, rfl, rfl⟩) (by intro _ hK; first | (obtain ⟨_, _, _, _, rfl⟩ := hK; exact ⟨rfl, fun _ h => h⟩) | (obtain ⟨_, _, rfl⟩ := hK; exact ⟨rfl, fun _ h => h⟩) | (obtain ⟨_, _, _, _, _, _, rfl⟩ := hK; exact ⟨rfl, fun _ h => List.mem_cons_of_mem _ h⟩) | (obtain ⟨_, _, _, _, _, _, _, rfl⟩ := hK; exact ⟨rfl, fun _ h => List.mem_cons_of_mem _ h⟩) | (obtain rfl := hK; exact ⟨rfl, fun _ h => h⟩)) ?_
      rintro _ ⟨gw, ow, cs, G9, hcl, ⟨rfl, _, ⟨b3, b4⟩, _⟩, hn2, rfl⟩
      have hl89 : G8.Le G9 := hn2.le G8 (by simp)
      clear hn2 hcl
      simp only [go_sem, Nat.reduceAdd, Nat.reduceSub, Nat.reduceMul, Nat.reduceEqDiff, Nat.reduceLT, Nat.reduceLeDiff, Nat.reduceBEq, Nat.reduceBNe, Int.reduceLT, Int.reduceLE, Int.reduceEq, Int.reduceAdd, Int.reduceSub, Int.reduceNeg, decide_true, decide_false, Bool.not_true, Bool.not_false, cond_true, cond_false, beq_self_eq_true, and_self, ne_eq, not_true_eq_false, not_false_eq_true, reduceCtorEq, Bool.true_beq, Bool.false_beq]
      refine any_ok2 (N := 3000) (call_does (fun v _ => ∃ j : Nat, (j : Int) = pick z.a (d.safe.length : Int) ∧ (j : Int) < (d.safe.length : Int) ∧ v = .int .i64 (j : Int)) rfl rfl (by kernel_rfl) rfl (by simp only [dOk_some, dOk_none, Nat.reduceLT]) (fun G hG => picked_does b3 b4 (by omega) (by omega))) (QOk_body _ _ _) rfl (by first | exact .inl rfl | exact .inr ⟨_, _, rfl, rfl⟩) (by intro _ hK; first | (obtain ⟨_, _, _, _, rfl⟩ := hK; exact ⟨rfl, fun _ h => h⟩) | (obtain ⟨_, _, rfl⟩ := hK; exact ⟨rfl, fun _ h => h⟩) | (obtain ⟨_, _, _, _, _, _, rfl⟩ := hK; exact ⟨rfl, fun _ h => List.mem_cons_of_mem _ h⟩) | (obtain ⟨_, _, _, _, _, _, _, rfl⟩ := hK; exact ⟨rfl, fun _ h => List.mem_cons_of_mem _ h⟩) | (obtain rfl := hK; exact ⟨rfl, fun _ h => h⟩)) ?_
      rintro _ ⟨_, G10, ⟨j, _, hj, rfl⟩, hn5, rfl⟩
      have hl810 : G8.Le G10 := hn5.le G8 (by simp)
      clear hn5
      by_cases ejn : j = n
      · have q3 : decide ((j : Int) = (n : Int)) = true := decide_eq_true (by omega)
        simp only [go_sem, Nat.reduceAdd, Nat.reduceSub, Nat.reduceMul, Nat.reduceEqDiff, Nat.reduceLT, Nat.reduceLeDiff, Nat.reduceBEq, Nat.reduceBNe, Int.reduceLT, Int.reduceLE, Int.reduceEq, Int.reduceAdd, Int.reduceSub, Int.reduceNeg, decide_true, decide_false, Bool.not_true, Bool.not_false, cond_true, cond_false, beq_self_eq_true, and_self, ne_eq, not_true_eq_false, not_false_eq_true, reduceCtorEq, Bool.true_beq, Bool.false_beq, q3]
        exact ⟨by omega, again_ok (v + 1, d, (C1, n1), (C2, n2), (C3, n3), G10) ⟨⟨by omega, Nat.le_succ_of_le hvc, hs18, hf, hat⟩, hg, hd.mono hl810, ScR.mono hk3 rawG_mono hl810, hby.mono hl810⟩ (by simp only; omega) (by simp only [go_sem, Nat.reduceAdd, Nat.reduceSub, Nat.reduceMul, Nat.reduceEqDiff, Nat.reduceLT, Nat.reduceLeDiff, Nat.reduceBEq, Nat.reduceBNe, Int.reduceLT, Int.reduceLE, Int.reduceEq, Int.reduceAdd, Int.reduceSub, Int.reduceNeg, decide_true, decide_false, Bool.not_true, Bool.not_false, cond_true, cond_false, beq_self_eq_true, and_self, ne_eq, not_true_eq_false, not_false_eq_true, reduceCtorEq, Bool.true_beq, Bool.false_beq]; simp)⟩
      · have q3 : decide ((j : Int) = (n : Int)) = false := decide_eq_false (by omega)
        simp only [go_sem, Nat.reduceAdd, Nat.reduceSub, Nat.reduceMul, Nat.reduceEqDiff, Nat.reduceLT, Nat.reduceLeDiff, Nat.reduceBEq, Nat.reduceBNe, Int.reduceLT, Int.reduceLE, Int.reduceEq, Int.reduceAdd, Int.reduceSub, Int.reduceNeg, decide_true, decide_false, Bool.not_true, Bool.not_false, cond_true, cond_false, beq_self_eq_true, and_self, ne_eq, not_true_eq_false, not_false_eq_true, reduceCtorEq, Bool.true_beq, Bool.false_beq, q3]
        intro g5
        refine plain_ok (N := 3000) (lit_does (t := 23) (e := 5) (B1 := []) [122, 122] rfl tySlice23 tyInt5 rfl rfl rfl rfl (by simp) id (by simp only [dOk_some, dOk_none, Nat.reduceLT])) (QOk_body _ _ _) (by first | exact .inl rfl | exact .inr ⟨_, _, rfl, rfl⟩) ?_
        rintro _ ⟨G11, hzz, rfl⟩
        simp only [go_sem, Nat.reduceAdd, Nat.reduceSub, Nat.reduceMul, Nat.reduceEqDiff, Nat.reduceLT, Nat.reduceLeDiff, Nat.reduceBEq, Nat.reduceBNe, Int.reduceLT, Int.reduceLE, Int.reduceEq, Int.reduceAdd, Int.reduceSub, Int.reduceNeg, decide_true, decide_false, Bool.not_true, Bool.not_false, cond_true, cond_false, beq_self_eq_true, and_self, ne_eq, not_true_eq_false, not_false_eq_true, reduceCtorEq, Bool.true_beq, Bool.false_beq]
        have he : putErr d (j : Int) ([122, 122] : List UInt8).length = 0 := put_zero (by omega) (by simp) (by omega) hf
        refine plain_ok (N := 3000) (call_does (fun v G => ∃ dv, v = .tuple #[dv, .int .i64 0] ∧ DevG G dv (putDev d (j : Int) [122, 122])) rfl rfl (by kernel_rfl) rfl (by simp only [dOk_some, dOk_none, Nat.reduceLT]) (fun G hG => ret_mono (put_does (n := (j : Int)) (bs := [122, 122]) smallGood hg hG.wf (tidL hG (by simp) (by simp; decide)) (hd.mono (hG.le G8 (by simp))) (ByG.mono hzz (hG.le G11 (by simp)))) fun v G' _ h => dev_get h he)) (QOk_body _ _ _) (by first | exact .inl rfl | exact .inr ⟨_, _, rfl, rfl⟩) ?_
        rintro _ ⟨_, G12, ⟨dv, rfl, hd2⟩, hn7, rfl⟩
        have hl812 : G8.Le G12 := hn7.le _ (by simp)
        clear hn7
        have hg2 := good_put hg he
        have hs2 : (putDev d (j : Int) [122, 122]).safe.length = 18 := hs18
        have hf2 : (putDev d (j : Int) [122, 122]).fuel = -1 := spent_fuel1 hf
        have hc2 : (putDev d (j : Int) [122, 122]).cache.length ≤ v + 1 := by simp [putDev]; omega
        have ha2 : (putDev d (j : Int) [122, 122]).safe[n]? = some (sec b) := hat
        generalize putDev d (j : Int) [122, 122] = x at hd2 hg2 hs2 hf2 hc2 ha2
        obtain ⟨B1, m1, B2, m2, B3, m3, rfl, hfo⟩ := hd2.form
        clear hfo
        simp only [go_sem, Nat.reduceAdd, Nat.reduceSub, Nat.reduceMul, Nat.reduceEqDiff, Nat.reduceLT, Nat.reduceLeDiff, Nat.reduceBEq, Nat.reduceBNe, Int.reduceLT, Int.reduceLE, Int.reduceEq, Int.reduceAdd, Int.reduceSub, Int.reduceNeg, decide_true, decide_false, Bool.not_true, Bool.not_false, cond_true, cond_false, beq_self_eq_true, and_self, ne_eq, not_true_eq_false, not_false_eq_true, reduceCtorEq, Bool.true_beq, Bool.false_beq]
        intro g6
        exact ⟨by omega, again_ok (v + 1, x, (B1, m1), (B2, m2), (B3, m3), G12) ⟨⟨by omega, hc2, hs2, hf2, ha2⟩, hg2, hd2, ScR.mono hk3 rawG_mono hl812, hby.mono hl812⟩ (by simp only; omega) (by simp only [go_sem, Nat.reduceAdd, Nat.reduceSub, Nat.reduceMul, Nat.reduceEqDiff, Nat.reduceLT, Nat.reduceLeDiff, Nat.reduceBEq, Nat.reduceBNe, Int.reduceLT, Int.reduceLE, Int.reduceEq, Int.reduceAdd, Int.reduceSub, Int.reduceNeg, decide_true, decide_false, Bool.not_true, Bool.not_false, cond_true, cond_false, beq_self_eq_true, and_self, ne_eq, not_true_eq_false, not_false_eq_true, reduceCtorEq, Bool.true_beq, Bool.false_beq]; simp)⟩
    · have q2 : decide ((v : Int) < 10) = false := decide_eq_false (by omega)
      simp only [go_sem, Nat.reduceAdd, Nat.reduceSub, Nat.reduceMul, Nat.reduceEqDiff, Nat.reduceLT, Nat.reduceLeDiff, Nat.reduceBEq, Nat.reduceBNe, Int.reduceLT, Int.reduceLE, Int.reduceEq, Int.reduceAdd, Int.reduceSub, Int.reduceNeg, decide_true, decide_false, Bool.not_true, Bool.not_false, cond_true, cond_false, beq_self_eq_true, and_self, ne_eq, not_true_eq_false, not_false_eq_true, reduceCtorEq, Bool.true_beq, Bool.false_beq, q1, q2]
      refine plain_ok (N := 3000) (call_does (fun v G => ∃ dv, v = .tuple #[dv, .int .i64 0] ∧ DevG G dv (crashDev d [] 0)) rfl rfl (by kernel_rfl) rfl (by simp only [dOk_some, dOk_none, Nat.reduceLT]) (fun G hG => ret_mono (crash_does (keep := []) (t := 0) smallGood hg (by omega) hG.wf (tidL hG (by simp) (by simp; decide)) (hd.mono (hG.le G8 (by simp))) (bools_nil _)) fun v G' _ h => dev_get h (by decide))) (QOk_body _ _ _) (by first | exact .inl rfl | exact .inr ⟨_, _, rfl, rfl⟩) ?_
      rintro _ ⟨_, G9, ⟨dv, rfl, hd5⟩, hn5, rfl⟩
      clear hn5
      have hcc := content_crash hg [] 0 n (by omega)
      rw [val_none, List.getD_eq_getElem?_getD, hat] at hcc
      have hg5 := good_crash (keep := []) (t := 0) hg (by omega)
      have hs5 : (crashDev d [] 0).safe.length = 18 := by show (putsTo _ d d.cache.length).length = 18; rw [puts_len]; exact hs18
      have hc5 : (crashDev d [] 0).cache.length = 0 := rfl
      generalize crashDev d [] 0 = d5 at hd5 hcc hg5 hs5 hc5
      obtain ⟨D1, e1, D2, e2, D3, e3, rfl, hfo⟩ := hd5.form
      clear hfo
      simp only [go_sem, Nat.reduceAdd, Nat.reduceSub, Nat.reduceMul, Nat.reduceEqDiff, Nat.reduceLT, Nat.reduceLeDiff, Nat.reduceBEq, Nat.reduceBNe, Int.reduceLT, Int.reduceLE, Int.reduceEq, Int.reduceAdd, Int.reduceSub, Int.reduceNeg, decide_true, decide_false, Bool.not_true, Bool.not_false, cond_true, cond_false, beq_self_eq_true, and_self, ne_eq, not_true_eq_false, not_false_eq_true, reduceCtorEq, Bool.true_beq, Bool.false_beq]
      intro g4
      refine plain_ok (N := 3000) (call_does (fun v G => ∃ A c, v = .tuple #[.slice A 64 c, .int .i64 0] ∧ ByG G (.slice A 64 c) (content d5 n)) rfl rfl (by kernel_rfl) rfl (by simp only [dOk_some, dOk_none, Nat.reduceLT]) (fun G hG => get_ok smallGood hg5 (by omega) hG.wf (hd5.mono (hG.le G9 (by simp))))) (QOk_body _ _ _) (by first | exact .inl rfl | exact .inr ⟨_, _, rfl, rfl⟩) ?_
      rintro _ ⟨_, G10, ⟨Ag, cg, rfl, hgot⟩, hn6, rfl⟩
      clear hn6
      rw [hcc] at hgot
      have hgot : ByG G10 (.slice Ag 64 cg) (sec b) := hgot
      have hcg : 64 ≤ cg := by obtain ⟨_, _, e, q, _⟩ := hgot.form; rw [sec_len b hbl] at e q; cases e; exact q
      have gotS : Sl G10 5 1 64 (.slice Ag 64 cg) ((sec b).map enc8) := by
        have := hgot
        unfold ByG Byt at this
        rw [sec_len b hbl] at this
        exact this
      have q0 : decide ((d5.cache.length : Int) = 0) = true := decide_eq_true (by omega)
      simp only [go_sem, Nat.reduceAdd, Nat.reduceSub, Nat.reduceMul, Nat.reduceEqDiff, Nat.reduceLT, Nat.reduceLeDiff, Nat.reduceBEq, Nat.reduceBNe, Int.reduceLT, Int.reduceLE, Int.reduceEq, Int.reduceAdd, Int.reduceSub, Int.reduceNeg, decide_true, decide_false, Bool.not_true, Bool.not_false, cond_true, cond_false, beq_self_eq_true, and_self, ne_eq, not_true_eq_false, not_false_eq_true, reduceCtorEq, Bool.true_beq, Bool.false_beq]
      refine draw_ok (N := 3000) (.take 0 (.take 1 (.take 2 (.take 3 (.take 4 (.take 5 (.take 6 (.take 7 (.take 8 (.take 9 (.take 10 (.take 11 (.take 12 (.take 13 (.take 14 (.take 15 (.take 16 (.take 17 (.take 20 (.alt 18 (.alt 19 (.alt 21 (.take 22 (.take 23 (.take 24 (.take 25 (.take 26 (.take 27 (.take 28 (.take 29 (.take 30 .done))))))))) .last) (.alt 21 (.alt 19 (.take 22 (.take 23 (.take 24 (.take 25 (.take 26 (.take 27 (.take 28 (.take 29 (.take 30 .done))))))))) .last) .last)) (.alt 21 (.alt 18 (.alt 19 (.take 22 (.take 23 (.take 24 (.take 25 (.take 26 (.take 27 (.take 28 (.take 29 (.take 30 .done))))))))) .last) .last) .last))))))))))))))))))))) [] (QOk_body _ _ _) follows_mixed (by kernel_rfl) (by kernel_rfl) ?_
      simp only [go_sem, Nat.reduceAdd, Nat.reduceSub, Nat.reduceMul, Nat.reduceEqDiff, Nat.reduceLT, Nat.reduceLeDiff, Nat.reduceBEq, Nat.reduceBNe, Int.reduceLT, Int.reduceLE, Int.reduceEq, Int.reduceAdd, Int.reduceSub, Int.reduceNeg, decide_true, decide_false, Bool.not_true, Bool.not_false, cond_true, cond_false, beq_self_eq_true, and_self, ne_eq, not_true_eq_false, not_false_eq_true, reduceCtorEq, Bool.true_beq, Bool.false_beq]
      refine ⟨?_, ?_⟩
      · refine any_ok2 (N := 3000) (cut_does 0 b.length cg rfl tySlice23 tySize5 rfl rfl ⟨_, _, rfl, by omega⟩ (show 0 + cg = cg from by omega) (by simp) (by simp only [dOk_some, dOk_none, Nat.reduceLT]) (by omega) (by omega) (by omega) (fun G hG => (gotS.mono (hG.le G10 (by simp)) : Sl _ _ _ _ _ _))) (QOk_body _ _ _) rfl (by first | exact .inl rfl | exact .inr ⟨_, _, rfl, rfl⟩) (by intro _ hK; first | (obtain ⟨_, _, _, _, rfl⟩ := hK; exact ⟨rfl, fun _ h => h⟩) | (obtain ⟨_, _, rfl⟩ := hK; exact ⟨rfl, fun _ h => h⟩) | (obtain ⟨_, _, _, _, _, _, rfl⟩ := hK; exact ⟨rfl, fun _ h => List.mem_cons_of_mem _ h⟩) | (obtain ⟨_, _, _, _, _, _, _, rfl⟩ := hK; exact ⟨rfl, fun _ h => List.mem_cons_of_mem _ h⟩) | (obtain rfl := hK; exact ⟨rfl, fun _ h => h⟩)) ?_
        rintro _ ⟨Ax, G11, hs10, hn10, rfl⟩
        clear hn10
        have hgb : ByG G11 (.slice Ax b.length cg) b := cut_bytes hs10 (by rw [sec_len b hbl]; omega) (sec_take b)
        simp only [go_sem, Nat.reduceAdd, Nat.reduceSub, Nat.reduceMul, Nat.reduceEqDiff, Nat.reduceLT, Nat.reduceLeDiff, Nat.reduceBEq, Nat.reduceBNe, Int.reduceLT, Int.reduceLE, Int.reduceEq, Int.reduceAdd, Int.reduceSub, Int.reduceNeg, decide_true, decide_false, Bool.not_true, Bool.not_false, cond_true, cond_false, beq_self_eq_true, and_self, ne_eq, not_true_eq_false, not_false_eq_true, reduceCtorEq, Bool.true_beq, Bool.false_beq]
        refine ⟨?_, ?_⟩
        · refine any_ok2 (N := 3000) (text_does (bs := b) (e := 5) rfl tyStr9 tySlice23 tyInt5 rfl (by simp only [dOk_some, dOk_none, Nat.reduceLT]) (fun G hG => hgb.mono (hG.le G11 (by simp)))) (QOk_body _ _ _) rfl (by first | exact .inl rfl | exact .inr ⟨_, _, rfl, rfl⟩) (by intro _ hK; first | (obtain ⟨_, _, _, _, rfl⟩ := hK; exact ⟨rfl, fun _ h => h⟩) | (obtain ⟨_, _, rfl⟩ := hK; exact ⟨rfl, fun _ h => h⟩) | (obtain ⟨_, _, _, _, _, _, rfl⟩ := hK; exact ⟨rfl, fun _ h => List.mem_cons_of_mem _ h⟩) | (obtain ⟨_, _, _, _, _, _, _, rfl⟩ := hK; exact ⟨rfl, fun _ h => List.mem_cons_of_mem _ h⟩) | (obtain rfl := hK; exact ⟨rfl, fun _ h => h⟩)) ?_
          rintro _ rfl
          simp only [go_sem, Nat.reduceAdd, Nat.reduceSub, Nat.reduceMul, Nat.reduceEqDiff, Nat.reduceLT, Nat.reduceLeDiff, Nat.reduceBEq, Nat.reduceBNe, Int.reduceLT, Int.reduceLE, Int.reduceEq, Int.reduceAdd, Int.reduceSub, Int.reduceNeg, decide_true, decide_false, Bool.not_true, Bool.not_false, cond_true, cond_false, beq_self_eq_true, and_self, ne_eq, not_true_eq_false, not_false_eq_true, reduceCtorEq, Bool.true_beq, Bool.false_beq, q0]
          refine any_ok2 (N := 3000) (text_does (bs := b) (e := 5) rfl tyStr9 tySlice23 tyInt5 rfl (by simp only [dOk_some, dOk_none, Nat.reduceLT]) (fun G hG => ByG.mono hby (hG.le G8 (by simp)))) (QOk_body _ _ _) rfl (by first | exact .inl rfl | exact .inr ⟨_, _, rfl, rfl⟩) (by intro _ hK; first | (obtain ⟨_, _, _, _, rfl⟩ := hK; exact ⟨rfl, fun _ h => h⟩) | (obtain ⟨_, _, rfl⟩ := hK; exact ⟨rfl, fun _ h => h⟩) | (obtain ⟨_, _, _, _, _, _, rfl⟩ := hK; exact ⟨rfl, fun _ h => List.mem_cons_of_mem _ h⟩) | (obtain ⟨_, _, _, _, _, _, _, rfl⟩ := hK; exact ⟨rfl, fun _ h => List.mem_cons_of_mem _ h⟩) | (obtain rfl := hK; exact ⟨rfl, fun _ h => h⟩)) ?_
          rintro _ rfl
          simp only [go_sem, Nat.reduceAdd, Nat.reduceSub, Nat.reduceMul, Nat.reduceEqDiff, Nat.reduceLT, Nat.reduceLeDiff, Nat.reduceBEq, Nat.reduceBNe, Int.reduceLT, Int.reduceLE, Int.reduceEq, Int.reduceAdd, Int.reduceSub, Int.reduceNeg, decide_true, decide_false, Bool.not_true, Bool.not_false, cond_true, cond_false, beq_self_eq_true, and_self, ne_eq, not_true_eq_false, not_false_eq_true, reduceCtorEq, Bool.true_beq, Bool.false_beq, q0]
          refine fin_ret (G := ⟨Non, w⟩) Try.results8 ?_
          simp only [go_sem, Nat.reduceAdd, Nat.reduceSub, Nat.reduceMul, Nat.reduceEqDiff, Nat.reduceLT, Nat.reduceLeDiff, Nat.reduceBEq, Nat.reduceBNe, Int.reduceLT, Int.reduceLE, Int.reduceEq, Int.reduceAdd, Int.reduceSub, Int.reduceNeg, decide_true, decide_false, Bool.not_true, Bool.not_false, cond_true, cond_false, beq_self_eq_true, and_self, ne_eq, not_true_eq_false, not_false_eq_true, reduceCtorEq, Bool.true_beq, Bool.false_beq]
          intro aa w' _ _
          rfl
        · refine any_ok2 (N := 3000) (text_does (bs := b) (e := 5) rfl tyStr9 tySlice23 tyInt5 rfl (by simp only [dOk_some, dOk_none, Nat.reduceLT]) (fun G hG => ByG.mono hby (hG.le G8 (by simp)))) (QOk_body _ _ _) rfl (by first | exact .inl rfl | exact .inr ⟨_, _, rfl, rfl⟩) (by intro _ hK; first | (obtain ⟨_, _, _, _, rfl⟩ := hK; exact ⟨rfl, fun _ h => h⟩) | (obtain ⟨_, _, rfl⟩ := hK; exact ⟨rfl, fun _ h => h⟩) | (obtain ⟨_, _, _, _, _, _, rfl⟩ := hK; exact ⟨rfl, fun _ h => List.mem_cons_of_mem _ h⟩) | (obtain ⟨_, _, _, _, _, _, _, rfl⟩ := hK; exact ⟨rfl, fun _ h => List.mem_cons_of_mem _ h⟩) | (obtain rfl := hK; exact ⟨rfl, fun _ h => h⟩)) ?_
          rintro _ rfl
          simp only [go_sem, Nat.reduceAdd, Nat.reduceSub, Nat.reduceMul, Nat.reduceEqDiff, Nat.reduceLT, Nat.reduceLeDiff, Nat.reduceBEq, Nat.reduceBNe, Int.reduceLT, Int.reduceLE, Int.reduceEq, Int.reduceAdd, Int.reduceSub, Int.reduceNeg, decide_true, decide_false, Bool.not_true, Bool.not_false, cond_true, cond_false, beq_self_eq_true, and_self, ne_eq, not_true_eq_false, not_false_eq_true, reduceCtorEq, Bool.true_beq, Bool.false_beq, q0]
          refine any_ok2 (N := 3000) (text_does (bs := b) (e := 5) rfl tyStr9 tySlice23 tyInt5 rfl (by simp only [dOk_some, dOk_none, Nat.reduceLT]) (fun G hG => hgb.mono (hG.le G11 (by simp)))) (QOk_body _ _ _) rfl (by first | exact .inl rfl | exact .inr ⟨_, _, rfl, rfl⟩) (by intro _ hK; first | (obtain ⟨_, _, _, _, rfl⟩ := hK; exact ⟨rfl, fun _ h => h⟩) | (obtain ⟨_, _, rfl⟩ := hK; exact ⟨rfl, fun _ h => h⟩) | (obtain ⟨_, _, _, _, _, _, rfl⟩ := hK; exact ⟨rfl, fun _ h => List.mem_cons_of_mem _ h⟩) | (obtain ⟨_, _, _, _, _, _, _, rfl⟩ := hK; exact ⟨rfl, fun _ h => List.mem_cons_of_mem _ h⟩) | (obtain rfl := hK; exact ⟨rfl, fun _ h => h⟩)) ?_
          rintro _ rfl
          simp only [go_sem, Nat.reduceAdd, Nat.reduceSub, Nat.reduceMul, Nat.reduceEqDiff, Nat.reduceLT, Nat.reduceLeDiff, Nat.reduceBEq, Nat.reduceBNe, Int.reduceLT, Int.reduceLE, Int.reduceEq, Int.reduceAdd, Int.reduceSub, Int.reduceNeg, decide_true, decide_false, Bool.not_true, Bool.not_false, cond_true, cond_false, beq_self_eq_true, and_self, ne_eq, not_true_eq_false, not_false_eq_true, reduceCtorEq, Bool.true_beq, Bool.false_beq, q0]
          refine fin_ret (G := ⟨Non, w⟩) Try.results8 ?_
          simp only [go_sem, Nat.reduceAdd, Nat.reduceSub, Nat.reduceMul, Nat.reduceEqDiff, Nat.reduceLT, Nat.reduceLeDiff, Nat.reduceBEq, Nat.reduceBNe, Int.reduceLT, Int.reduceLE, Int.reduceEq, Int.reduceAdd, Int.reduceSub, Int.reduceNeg, decide_true, decide_false, Bool.not_true, Bool.not_false, cond_true, cond_false, beq_self_eq_true, and_self, ne_eq, not_true_eq_false, not_false_eq_true, reduceCtorEq, Bool.true_beq, Bool.false_beq]
          intro aa w' _ _
          rfl
      · refine any_ok2 (N := 3000) (text_does (bs := b) (e := 5) rfl tyStr9 tySlice23 tyInt5 rfl (by simp only [dOk_some, dOk_none, Nat.reduceLT]) (fun G hG => ByG.mono hby (hG.le G8 (by simp)))) (QOk_body _ _ _) rfl (by first | exact .inl rfl | exact .inr ⟨_, _, rfl, rfl⟩) (by intro _ hK; first | (obtain ⟨_, _, _, _, rfl⟩ := hK; exact ⟨rfl, fun _ h => h⟩) | (obtain ⟨_, _, rfl⟩ := hK; exact ⟨rfl, fun _ h => h⟩) | (obtain ⟨_, _, _, _, _, _, rfl⟩ := hK; exact ⟨rfl, fun _ h => List.mem_cons_of_mem _ h⟩) | (obtain ⟨_, _, _, _, _, _, _, rfl⟩ := hK; exact ⟨rfl, fun _ h => List.mem_cons_of_mem _ h⟩) | (obtain rfl := hK; exact ⟨rfl, fun _ h => h⟩)) ?_
        rintro _ rfl
        simp only [go_sem, Nat.reduceAdd, Nat.reduceSub, Nat.reduceMul, Nat.reduceEqDiff, Nat.reduceLT, Nat.reduceLeDiff, Nat.reduceBEq, Nat.reduceBNe, Int.reduceLT, Int.reduceLE, Int.reduceEq, Int.reduceAdd, Int.reduceSub, Int.reduceNeg, decide_true, decide_false, Bool.not_true, Bool.not_false, cond_true, cond_false, beq_self_eq_true, and_self, ne_eq, not_true_eq_false, not_false_eq_true, reduceCtorEq, Bool.true_beq, Bool.false_beq, q0]
        refine any_ok2 (N := 3000) (cut_does 0 b.length cg rfl tySlice23 tySize5 rfl rfl ⟨_, _, rfl, by omega⟩ (show 0 + cg = cg from by omega) (by simp) (by simp only [dOk_some, dOk_none, Nat.reduceLT]) (by omega) (by omega) (by omega) (fun G hG => (gotS.mono (hG.le G10 (by simp)) : Sl _ _ _ _ _ _))) (QOk_body _ _ _) rfl (by first | exact .inl rfl | exact .inr ⟨_, _, rfl, rfl⟩) (by intro _ hK; first | (obtain ⟨_, _, _, _, rfl⟩ := hK; exact ⟨rfl, fun _ h => h⟩) | (obtain ⟨_, _, rfl⟩ := hK; exact ⟨rfl, fun _ h => h⟩) | (obtain ⟨_, _, _, _, _, _, rfl⟩ := hK; exact ⟨rfl, fun _ h => List.mem_cons_of_mem _ h⟩) | (obtain ⟨_, _, _, _, _, _, _, rfl⟩ := hK; exact ⟨rfl, fun _ h => List.mem_cons_of_mem _ h⟩) | (obtain rfl := hK; exact ⟨rfl, fun _ h => h⟩)) ?_
        rintro _ ⟨Ax, G11, hs10, hn10, rfl⟩
        clear hn10
        have hgb : ByG G11 (.slice Ax b.length cg) b := cut_bytes hs10 (by rw [sec_len b hbl]; omega) (sec_take b)
        simp only [go_sem, Nat.reduceAdd, Nat.reduceSub, Nat.reduceMul, Nat.reduceEqDiff, Nat.reduceLT, Nat.reduceLeDiff, Nat.reduceBEq, Nat.reduceBNe, Int.reduceLT, Int.reduceLE, Int.reduceEq, Int.reduceAdd, Int.reduceSub, Int.reduceNeg, decide_true, decide_false, Bool.not_true, Bool.not_false, cond_true, cond_false, beq_self_eq_true, and_self, ne_eq, not_true_eq_false, not_false_eq_true, reduceCtorEq, Bool.true_beq, Bool.false_beq]
        refine any_ok2 (N := 3000) (text_does (bs := b) (e := 5) rfl tyStr9 tySlice23 tyInt5 rfl (by simp only [dOk_some, dOk_none, Nat.reduceLT]) (fun G hG => hgb.mono (hG.le G11 (by simp)))) (QOk_body _ _ _) rfl (by first | exact .inl rfl | exact .inr ⟨_, _, rfl, rfl⟩) (by intro _ hK; first | (obtain ⟨_, _, _, _, rfl⟩ := hK; exact ⟨rfl, fun _ h => h⟩) | (obtain ⟨_, _, rfl⟩ := hK; exact ⟨rfl, fun _ h => h⟩) | (obtain ⟨_, _, _, _, _, _, rfl⟩ := hK; exact ⟨rfl, fun _ h => List.mem_cons_of_mem _ h⟩) | (obtain ⟨_, _, _, _, _, _, _, rfl⟩ := hK; exact ⟨rfl, fun _ h => List.mem_cons_of_mem _ h⟩) | (obtain rfl := hK; exact ⟨rfl, fun _ h => h⟩)) ?_
        rintro _ rfl
        simp only [go_sem, Nat.reduceAdd, Nat.reduceSub, Nat.reduceMul, Nat.reduceEqDiff, Nat.reduceLT, Nat.reduceLeDiff, Nat.reduceBEq, Nat.reduceBNe, Int.reduceLT, Int.reduceLE, Int.reduceEq, Int.reduceAdd, Int.reduceSub, Int.reduceNeg, decide_true, decide_false, Bool.not_true, Bool.not_false, cond_true, cond_false, beq_self_eq_true, and_self, ne_eq, not_true_eq_false, not_false_eq_true, reduceCtorEq, Bool.true_beq, Bool.false_beq, q0]
        refine fin_ret (G := ⟨Non, w⟩) Try.results8 ?_
        simp only [go_sem, Nat.reduceAdd, Nat.reduceSub, Nat.reduceMul, Nat.reduceEqDiff, Nat.reduceLT, Nat.reduceLeDiff, Nat.reduceBEq, Nat.reduceBNe, Int.reduceLT, Int.reduceLE, Int.reduceEq, Int.reduceAdd, Int.reduceSub, Int.reduceNeg, decide_true, decide_false, Bool.not_true, Bool.not_false, cond_true, cond_false, beq_self_eq_true, and_self, ne_eq, not_true_eq_false, not_false_eq_true, reduceCtorEq, Bool.true_beq, Bool.false_beq]
        intro aa w' _ _
        rfl
  · have q1 : decide ((v : Int) < (l3.length : Int)) = false := decide_eq_false (by omega)
    simp only [go_sem, Nat.reduceAdd, Nat.reduceSub, Nat.reduceMul, Nat.reduceEqDiff, Nat.reduceLT, Nat.reduceLeDiff, Nat.reduceBEq, Nat.reduceBNe, Int.reduceLT, Int.reduceLE, Int.reduceEq, Int.reduceAdd, Int.reduceSub, Int.reduceNeg, decide_true, decide_false, Bool.not_true, Bool.not_false, cond_true, cond_false, beq_self_eq_true, and_self, ne_eq, not_true_eq_false, not_false_eq_true, reduceCtorEq, Bool.true_beq, Bool.false_beq, q1]
    refine plain_ok (N := 3000) (call_does (fun v G => ∃ dv, v = .tuple #[dv, .int .i64 0] ∧ DevG G dv (crashDev d [] 0)) rfl rfl (by kernel_rfl) rfl (by simp only [dOk_some, dOk_none, Nat.reduceLT]) (fun G hG => ret_mono (crash_does (keep := []) (t := 0) smallGood hg (by omega) hG.wf (tidL hG (by simp) (by simp; decide)) (hd.mono (hG.le G8 (by simp))) (bools_nil _)) fun v G' _ h => dev_get h (by decide))) (QOk_body _ _ _) (by first | exact .inl rfl | exact .inr ⟨_, _, rfl, rfl⟩) ?_
    rintro _ ⟨_, G9, ⟨dv, rfl, hd5⟩, hn5, rfl⟩
    clear hn5
    have hcc := content_crash hg [] 0 n (by omega)
    rw [val_none, List.getD_eq_getElem?_getD, hat] at hcc
    have hg5 := good_crash (keep := []) (t := 0) hg (by omega)
    have hs5 : (crashDev d [] 0).safe.length = 18 := by show (putsTo _ d d.cache.length).length = 18; rw [puts_len]; exact hs18
    have hc5 : (crashDev d [] 0).cache.length = 0 := rfl
    generalize crashDev d [] 0 = d5 at hd5 hcc hg5 hs5 hc5
    obtain ⟨D1, e1, D2, e2, D3, e3, rfl, hfo⟩ := hd5.form
    clear hfo
    simp only [go_sem, Nat.reduceAdd, Nat.reduceSub, Nat.reduceMul, Nat.reduceEqDiff, Nat.reduceLT, Nat.reduceLeDiff, Nat.reduceBEq, Nat.reduceBNe, Int.reduceLT, Int.reduceLE, Int.reduceEq, Int.reduceAdd, Int.reduceSub, Int.reduceNeg, decide_true, decide_false, Bool.not_true, Bool.not_false, cond_true, cond_false, beq_self_eq_true, and_self, ne_eq, not_true_eq_false, not_false_eq_true, reduceCtorEq, Bool.true_beq, Bool.false_beq]
    intro g4
    refine plain_ok (N := 3000) (call_does (fun v G => ∃ A c, v = .tuple #[.slice A 64 c, .int .i64 0] ∧ ByG G (.slice A 64 c) (content d5 n)) rfl rfl (by kernel_rfl) rfl (by simp only [dOk_some, dOk_none, Nat.reduceLT]) (fun G hG => get_ok smallGood hg5 (by omega) hG.wf (hd5.mono (hG.le G9 (by simp))))) (QOk_body _ _ _) (by first | exact .inl rfl | exact .inr ⟨_, _, rfl, rfl⟩) ?_
    rintro _ ⟨_, G10, ⟨Ag, cg, rfl, hgot⟩, hn6, rfl⟩
    clear hn6
    rw [hcc] at hgot
    have hgot : ByG G10 (.slice Ag 64 cg) (sec b) := hgot
    have hcg : 64 ≤ cg := by obtain ⟨_, _, e, q, _⟩ := hgot.form; rw [sec_len b hbl] at e q; cases e; exact q
    have gotS : Sl G10 5 1 64 (.slice Ag 64 cg) ((sec b).map enc8) := by
      have := hgot
      unfold ByG Byt at this
      rw [sec_len b hbl] at this
      exact this
    have q0 : decide ((d5.cache.length : Int) = 0) = true := decide_eq_true (by omega)
    simp only [go_sem, Nat.reduceAdd, Nat.reduceSub, Nat.reduceMul, Nat.reduceEqDiff, Nat.reduceLT, Nat.reduceLeDiff, Nat.reduceBEq, Nat.reduceBNe, Int.reduceLT, Int.reduceLE, Int.reduceEq, Int.reduceAdd, Int.reduceSub, Int.reduceNeg, decide_true, decide_false, Bool.not_true, Bool.not_false, cond_true, cond_false, beq_self_eq_true, and_self, ne_eq, not_true_eq_false, not_false_eq_true, reduceCtorEq, Bool.true_beq, Bool.false_beq]
    refine draw_ok (N := 3000) (.take 0 (.take 1 (.take 2 (.take 3 (.take 4 (.take 5 (.take 6 (.take 7 (.take 8 (.take 9 (.take 10 (.take 11 (.take 12 (.take 13 (.take 14 (.take 15 (.take 16 (.take 17 (.take 20 (.alt 18 (.alt 19 (.alt 21 (.take 22 (.take 23 (.take 24 (.take 25 (.take 26 (.take 27 (.take 28 (.take 29 (.take 30 .done))))))))) .last) (.alt 21 (.alt 19 (.take 22 (.take 23 (.take 24 (.take 25 (.take 26 (.take 27 (.take 28 (.take 29 (.take 30 .done))))))))) .last) .last)) (.alt 21 (.alt 18 (.alt 19 (.take 22 (.take 23 (.take 24 (.take 25 (.take 26 (.take 27 (.take 28 (.take 29 (.take 30 .done))))))))) .last) .last) .last))))))))))))))))))))) [] (QOk_body _ _ _) follows_mixed (by kernel_rfl) (by kernel_rfl) ?_
    simp only [go_sem, Nat.reduceAdd, Nat.reduceSub, Nat.reduceMul, Nat.reduceEqDiff, Nat.reduceLT, Nat.reduceLeDiff, Nat.reduceBEq, Nat.reduceBNe, Int.reduceLT, Int.reduceLE, Int.reduceEq, Int.reduceAdd, Int.reduceSub, Int.reduceNeg, decide_true, decide_false, Bool.not_true, Bool.not_false, cond_true, cond_false, beq_self_eq_true, and_self, ne_eq, not_true_eq_false, not_false_eq_true, reduceCtorEq, Bool.true_beq, Bool.false_beq]
    refine ⟨?_, ?_⟩
    · refine any_ok2 (N := 3000) (cut_does 0 b.length cg rfl tySlice23 tySize5 rfl rfl ⟨_, _, rfl, by omega⟩ (show 0 + cg = cg from by omega) (by simp) (by simp only [dOk_some, dOk_none, Nat.reduceLT]) (by omega) (by omega) (by omega) (fun G hG => (gotS.mono (hG.le G10 (by simp)) : Sl _ _ _ _ _ _))) (QOk_body _ _ _) rfl (by first | exact .inl rfl | exact .inr ⟨_, _, rfl, rfl⟩) (by intro _ hK; first | (obtain ⟨_, _, _, _, rfl⟩ := hK; exact ⟨rfl, fun _ h => h⟩) | (obtain ⟨_, _, rfl⟩ := hK; exact ⟨rfl, fun _ h => h⟩) | (obtain ⟨_, _, _, _, _, _, rfl⟩ := hK; exact ⟨rfl, fun _ h => List.mem_cons_of_mem _ h⟩) | (obtain ⟨_, _, _, _, _, _, _, rfl⟩ := hK; exact ⟨rfl, fun _ h => List.mem_cons_of_mem _ h⟩) | (obtain rfl := hK; exact ⟨rfl, fun _ h => h⟩)) ?_
      rintro _ ⟨Ax, G11, hs10, hn10, rfl⟩
      clear hn10
      have hgb : ByG G11 (.slice Ax b.length cg) b := cut_bytes hs10 (by rw [sec_len b hbl]; omega) (sec_take b)
      simp only [go_sem, Nat.reduceAdd, Nat.reduceSub, Nat.reduceMul, Nat.reduceEqDiff, Nat.reduceLT, Nat.reduceLeDiff, Nat.reduceBEq, Nat.reduceBNe, Int.reduceLT, Int.reduceLE, Int.reduceEq, Int.reduceAdd, Int.reduceSub, Int.reduceNeg, decide_true, decide_false, Bool.not_true, Bool.not_false, cond_true, cond_false, beq_self_eq_true, and_self, ne_eq, not_true_eq_false, not_false_eq_true, reduceCtorEq, Bool.true_beq, Bool.false_beq]
      refine ⟨?_, ?_⟩
      · refine any_ok2 (N := 3000) (text_does (bs := b) (e := 5) rfl tyStr9 tySlice23 tyInt5 rfl (by simp only [dOk_some, dOk_none, Nat.reduceLT]) (fun G hG => hgb.mono (hG.le G11 (by simp)))) (QOk_body _ _ _) rfl (by first | exact .inl rfl | exact .inr ⟨_, _, rfl, rfl⟩) (by intro _ hK; first | (obtain ⟨_, _, _, _, rfl⟩ := hK; exact ⟨rfl, fun _ h => h⟩) | (obtain ⟨_, _, rfl⟩ := hK; exact ⟨rfl, fun _ h => h⟩) | (obtain ⟨_, _, _, _, _, _, rfl⟩ := hK; exact ⟨rfl, fun _ h => List.mem_cons_of_mem _ h⟩) | (obtain ⟨_, _, _, _, _, _, _, rfl⟩ := hK; exact ⟨rfl, fun _ h => List.mem_cons_of_mem _ h⟩) | (obtain rfl := hK; exact ⟨rfl, fun _ h => h⟩)) ?_
        rintro _ rfl
        simp only [go_sem, Nat.reduceAdd, Nat.reduceSub, Nat.reduceMul, Nat.reduceEqDiff, Nat.reduceLT, Nat.reduceLeDiff, Nat.reduceBEq, Nat.reduceBNe, Int.reduceLT, Int.reduceLE, Int.reduceEq, Int.reduceAdd, Int.reduceSub, Int.reduceNeg, decide_true, decide_false, Bool.not_true, Bool.not_false, cond_true, cond_false, beq_self_eq_true, and_self, ne_eq, not_true_eq_false, not_false_eq_true, reduceCtorEq, Bool.true_beq, Bool.false_beq, q0]
        refine any_ok2 (N := 3000) (text_does (bs := b) (e := 5) rfl tyStr9 tySlice23 tyInt5 rfl (by simp only [dOk_some, dOk_none, Nat.reduceLT]) (fun G hG => ByG.mono hby (hG.le G8 (by simp)))) (QOk_body _ _ _) rfl (by first | exact .inl rfl | exact .inr ⟨_, _, rfl, rfl⟩) (by intro _ hK; first | (obtain ⟨_, _, _, _, rfl⟩ := hK; exact ⟨rfl, fun _ h => h⟩) | (obtain ⟨_, _, rfl⟩ := hK; exact ⟨rfl, fun _ h => h⟩) | (obtain ⟨_, _, _, _, _, _, rfl⟩ := hK; exact ⟨rfl, fun _ h => List.mem_cons_of_mem _ h⟩) | (obtain ⟨_, _, _, _, _, _, _, rfl⟩ := hK; exact ⟨rfl, fun _ h => List.mem_cons_of_mem _ h⟩) | (obtain rfl := hK; exact ⟨rfl, fun _ h => h⟩)) ?_
        rintro _ rfl
        simp only [go_sem, Nat.reduceAdd, Nat.reduceSub, Nat.reduceMul, Nat.reduceEqDiff, Nat.reduceLT, Nat.reduceLeDiff, Nat.reduceBEq, Nat.reduceBNe, Int.reduceLT, Int.reduceLE, Int.reduceEq, Int.reduceAdd, Int.reduceSub, Int.reduceNeg, decide_true, decide_false, Bool.not_true, Bool.not_false, cond_true, cond_false, beq_self_eq_true, and_self, ne_eq, not_true_eq_false, not_false_eq_true, reduceCtorEq, Bool.true_beq, Bool.false_beq, q0]
        refine fin_ret (G := ⟨Non, w⟩) Try.results8 ?_
        simp only [go_sem, Nat.reduceAdd, Nat.reduceSub, Nat.reduceMul, Nat.reduceEqDiff, Nat.reduceLT, Nat.reduceLeDiff, Nat.reduceBEq, Nat.reduceBNe, Int.reduceLT, Int.reduceLE, Int.reduceEq, Int.reduceAdd, Int.reduceSub, Int.reduceNeg, decide_true, decide_false, Bool.not_true, Bool.not_false, cond_true, cond_false, beq_self_eq_true, and_self, ne_eq, not_true_eq_false, not_false_eq_true, reduceCtorEq, Bool.true_beq, Bool.false_beq]
        intro aa w' _ _
        rfl
      · refine any_ok2 (N := 3000) (text_does (bs := b) (e := 5) rfl tyStr9 tySlice23 tyInt5 rfl (by simp only [dOk_some, dOk_none, Nat.reduceLT]) (fun G hG => ByG.mono hby (hG.le G8 (by simp)))) (QOk_body _ _ _) rfl (by first | exact .inl rfl | exact .inr ⟨_, _, rfl, rfl⟩) (by intro _ hK; first | (obtain ⟨_, _, _, _, rfl⟩ := hK; exact ⟨rfl, fun _ h => h⟩) | (obtain ⟨_, _, rfl⟩ := hK; exact ⟨rfl, fun _ h => h⟩) | (obtain ⟨_, _, _, _, _, _, rfl⟩ := hK; exact ⟨rfl, fun _ h => List.mem_cons_of_mem _ h⟩) | (obtain ⟨_, _, _, _, _, _, _, rfl⟩ := hK; exact ⟨rfl, fun _ h => List.mem_cons_of_mem _ h⟩) | (obtain rfl := hK; exact ⟨rfl, fun _ h => h⟩)) ?_
        rintro _ rfl
        simp only [go_sem, Nat.reduceAdd, Nat.reduceSub, Nat.reduceMul, Nat.reduceEqDiff, Nat.reduceLT, Nat.reduceLeDiff, Nat.reduceBEq, Nat.reduceBNe, Int.reduceLT, Int.reduceLE, Int.reduceEq, Int.reduceAdd, Int.reduceSub, Int.reduceNeg, decide_true, decide_false, Bool.not_true, Bool.not_false, cond_true, cond_false, beq_self_eq_true, and_self, ne_eq, not_true_eq_false, not_false_eq_true, reduceCtorEq, Bool.true_beq, Bool.false_beq, q0]
        refine any_ok2 (N := 3000) (text_does (bs := b) (e := 5) rfl tyStr9 tySlice23 tyInt5 rfl (by simp only [dOk_some, dOk_none, Nat.reduceLT]) (fun G hG => hgb.mono (hG.le G11 (by simp)))) (QOk_body _ _ _) rfl (by first | exact .inl rfl | exact .inr ⟨_, _, rfl, rfl⟩) (by intro _ hK; first | (obtain ⟨_, _, _, _, rfl⟩ := hK; exact ⟨rfl, fun _ h => h⟩) | (obtain ⟨_, _, rfl⟩ := hK; exact ⟨rfl, fun _ h => h⟩) | (obtain ⟨_, _, _, _, _, _, rfl⟩ := hK; exact ⟨rfl, fun _ h => List.mem_cons_of_mem _ h⟩) | (obtain ⟨_, _, _, _, _, _, _, rfl⟩ := hK; exact ⟨rfl, fun _ h => List.mem_cons_of_mem _ h⟩) | (obtain rfl := hK; exact ⟨rfl, fun _ h => h⟩)) ?_
        rintro _ rfl
        simp only [go_sem, Nat.reduceAdd, Nat.reduceSub, Nat.reduceMul, Nat.reduceEqDiff, Nat.reduceLT, Nat.reduceLeDiff, Nat.reduceBEq, Nat.reduceBNe, Int.reduceLT, Int.reduceLE, Int.reduceEq, Int.reduceAdd, Int.reduceSub, Int.reduceNeg, decide_true, decide_false, Bool.not_true, Bool.not_false, cond_true, cond_false, beq_self_eq_true, and_self, ne_eq, not_true_eq_false, not_false_eq_true, reduceCtorEq, Bool.true_beq, Bool.false_beq, q0]
        refine fin_ret (G := ⟨Non, w⟩) Try.results8 ?_
        simp only [go_sem, Nat.reduceAdd, Nat.reduceSub, Nat.reduceMul, Nat.reduceEqDiff, Nat.reduceLT, Nat.reduceLeDiff, Nat.reduceBEq, Nat.reduceBNe, Int.reduceLT, Int.reduceLE, Int.reduceEq, Int.reduceAdd, Int.reduceSub, Int.reduceNeg, decide_true, decide_false, Bool.not_true, Bool.not_false, cond_true, cond_false, beq_self_eq_true, and_self, ne_eq, not_true_eq_false, not_false_eq_true, reduceCtorEq, Bool.true_beq, Bool.false_beq]
        intro aa w' _ _
        rfl
    · refine any_ok2 (N := 3000) (text_does (bs := b) (e := 5) rfl tyStr9 tySlice23 tyInt5 rfl (by simp only [dOk_some, dOk_none, Nat.reduceLT]) (fun G hG => ByG.mono hby (hG.le G8 (by simp)))) (QOk_body _ _ _) rfl (by first | exact .inl rfl | exact .inr ⟨_, _, rfl, rfl⟩) (by intro _ hK; first | (obtain ⟨_, _, _, _, rfl⟩ := hK; exact ⟨rfl, fun _ h => h⟩) | (obtain ⟨_, _, rfl⟩ := hK; exact ⟨rfl, fun _ h => h⟩) | (obtain ⟨_, _, _, _, _, _, rfl⟩ := hK; exact ⟨rfl, fun _ h => List.mem_cons_of_mem _ h⟩) | (obtain ⟨_, _, _, _, _, _, _, rfl⟩ := hK; exact ⟨rfl, fun _ h => List.mem_cons_of_mem _ h⟩) | (obtain rfl := hK; exact ⟨rfl, fun _ h => h⟩)) ?_
      rintro _ rfl
      simp only [go_sem, Nat.reduceAdd, Nat.reduceSub, Nat.reduceMul, Nat.reduceEqDiff, Nat.reduceLT, Nat.reduceLeDiff, Nat.reduceBEq, Nat.reduceBNe, Int.reduceLT, Int.reduceLE, Int.reduceEq, Int.reduceAdd, Int.reduceSub, Int.reduceNeg, decide_true, decide_false, Bool.not_true, Bool.not_false, cond_true, cond_false, beq_self_eq_true, and_self, ne_eq, not_true_eq_false, not_false_eq_true, reduceCtorEq, Bool.true_beq, Bool.false_beq, q0]
      refine any_ok2 (N := 3000) (cut_does 0 b.length cg rfl tySlice23 tySize5 rfl rfl ⟨_, _, rfl, by omega⟩ (show 0 + cg = cg from by omega) (by simp) (by simp only [dOk_some, dOk_none, Nat.reduceLT]) (by omega) (by omega) (by omega) (fun G hG => (gotS.mono (hG.le G10 (by simp)) : Sl _ _ _ _ _ _))) (QOk_body _ _ _) rfl (by first | exact .inl rfl | exact .inr ⟨_, _, rfl, rfl⟩) (by intro _ hK; first | (obtain ⟨_, _, _, _, rfl⟩ := hK; exact ⟨rfl, fun _ h => h⟩) | (obtain ⟨_, _, rfl⟩ := hK; exact ⟨rfl, fun _ h => h⟩) | (obtain ⟨_, _, _, _, _, _, rfl⟩ := hK; exact ⟨rfl, fun _ h => List.mem_cons_of_mem _ h⟩) | (obtain ⟨_, _, _, _, _, _, _, rfl⟩ := hK; exact ⟨rfl, fun _ h => List.mem_cons_of_mem _ h⟩) | (obtain rfl := hK; exact ⟨rfl, fun _ h => h⟩)) ?_
      rintro _ ⟨Ax, G11, hs10, hn10, rfl⟩
      clear hn10
      have hgb : ByG G11 (.slice Ax b.length cg) b := cut_bytes hs10 (by rw [sec_len b hbl]; omega) (sec_take b)
      simp only [go_sem, Nat.reduceAdd, Nat.reduceSub, Nat.reduceMul, Nat.reduceEqDiff, Nat.reduceLT, Nat.reduceLeDiff, Nat.reduceBEq, Nat.reduceBNe, Int.reduceLT, Int.reduceLE, Int.reduceEq, Int.reduceAdd, Int.reduceSub, Int.reduceNeg, decide_true, decide_false, Bool.not_true, Bool.not_false, cond_true, cond_false, beq_self_eq_true, and_self, ne_eq, not_true_eq_false, not_false_eq_true, reduceCtorEq, Bool.true_beq, Bool.false_beq]
      refine any_ok2 (N := 3000) (text_does (bs := b) (e := 5) rfl tyStr9 tySlice23 tyInt5 rfl (by simp only [dOk_some, dOk_none, Nat.reduceLT]) (fun G hG => hgb.mono (hG.le G11 (by simp)))) (QOk_body _ _ _) rfl (by first | exact .inl rfl | exact .inr ⟨_, _, rfl, rfl⟩) (by intro _ hK; first | (obtain ⟨_, _, _, _, rfl⟩ := hK; exact ⟨rfl, fun _ h => h⟩) | (obtain ⟨_, _, rfl⟩ := hK; exact ⟨rfl, fun _ h => h⟩) | (obtain ⟨_, _, _, _, _, _, rfl⟩ := hK; exact ⟨rfl, fun _ h => List.mem_cons_of_mem _ h⟩) | (obtain ⟨_, _, _, _, _, _, _, rfl⟩ := hK; exact ⟨rfl, fun _ h => List.mem_cons_of_mem _ h⟩) | (obtain rfl := hK; exact ⟨rfl, fun _ h => h⟩)) ?_
      rintro _ rfl
      simp only [go_sem, Nat.reduceAdd, Nat.reduceSub, Nat.reduceMul, Nat.reduceEqDiff, Nat.reduceLT, Nat.reduceLeDiff, Nat.reduceBEq, Nat.reduceBNe, Int.reduceLT, Int.reduceLE, Int.reduceEq, Int.reduceAdd, Int.reduceSub, Int.reduceNeg, decide_true, decide_false, Bool.not_true, Bool.not_false, cond_true, cond_false, beq_self_eq_true, and_self, ne_eq, not_true_eq_false, not_false_eq_true, reduceCtorEq, Bool.true_beq, Bool.false_beq, q0]
      refine fin_ret (G := ⟨Non, w⟩) Try.results8 ?_
      simp only [go_sem, Nat.reduceAdd, Nat.reduceSub, Nat.reduceMul, Nat.reduceEqDiff, Nat.reduceLT, Nat.reduceLeDiff, Nat.reduceBEq, Nat.reduceBNe, Int.reduceLT, Int.reduceLE, Int.reduceEq, Int.reduceAdd, Int.reduceSub, Int.reduceNeg, decide_true, decide_false, Bool.not_true, Bool.not_false, cond_true, cond_false, beq_self_eq_true, and_self, ne_eq, not_true_eq_false, not_false_eq_true, reduceCtorEq, Bool.true_beq, Bool.false_beq]
      intro aa w' _ _
      rfl
theorem flushSafe_walk {w : World} (v0 : Value) (l0 : List Raw) (h0 : RawsG ⟨Non, w⟩ v0 l0) (a1 : Int) (w1 : (Lit.int .i64 a1).wf = true) (s : ByteArray) (_ : s.size ≤ maxLen) (v3 : Value) (l3 : List Raw) (h3 : RawsG ⟨Non, w⟩ v3 l3) :
    Calls Try.prog 8 #[v0, .int .i64 a1, .string s, v3] w fun e w' => e = .returned (.bool true) ∧ Below w.heap.size w w' :=
  (flushSafe_ret v0 l0 h0 a1 w1 s v3 l3 h3).mono fun e w' ⟨v, he, hv, hc⟩ => ⟨by rw [he, hv], hc.below⟩
end Go.Proofs.Ytomfladifefomaa
