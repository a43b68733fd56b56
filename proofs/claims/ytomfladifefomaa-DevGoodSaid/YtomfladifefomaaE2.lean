/- dev.Check of no devices, dev.CheckGeometry of no geometry. Conditions: as each law states them. -/
import Derived.Test.YtomfladifefomaaE1
namespace Go.Proofs.Ytomfladifefomaa
open Go.RowKit
set_option linter.unusedSimpArgs false
set_option maxHeartbeats 1000000 in
theorem geo_zero (w : World) : Calls Try.prog 36 #[.agg #[.int .i64 0, .int .i64 0, .int .i64 0, .int .i64 0, .int .i64 0]] w fun e w' => e = .returned (.int .i64 2) ∧ Below w.heap.size w w' := by
  go_enter Try.func36, Try.ntmps36
  go_wp2
  refine wp_loop_rounds 5 ?_
  rw [rounds_succ]
  go_wp2
  go_ret
  refine ⟨rfl, ?_⟩
  repeat (first | exact Below.refl _ _ | refine below_al ?_ _)
set_option maxRecDepth 100000 in
set_option maxHeartbeats 4000000 in
theorem check_zero {g : Geo} (hg : GoodGeo g) {G0 : GW} (hW : G0.Wf) :
    Calls Try.prog 35 #[geoV g, .agg #[.slice none 0 0, .slice none 0 0, .slice none 0 0, .int .i64 0]] G0.w (Ret G0 fun v _ => v = .int .i64 9) := by
  refine enter (G := G0) (n := 52) 3000 hW Try.func35 rfl Try.ntmps35 (by simp) ?_
  simp only [go_sem, Nat.reduceAdd, Nat.reduceSub, Nat.reduceMul, Nat.reduceEqDiff, Nat.reduceLT, Nat.reduceLeDiff, Nat.reduceBEq, Nat.reduceBNe, Int.reduceLT, Int.reduceLE, Int.reduceEq, Int.reduceAdd, Int.reduceSub, Int.reduceNeg, decide_true, decide_false, Bool.not_true, Bool.not_false, cond_true, cond_false, beq_self_eq_true, and_self, ne_eq, not_true_eq_false, not_false_eq_true, reduceCtorEq, Bool.true_beq, Bool.false_beq, geoV]
  intro g1 g2
  refine plain_ok (N := 3000) (call_does (fun v G => v = .int .i64 0) rfl rfl (by kernel_rfl) rfl (by simp only [dOk_some, dOk_none, Nat.reduceLT]) (fun G hG => ret_of (geo_good g hg G.w) fun _ _ ⟨he, hb⟩ => ⟨_, he, rfl, hb⟩)) (QOk_body _ _ _) (by first | exact .inl rfl | exact .inr ⟨_, _, rfl, rfl⟩) ?_
  rintro _ ⟨_, G1, rfl, hn1, rfl⟩
  clear hn1
  simp only [go_sem, Nat.reduceAdd, Nat.reduceSub, Nat.reduceMul, Nat.reduceEqDiff, Nat.reduceLT, Nat.reduceLeDiff, Nat.reduceBEq, Nat.reduceBNe, Int.reduceLT, Int.reduceLE, Int.reduceEq, Int.reduceAdd, Int.reduceSub, Int.reduceNeg, decide_true, decide_false, Bool.not_true, Bool.not_false, cond_true, cond_false, beq_self_eq_true, and_self, ne_eq, not_true_eq_false, not_false_eq_true, reduceCtorEq, Bool.true_beq, Bool.false_beq]
  have hs : sectorsOf g ≠ 0 := by unfold sectorsOf; have := hg.r1; have := hg.a1; have := hg.h1; omega
  refine draw_ok (N := 3000) (.take 0 (.take 1 (.take 2 (.take 3 (.alt 4 (.take 5 (.take 6 (.take 7 (.take 8 (.take 9 (.take 10 (.take 11 (.take 12 (.take 13 (.take 14 (.take 15 (.take 16 (.take 17 (.take 18 (.take 19 (.take 20 (.take 21 (.take 22 (.take 23 (.take 24 (.take 25 (.take 26 (.take 27 (.take 28 (.take 29 .done))))))))))))))))))))))))) .last))))) [] (QOk_body _ _ _) follows_mixed (by kernel_rfl) (by kernel_rfl) ?_
  simp only [go_sem, Nat.reduceAdd, Nat.reduceSub, Nat.reduceMul, Nat.reduceEqDiff, Nat.reduceLT, Nat.reduceLeDiff, Nat.reduceBEq, Nat.reduceBNe, Int.reduceLT, Int.reduceLE, Int.reduceEq, Int.reduceAdd, Int.reduceSub, Int.reduceNeg, decide_true, decide_false, Bool.not_true, Bool.not_false, cond_true, cond_false, beq_self_eq_true, and_self, ne_eq, not_true_eq_false, not_false_eq_true, reduceCtorEq, Bool.true_beq, Bool.false_beq]
  refine any_ok2 (N := 3000) (call_does (fun v G => v = .int .i64 (sectorsOf g)) rfl rfl (by kernel_rfl) rfl (by simp only [dOk_some, dOk_none, Nat.reduceLT]) (fun G hG => ret_of (sectors_any g hg G.w) fun _ _ ⟨he, hb⟩ => ⟨_, he, rfl, hb⟩)) (QOk_body _ _ _) rfl (by first | exact .inl rfl | exact .inr ⟨_, _, rfl, rfl⟩) (by intro _ hK; first | (obtain ⟨_, _, _, _, rfl⟩ := hK; exact ⟨rfl, fun _ h => h⟩) | (obtain ⟨_, _, rfl⟩ := hK; exact ⟨rfl, fun _ h => h⟩) | (obtain ⟨_, _, _, _, _, _, rfl⟩ := hK; exact ⟨rfl, fun _ h => List.mem_cons_of_mem _ h⟩) | (obtain ⟨_, _, _, _, _, _, _, rfl⟩ := hK; exact ⟨rfl, fun _ h => List.mem_cons_of_mem _ h⟩) | (obtain rfl := hK; exact ⟨rfl, fun _ h => h⟩)) ?_
  rintro _ ⟨_, G2, rfl, hn2, rfl⟩
  clear hn2
  have q : decide (((0 : Nat) : Int) = sectorsOf g) = false := decide_eq_false (by omega)
  simp only [go_sem, Nat.reduceAdd, Nat.reduceSub, Nat.reduceMul, Nat.reduceEqDiff, Nat.reduceLT, Nat.reduceLeDiff, Nat.reduceBEq, Nat.reduceBNe, Int.reduceLT, Int.reduceLE, Int.reduceEq, Int.reduceAdd, Int.reduceSub, Int.reduceNeg, decide_true, decide_false, Bool.not_true, Bool.not_false, cond_true, cond_false, beq_self_eq_true, and_self, ne_eq, not_true_eq_false, not_false_eq_true, reduceCtorEq, Bool.true_beq, Bool.false_beq, q]
  refine fin_ret (G := G0) Try.results35 ?_
  simp only [go_sem, Nat.reduceAdd, Nat.reduceSub, Nat.reduceMul, Nat.reduceEqDiff, Nat.reduceLT, Nat.reduceLeDiff, Nat.reduceBEq, Nat.reduceBNe, Int.reduceLT, Int.reduceLE, Int.reduceEq, Int.reduceAdd, Int.reduceSub, Int.reduceNeg, decide_true, decide_false, Bool.not_true, Bool.not_false, cond_true, cond_false, beq_self_eq_true, and_self, ne_eq, not_true_eq_false, not_false_eq_true, reduceCtorEq, Bool.true_beq, Bool.false_beq]
  intro a w' _ _
  rfl
end Go.Proofs.Ytomfladifefomaa
