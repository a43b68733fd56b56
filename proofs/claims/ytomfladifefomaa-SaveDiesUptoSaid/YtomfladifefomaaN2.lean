/- ring.Check, ring.area, ring.super: a journal's checks and its superblock. Conditions: as each law states them. -/
import Derived.Test.YtomfladifefomaaN1
namespace Go.Proofs.Ytomfladifefomaa
open Go.RowKit
set_option linter.unusedSimpArgs false
section
variable {P : Program} {E : Env} {σ : St} {o : Oper}
theorem min4_does {args : Array Operand} {ts : Array TypeId} {a b e d : Int} (ho : o.op = .call ⟨.builtin .min, args, ts⟩) (hev : evs σ args.toList = some [.c (.v (.int .i64 a)), .c (.v (.int .i64 b)), .c (.v (.int .i64 e)), .c (.v (.int .i64 d))]) (hd : dOk E o.dst) :
    Does P E σ o (fun σ' => σ' = σ.put o.dst (.c (.v (.int .i64 (min (min (min a b) e) d))))) := by
  intro ac w Q next hr hn
  have h1 := evs_args hr.see hev
  have e1 : ∀ p q : Int, (if q < p then q else p) = min p q := fun p q => by omega
  have hrun : (execOp ac.eval o).run P w = .ok (.value (.int .i64 (min (min (min a b) e) d))) w := by
    unfold execOp
    simp [ho, resolve, h1, invoke, builtin, Builtin.min_, Builtin.min2, SV.den, SC.den, e1]
  exact wp_of_value hrun (hn _ _ _ rfl (hr.put o.dst (.c (.v _)) (dOk_lt hd)))
theorem max4_does {args : Array Operand} {ts : Array TypeId} {a b e d : Int} (ho : o.op = .call ⟨.builtin .max, args, ts⟩) (hev : evs σ args.toList = some [.c (.v (.int .i64 a)), .c (.v (.int .i64 b)), .c (.v (.int .i64 e)), .c (.v (.int .i64 d))]) (hd : dOk E o.dst) :
    Does P E σ o (fun σ' => σ' = σ.put o.dst (.c (.v (.int .i64 (max (max (max a b) e) d))))) := by
  intro ac w Q next hr hn
  have h1 := evs_args hr.see hev
  have e1 : ∀ p q : Int, (if p < q then q else p) = max p q := fun p q => by omega
  have hrun : (execOp ac.eval o).run P w = .ok (.value (.int .i64 (max (max (max a b) e) d))) w := by
    unfold execOp
    simp [ho, resolve, h1, invoke, builtin, Builtin.max_, Builtin.max2, SV.den, SC.den, e1]
  exact wp_of_value hrun (hn _ _ _ rfl (hr.put o.dst (.c (.v _)) (dOk_lt hd)))
end
def jrV (j : Jr) : Value := .agg #[.int .i64 j.gen, .int .i64 j.epoch, .int .i64 j.area, .int .i64 j.length, .int .i64 j.start, .int .i64 j.first, .int .i64 j.place, .int .i64 j.next, .int .i64 j.used]
def areaAt (g : Geo) (a : Int) : Int := 2 + g.ring + a * g.area
set_option maxRecDepth 100000 in
set_option maxHeartbeats 4000000 in
theorem area_does {g : Geo} (hg : GoodGeo g) {a : Int} (h0 : 0 ≤ a) (h1 : a ≤ 1) {G0 : GW} (hW : G0.Wf) :
    Calls Try.prog 79 #[geoV g, .int .i64 a] G0.w (Ret G0 fun v _ => v = .int .i64 (areaAt g a)) := by
  have := hg.r1; have := hg.r2; have := hg.a1; have := hg.a2
  have hp : 0 ≤ a * g.area ∧ a * g.area ≤ 80 := by
    rcases (show a = 0 ∨ a = 1 by omega) with rfl | rfl <;> omega
  refine enter (G := G0) (n := 13) 3000 hW Try.func79 rfl Try.ntmps79 (by simp) ?_
  simp only [go_sem, Nat.reduceAdd, Nat.reduceSub, Nat.reduceMul, Nat.reduceEqDiff, Nat.reduceLT, Nat.reduceLeDiff, Nat.reduceBEq, Nat.reduceBNe, Int.reduceLT, Int.reduceLE, Int.reduceEq, Int.reduceAdd, Int.reduceSub, Int.reduceNeg, reduceCtorEq, geoV]
  intro g1
  refine ⟨by omega, by omega, by omega, ?_⟩
  refine fin_ret (G := G0) Try.results79 ?_
  simp only [go_sem, Nat.reduceAdd, Nat.reduceSub, Nat.reduceMul, Nat.reduceEqDiff, Nat.reduceLT, Nat.reduceLeDiff, Nat.reduceBEq, Nat.reduceBNe, Int.reduceLT, Int.reduceLE, Int.reduceEq, Int.reduceAdd, Int.reduceSub, Int.reduceNeg, reduceCtorEq]
  intro aa w' _ _
  rfl
theorem rows6 {G : GW} {v u1 u2 u3 u4 u5 u6 : Value} {x1 x2 x3 x4 x5 x6 : List UInt8} (h : Sl G 23 1 6 v [u1, u2, u3, u4, u5, u6]) (h1 : ByG G u1 x1) (h2 : ByG G u2 x2) (h3 : ByG G u3 x3) (h4 : ByG G u4 x4) (h5 : ByG G u5 x5) (h6 : ByG G u6 x6) : SafG G v [x1, x2, x3, x4, x5, x6] := by
  refine ⟨[[u1], [u2], [u3], [u4], [u5], [u6]], ⟨rfl, by simp, fun i cs x e1 e2 => ?_⟩, h⟩
  match i with
  | 0 => cases e1; cases e2; exact ⟨u1, rfl, h1⟩
  | 1 => cases e1; cases e2; exact ⟨u2, rfl, h2⟩
  | 2 => cases e1; cases e2; exact ⟨u3, rfl, h3⟩
  | 3 => cases e1; cases e2; exact ⟨u4, rfl, h4⟩
  | 4 => cases e1; cases e2; exact ⟨u5, rfl, h5⟩
  | 5 => cases e1; cases e2; exact ⟨u6, rfl, h6⟩
  | _ + 6 => cases e1
set_option maxRecDepth 100000 in
set_option maxHeartbeats 4000000 in
theorem super_does {j : Jr} {G0 : GW} (hW : G0.Wf) :
    Calls Try.prog 80 #[jrV j] G0.w (Ret G0 fun v G => ∃ A c, v = .slice A 19 c ∧ ByG G (.slice A 19 c) (superB j)) := by
  refine enter (G := G0) (n := 23) 3000 hW Try.func80 rfl Try.ntmps80 (by simp) ?_
  simp only [go_sem, Nat.reduceAdd, Nat.reduceSub, Nat.reduceMul, Nat.reduceEqDiff, Nat.reduceLT, Nat.reduceLeDiff, Nat.reduceBEq, Nat.reduceBNe, Int.reduceLT, Int.reduceLE, Int.reduceEq, Int.reduceAdd, Int.reduceSub, Int.reduceNeg, reduceCtorEq, jrV]
  intro g1
  refine draw_ok (N := 3000) (.take 0 (.take 1 (.take 3 (.take 4 (.take 6 (.take 7 (.take 9 (.take 10 (.take 12 (.take 13 (.take 15 (.take 16 (.alt 2 (.alt 5 (.alt 8 (.alt 11 (.alt 14 (.alt 17 (.alt 18 (.alt 19 (.take 20 .done) .last) .last) .last) .last) .last) .last) .last) .last))))))))))))) [] (QOk_body _ _ _) follows_mixed (by kernel_rfl) (by kernel_rfl) ?_
  simp only [go_sem, Nat.reduceAdd, Nat.reduceSub, Nat.reduceMul, Nat.reduceEqDiff, Nat.reduceLT, Nat.reduceLeDiff, Nat.reduceBEq, Nat.reduceBNe, Int.reduceLT, Int.reduceLE, Int.reduceEq, Int.reduceAdd, Int.reduceSub, Int.reduceNeg, reduceCtorEq]
  refine anyc_ok (N := 3000) (call_does (fun u G => ∃ A c, u = .slice A 4 c ∧ ByG G (.slice A 4 c) (numB j.gen 4)) rfl rfl (by kernel_rfl) rfl (by simp only [dOk_some, dOk_none, Nat.reduceLT]) (fun G hG => number_does (n := j.gen) (many := 4) (by omega) hG.wf)) (QOk_body _ _ _) rfl (by first | exact .inl rfl | exact .inr ⟨_, _, rfl, rfl⟩) ?_
  rintro _ ⟨_, G1, ⟨A1, c1, rfl, hb1⟩, hn1, rfl⟩
  clear hn1
  simp only [go_sem, Nat.reduceAdd, Nat.reduceSub, Nat.reduceMul, Nat.reduceEqDiff, Nat.reduceLT, Nat.reduceLeDiff, Nat.reduceBEq, Nat.reduceBNe, Int.reduceLT, Int.reduceLE, Int.reduceEq, Int.reduceAdd, Int.reduceSub, Int.reduceNeg, reduceCtorEq]
  refine anyc_ok (N := 3000) (call_does (fun u G => ∃ A c, u = .slice A 4 c ∧ ByG G (.slice A 4 c) (numB j.epoch 4)) rfl rfl (by kernel_rfl) rfl (by simp only [dOk_some, dOk_none, Nat.reduceLT]) (fun G hG => number_does (n := j.epoch) (many := 4) (by omega) hG.wf)) (QOk_body _ _ _) rfl (by first | exact .inl rfl | exact .inr ⟨_, _, rfl, rfl⟩) ?_
  rintro _ ⟨_, G2, ⟨A2, c2, rfl, hb2⟩, hn2, rfl⟩
  clear hn2
  simp only [go_sem, Nat.reduceAdd, Nat.reduceSub, Nat.reduceMul, Nat.reduceEqDiff, Nat.reduceLT, Nat.reduceLeDiff, Nat.reduceBEq, Nat.reduceBNe, Int.reduceLT, Int.reduceLE, Int.reduceEq, Int.reduceAdd, Int.reduceSub, Int.reduceNeg, reduceCtorEq]
  refine anyc_ok (N := 3000) (call_does (fun u G => ∃ A c, u = .slice A 1 c ∧ ByG G (.slice A 1 c) (numB j.area 1)) rfl rfl (by kernel_rfl) rfl (by simp only [dOk_some, dOk_none, Nat.reduceLT]) (fun G hG => number_does (n := j.area) (many := 1) (by omega) hG.wf)) (QOk_body _ _ _) rfl (by first | exact .inl rfl | exact .inr ⟨_, _, rfl, rfl⟩) ?_
  rintro _ ⟨_, G3, ⟨A3, c3, rfl, hb3⟩, hn3, rfl⟩
  clear hn3
  simp only [go_sem, Nat.reduceAdd, Nat.reduceSub, Nat.reduceMul, Nat.reduceEqDiff, Nat.reduceLT, Nat.reduceLeDiff, Nat.reduceBEq, Nat.reduceBNe, Int.reduceLT, Int.reduceLE, Int.reduceEq, Int.reduceAdd, Int.reduceSub, Int.reduceNeg, reduceCtorEq]
  refine anyc_ok (N := 3000) (call_does (fun u G => ∃ A c, u = .slice A 4 c ∧ ByG G (.slice A 4 c) (numB j.length 4)) rfl rfl (by kernel_rfl) rfl (by simp only [dOk_some, dOk_none, Nat.reduceLT]) (fun G hG => number_does (n := j.length) (many := 4) (by omega) hG.wf)) (QOk_body _ _ _) rfl (by first | exact .inl rfl | exact .inr ⟨_, _, rfl, rfl⟩) ?_
  rintro _ ⟨_, G4, ⟨A4, c4, rfl, hb4⟩, hn4, rfl⟩
  clear hn4
  simp only [go_sem, Nat.reduceAdd, Nat.reduceSub, Nat.reduceMul, Nat.reduceEqDiff, Nat.reduceLT, Nat.reduceLeDiff, Nat.reduceBEq, Nat.reduceBNe, Int.reduceLT, Int.reduceLE, Int.reduceEq, Int.reduceAdd, Int.reduceSub, Int.reduceNeg, reduceCtorEq]
  refine anyc_ok (N := 3000) (call_does (fun u G => ∃ A c, u = .slice A 2 c ∧ ByG G (.slice A 2 c) (numB j.start 2)) rfl rfl (by kernel_rfl) rfl (by simp only [dOk_some, dOk_none, Nat.reduceLT]) (fun G hG => number_does (n := j.start) (many := 2) (by omega) hG.wf)) (QOk_body _ _ _) rfl (by first | exact .inl rfl | exact .inr ⟨_, _, rfl, rfl⟩) ?_
  rintro _ ⟨_, G5, ⟨A5, c5, rfl, hb5⟩, hn5, rfl⟩
  clear hn5
  simp only [go_sem, Nat.reduceAdd, Nat.reduceSub, Nat.reduceMul, Nat.reduceEqDiff, Nat.reduceLT, Nat.reduceLeDiff, Nat.reduceBEq, Nat.reduceBNe, Int.reduceLT, Int.reduceLE, Int.reduceEq, Int.reduceAdd, Int.reduceSub, Int.reduceNeg, reduceCtorEq]
  refine anyc_ok (N := 3000) (call_does (fun u G => ∃ A c, u = .slice A 4 c ∧ ByG G (.slice A 4 c) (numB j.first 4)) rfl rfl (by kernel_rfl) rfl (by simp only [dOk_some, dOk_none, Nat.reduceLT]) (fun G hG => number_does (n := j.first) (many := 4) (by omega) hG.wf)) (QOk_body _ _ _) rfl (by first | exact .inl rfl | exact .inr ⟨_, _, rfl, rfl⟩) ?_
  rintro _ ⟨_, G6, ⟨A6, c6, rfl, hb6⟩, hn6, rfl⟩
  clear hn6
  simp only [go_sem, Nat.reduceAdd, Nat.reduceSub, Nat.reduceMul, Nat.reduceEqDiff, Nat.reduceLT, Nat.reduceLeDiff, Nat.reduceBEq, Nat.reduceBNe, Int.reduceLT, Int.reduceLE, Int.reduceEq, Int.reduceAdd, Int.reduceSub, Int.reduceNeg, reduceCtorEq]
  intro g2
  refine anyRead_ok (B1 := []) rfl 1 6 6 (Nat.le_refl _) (by unfold maxLen; omega) rfl id (by simp) fun G7 hle7 hs7 => ?_
  simp only [go_sem, Nat.reduceAdd, Nat.reduceSub, Nat.reduceMul, Nat.reduceEqDiff, Nat.reduceLT, Nat.reduceLeDiff, Nat.reduceBEq, Nat.reduceBNe, Int.reduceLT, Int.reduceLE, Int.reduceEq, Int.reduceAdd, Int.reduceSub, Int.reduceNeg, reduceCtorEq]
  have hsaf : SafG G7 _ [numB j.gen 4, numB j.epoch 4, numB j.area 1, numB j.length 4, numB j.start 2, numB j.first 4] := rows6 hs7 (hb1.mono (hle7 G1 (by simp))) (hb2.mono (hle7 G2 (by simp))) (hb3.mono (hle7 G3 (by simp))) (hb4.mono (hle7 G4 (by simp))) (hb5.mono (hle7 G5 (by simp))) (hb6.mono (hle7 G6 (by simp)))
  have hflat : [numB j.gen 4, numB j.epoch 4, numB j.area 1, numB j.length 4, numB j.start 2, numB j.first 4].flatten = superB j := by simp [superB]
  have hlen := superB_len j
  refine anyc_ok (N := 3000) (call_does (fun u G => ∃ A c, u = .slice A 19 c ∧ ByG G (.slice A 19 c) (superB j)) rfl rfl (by kernel_rfl) rfl (by simp only [dOk_some, dOk_none, Nat.reduceLT]) (fun G hG => ret_mono (concat_does (by rw [hflat]; omega) hG.wf (Sq.mono hsaf rowG_mono (hG.le G7 (by simp)))) fun u G' _ h => by rw [hflat, hlen] at h; exact h)) (QOk_body _ _ _) rfl (by first | exact .inl rfl | exact .inr ⟨_, _, rfl, rfl⟩) ?_
  rintro _ ⟨_, G8, ⟨A8, c8, rfl, hb8⟩, hn8, rfl⟩
  clear hn8
  simp only [go_sem, Nat.reduceAdd, Nat.reduceSub, Nat.reduceMul, Nat.reduceEqDiff, Nat.reduceLT, Nat.reduceLeDiff, Nat.reduceBEq, Nat.reduceBNe, Int.reduceLT, Int.reduceLE, Int.reduceEq, Int.reduceAdd, Int.reduceSub, Int.reduceNeg, reduceCtorEq]
  refine fin_ret (G := G0) Try.results80 ?_
  simp only [go_sem, Nat.reduceAdd, Nat.reduceSub, Nat.reduceMul, Nat.reduceEqDiff, Nat.reduceLT, Nat.reduceLeDiff, Nat.reduceBEq, Nat.reduceBNe, Int.reduceLT, Int.reduceLE, Int.reduceEq, Int.reduceAdd, Int.reduceSub, Int.reduceNeg, reduceCtorEq]
  intro aa w' _ hle
  exact ⟨A8, c8, rfl, hb8.mono (hle G8 (by simp))⟩
theorem geo_ret {g : Geo} (hg : GoodGeo g) (G : GW) : Calls Try.prog 36 #[geoV g] G.w (Ret G fun v _ => v = .int .i64 0) :=
  ret_of (geo_good g hg G.w) fun _ _ h => ⟨_, h.1, rfl, h.2⟩
set_option maxRecDepth 100000 in
set_option maxHeartbeats 16000000 in
theorem checkJ_does {g : Geo} (hg : GoodGeo g) {j : Jr} {G0 : GW} (hW : G0.Wf) :
    Calls Try.prog 54 #[geoV g, jrV j] G0.w (Ret G0 fun v _ => v = .int .i64 (if okJ g j then 0 else 9)) := by
  have := hg.r1; have := hg.r2; have := hg.a1; have := hg.a2
  refine enter (G := G0) (n := 102) 3000 hW Try.func54 rfl Try.ntmps54 (by simp) ?_
  simp only [go_sem, Nat.reduceAdd, Nat.reduceSub, Nat.reduceMul, Nat.reduceEqDiff, Nat.reduceLT, Nat.reduceLeDiff, Nat.reduceBEq, Nat.reduceBNe, Int.reduceLT, Int.reduceLE, Int.reduceEq, Int.reduceAdd, Int.reduceSub, Int.reduceNeg, reduceCtorEq, geoV, jrV]
  intro g1 g2
  refine plain_ok (N := 3000) (call_does (fun v _ => v = .int .i64 0) rfl rfl (by kernel_rfl) rfl (by simp only [dOk_some, dOk_none, Nat.reduceLT]) (fun G hG => geo_ret hg G)) (QOk_body _ _ _) (by first | exact .inl rfl | exact .inr ⟨_, _, rfl, rfl⟩) ?_
  rintro _ ⟨_, G1, rfl, hn1, rfl⟩
  clear hn1
  simp only [go_sem, Nat.reduceAdd, Nat.reduceSub, Nat.reduceMul, Nat.reduceEqDiff, Nat.reduceLT, Nat.reduceLeDiff, Nat.reduceBEq, Nat.reduceBNe, Int.reduceLT, Int.reduceLE, Int.reduceEq, Int.reduceAdd, Int.reduceSub, Int.reduceNeg, reduceCtorEq]
  refine plain_ok (N := 3000) (min4_does rfl rfl (by simp only [dOk_some, dOk_none, Nat.reduceLT])) (QOk_body _ _ _) (by first | exact .inl rfl | exact .inr ⟨_, _, rfl, rfl⟩) ?_
  rintro _ rfl
  have hlo : min (min (min j.gen j.epoch) j.first) j.next < 1 ↔ ¬ (1 ≤ j.gen ∧ 1 ≤ j.epoch ∧ 1 ≤ j.first ∧ 1 ≤ j.next) := by omega
  generalize min (min (min j.gen j.epoch) j.first) j.next = lo at hlo
  by_cases c1 : lo < 1
  · have q1 : decide (lo < 1) = true := decide_eq_true c1
    simp only [go_sem, Nat.reduceAdd, Nat.reduceSub, Nat.reduceMul, Nat.reduceEqDiff, Nat.reduceLT, Nat.reduceLeDiff, Nat.reduceBEq, Nat.reduceBNe, Int.reduceLT, Int.reduceLE, Int.reduceEq, Int.reduceAdd, Int.reduceSub, Int.reduceNeg, reduceCtorEq, q1]
    refine draw_ok (N := 3000) (.take 0 (.take 1 (.take 2 (.take 3 (.take 4 (.take 5 (.take 6 (.take 7 (.take 8 (.take 9 (.take 10 (.take 11 (.take 12 (.take 13 (.take 14 (.take 15 (.take 16 (.take 17 (.take 18 (.take 19 (.take 20 (.take 21 (.take 22 (.take 23 (.take 24 (.take 25 (.take 26 (.take 27 (.take 28 (.take 29 (.take 30 (.take 31 (.take 32 (.take 33 (.take 34 (.take 35 (.take 36 (.take 37 (.take 38 (.take 39 (.take 40 (.take 41 (.take 42 (.take 43 (.take 44 (.take 45 (.take 46 (.take 47 (.take 48 (.take 49 (.take 50 (.take 51 (.take 52 (.take 53 (.take 54 (.take 55 (.take 56 (.take 57 (.take 58 (.take 59 (.take 60 (.take 61 (.take 62 (.take 63 (.take 64 (.take 65 (.take 66 (.take 67 .done)))))))))))))))))))))))))))))))))))))))))))))))))))))))))))))))))))) [] (QOk_body _ _ _) follows_mixed (by kernel_rfl) (by kernel_rfl) ?_
    simp only [List.append_eq, List.cons_append, List.nil_append]
    simp only [go_sem, Nat.reduceAdd, Nat.reduceSub, Nat.reduceMul, Nat.reduceEqDiff, Nat.reduceLT, Nat.reduceLeDiff, Nat.reduceBEq, Nat.reduceBNe, Int.reduceLT, Int.reduceLE, Int.reduceEq, Int.reduceAdd, Int.reduceSub, Int.reduceNeg, reduceCtorEq]
    have hno : okJ g j = false := decide_eq_false (fun hh => by omega)
    refine fin_ret (G := G0) Try.results54 ?_
    simp only [go_sem, Nat.reduceAdd, Nat.reduceSub, Nat.reduceMul, Nat.reduceEqDiff, Nat.reduceLT, Nat.reduceLeDiff, Nat.reduceBEq, Nat.reduceBNe, Int.reduceLT, Int.reduceLE, Int.reduceEq, Int.reduceAdd, Int.reduceSub, Int.reduceNeg, reduceCtorEq]
    intro aa w' _ _
    rw [hno]
    rfl
  have q1 : decide (lo < 1) = false := decide_eq_false c1
  simp only [go_sem, Nat.reduceAdd, Nat.reduceSub, Nat.reduceMul, Nat.reduceEqDiff, Nat.reduceLT, Nat.reduceLeDiff, Nat.reduceBEq, Nat.reduceBNe, Int.reduceLT, Int.reduceLE, Int.reduceEq, Int.reduceAdd, Int.reduceSub, Int.reduceNeg, reduceCtorEq, q1]
  refine plain_ok (N := 3000) (max4_does rfl rfl (by simp only [dOk_some, dOk_none, Nat.reduceLT])) (QOk_body _ _ _) (by first | exact .inl rfl | exact .inr ⟨_, _, rfl, rfl⟩) ?_
  rintro _ rfl
  have hhi : 1048576 < max (max (max j.gen j.epoch) j.first) j.next ↔ ¬ (j.gen ≤ 1048576 ∧ j.epoch ≤ 1048576 ∧ j.first ≤ 1048576 ∧ j.next ≤ 1048576) := by omega
  generalize max (max (max j.gen j.epoch) j.first) j.next = hi at hhi
  by_cases c2 : 1048576 < hi
  · have q2 : decide (1048576 < hi) = true := decide_eq_true c2
    simp only [go_sem, Nat.reduceAdd, Nat.reduceSub, Nat.reduceMul, Nat.reduceEqDiff, Nat.reduceLT, Nat.reduceLeDiff, Nat.reduceBEq, Nat.reduceBNe, Int.reduceLT, Int.reduceLE, Int.reduceEq, Int.reduceAdd, Int.reduceSub, Int.reduceNeg, reduceCtorEq, q2]
    refine draw_ok (N := 3000) (.take 0 (.take 1 (.take 2 (.take 3 (.take 4 (.take 5 (.take 6 (.take 7 (.take 8 (.take 9 (.take 10 (.take 11 (.take 12 (.take 13 (.take 14 (.take 15 (.take 16 (.take 17 (.take 18 (.take 19 (.take 20 (.take 21 (.take 22 (.take 23 (.take 24 (.take 25 (.take 26 (.take 27 (.take 28 (.take 29 (.take 30 (.take 31 (.take 32 (.take 33 (.take 34 (.take 35 (.take 36 (.take 37 (.take 38 (.take 39 (.take 40 (.take 41 (.take 42 (.take 43 (.take 44 (.take 45 (.take 46 (.take 47 (.take 48 (.take 49 (.take 50 (.take 51 (.take 52 (.take 53 (.take 54 (.take 55 (.take 56 (.take 57 (.take 58 (.take 59 (.take 60 (.take 61 (.take 62 (.take 63 (.take 64 (.take 65 (.take 66 (.take 67 .done)))))))))))))))))))))))))))))))))))))))))))))))))))))))))))))))))))) [] (QOk_body _ _ _) follows_mixed (by kernel_rfl) (by kernel_rfl) ?_
    simp only [List.append_eq, List.cons_append, List.nil_append]
    simp only [go_sem, Nat.reduceAdd, Nat.reduceSub, Nat.reduceMul, Nat.reduceEqDiff, Nat.reduceLT, Nat.reduceLeDiff, Nat.reduceBEq, Nat.reduceBNe, Int.reduceLT, Int.reduceLE, Int.reduceEq, Int.reduceAdd, Int.reduceSub, Int.reduceNeg, reduceCtorEq]
    have hno : okJ g j = false := decide_eq_false (fun hh => by omega)
    refine fin_ret (G := G0) Try.results54 ?_
    simp only [go_sem, Nat.reduceAdd, Nat.reduceSub, Nat.reduceMul, Nat.reduceEqDiff, Nat.reduceLT, Nat.reduceLeDiff, Nat.reduceBEq, Nat.reduceBNe, Int.reduceLT, Int.reduceLE, Int.reduceEq, Int.reduceAdd, Int.reduceSub, Int.reduceNeg, reduceCtorEq]
    intro aa w' _ _
    rw [hno]
    rfl
  have q2 : decide (1048576 < hi) = false := decide_eq_false c2
  simp only [go_sem, Nat.reduceAdd, Nat.reduceSub, Nat.reduceMul, Nat.reduceEqDiff, Nat.reduceLT, Nat.reduceLeDiff, Nat.reduceBEq, Nat.reduceBNe, Int.reduceLT, Int.reduceLE, Int.reduceEq, Int.reduceAdd, Int.reduceSub, Int.reduceNeg, reduceCtorEq, q2]
  refine draw_ok (N := 3000) (.take 0 (.take 1 (.take 2 (.take 3 (.take 4 (.take 5 (.take 6 (.take 7 (.take 8 (.take 9 (.take 10 (.take 11 (.take 12 (.take 13 (.take 14 (.take 15 (.take 16 (.take 17 (.take 18 (.take 19 (.take 20 (.take 21 (.take 22 (.take 23 (.take 24 (.take 25 (.take 26 (.take 27 (.take 28 (.take 29 (.take 30 (.take 31 (.take 32 (.take 33 (.take 34 (.take 35 (.take 36 (.take 37 (.take 38 (.take 39 (.take 40 (.take 41 (.take 42 (.take 43 (.take 44 (.take 45 (.take 46 (.take 47 (.take 48 (.take 49 (.take 50 (.take 51 (.take 52 (.take 53 (.take 54 (.take 55 (.take 56 (.take 57 (.take 58 (.take 59 (.take 60 (.take 61 (.take 62 (.take 63 (.take 64 (.take 65 (.take 66 (.take 67 .done)))))))))))))))))))))))))))))))))))))))))))))))))))))))))))))))))))) [] (QOk_body _ _ _) follows_mixed (by kernel_rfl) (by kernel_rfl) ?_
  simp only [List.append_eq, List.cons_append, List.nil_append]
  by_cases c3 : j.next < j.first
  · have q3 : decide (j.next < j.first) = true := decide_eq_true c3
    simp only [go_sem, Nat.reduceAdd, Nat.reduceSub, Nat.reduceMul, Nat.reduceEqDiff, Nat.reduceLT, Nat.reduceLeDiff, Nat.reduceBEq, Nat.reduceBNe, Int.reduceLT, Int.reduceLE, Int.reduceEq, Int.reduceAdd, Int.reduceSub, Int.reduceNeg, reduceCtorEq, q3]
    repeat (refine And.intro (by omega) ?_)
    have hno : okJ g j = false := decide_eq_false (fun hh => by omega)
    refine fin_ret (G := G0) Try.results54 ?_
    simp only [go_sem, Nat.reduceAdd, Nat.reduceSub, Nat.reduceMul, Nat.reduceEqDiff, Nat.reduceLT, Nat.reduceLeDiff, Nat.reduceBEq, Nat.reduceBNe, Int.reduceLT, Int.reduceLE, Int.reduceEq, Int.reduceAdd, Int.reduceSub, Int.reduceNeg, reduceCtorEq]
    intro aa w' _ _
    rw [hno]
    rfl
  have q3 : decide (j.next < j.first) = false := decide_eq_false c3
  by_cases c4 : j.area < 0
  · have q4 : decide (j.area < 0) = true := decide_eq_true c4
    simp only [go_sem, Nat.reduceAdd, Nat.reduceSub, Nat.reduceMul, Nat.reduceEqDiff, Nat.reduceLT, Nat.reduceLeDiff, Nat.reduceBEq, Nat.reduceBNe, Int.reduceLT, Int.reduceLE, Int.reduceEq, Int.reduceAdd, Int.reduceSub, Int.reduceNeg, reduceCtorEq, q3, q4]
    repeat (refine And.intro (by omega) ?_)
    have hno : okJ g j = false := decide_eq_false (fun hh => by omega)
    refine fin_ret (G := G0) Try.results54 ?_
    simp only [go_sem, Nat.reduceAdd, Nat.reduceSub, Nat.reduceMul, Nat.reduceEqDiff, Nat.reduceLT, Nat.reduceLeDiff, Nat.reduceBEq, Nat.reduceBNe, Int.reduceLT, Int.reduceLE, Int.reduceEq, Int.reduceAdd, Int.reduceSub, Int.reduceNeg, reduceCtorEq]
    intro aa w' _ _
    rw [hno]
    rfl
  have q4 : decide (j.area < 0) = false := decide_eq_false c4
  by_cases c5 : 1 < j.area
  · have q5 : decide (1 < j.area) = true := decide_eq_true c5
    simp only [go_sem, Nat.reduceAdd, Nat.reduceSub, Nat.reduceMul, Nat.reduceEqDiff, Nat.reduceLT, Nat.reduceLeDiff, Nat.reduceBEq, Nat.reduceBNe, Int.reduceLT, Int.reduceLE, Int.reduceEq, Int.reduceAdd, Int.reduceSub, Int.reduceNeg, reduceCtorEq, q3, q4, q5]
    repeat (refine And.intro (by omega) ?_)
    have hno : okJ g j = false := decide_eq_false (fun hh => by omega)
    refine fin_ret (G := G0) Try.results54 ?_
    simp only [go_sem, Nat.reduceAdd, Nat.reduceSub, Nat.reduceMul, Nat.reduceEqDiff, Nat.reduceLT, Nat.reduceLeDiff, Nat.reduceBEq, Nat.reduceBNe, Int.reduceLT, Int.reduceLE, Int.reduceEq, Int.reduceAdd, Int.reduceSub, Int.reduceNeg, reduceCtorEq]
    intro aa w' _ _
    rw [hno]
    rfl
  have q5 : decide (1 < j.area) = false := decide_eq_false c5
  by_cases c6 : j.length < 0
  · have q6 : decide (j.length < 0) = true := decide_eq_true c6
    simp only [go_sem, Nat.reduceAdd, Nat.reduceSub, Nat.reduceMul, Nat.reduceEqDiff, Nat.reduceLT, Nat.reduceLeDiff, Nat.reduceBEq, Nat.reduceBNe, Int.reduceLT, Int.reduceLE, Int.reduceEq, Int.reduceAdd, Int.reduceSub, Int.reduceNeg, reduceCtorEq, q3, q4, q5, q6]
    repeat (refine And.intro (by omega) ?_)
    have hno : okJ g j = false := decide_eq_false (fun hh => by omega)
    refine fin_ret (G := G0) Try.results54 ?_
    simp only [go_sem, Nat.reduceAdd, Nat.reduceSub, Nat.reduceMul, Nat.reduceEqDiff, Nat.reduceLT, Nat.reduceLeDiff, Nat.reduceBEq, Nat.reduceBNe, Int.reduceLT, Int.reduceLE, Int.reduceEq, Int.reduceAdd, Int.reduceSub, Int.reduceNeg, reduceCtorEq]
    intro aa w' _ _
    rw [hno]
    rfl
  have q6 : decide (j.length < 0) = false := decide_eq_false c6
  by_cases c7 : g.area * 64 < j.length
  · have q7 : decide (g.area * 64 < j.length) = true := decide_eq_true c7
    simp only [go_sem, Nat.reduceAdd, Nat.reduceSub, Nat.reduceMul, Nat.reduceEqDiff, Nat.reduceLT, Nat.reduceLeDiff, Nat.reduceBEq, Nat.reduceBNe, Int.reduceLT, Int.reduceLE, Int.reduceEq, Int.reduceAdd, Int.reduceSub, Int.reduceNeg, reduceCtorEq, q3, q4, q5, q6, q7]
    repeat (refine And.intro (by omega) ?_)
    have hno : okJ g j = false := decide_eq_false (fun hh => by omega)
    refine fin_ret (G := G0) Try.results54 ?_
    simp only [go_sem, Nat.reduceAdd, Nat.reduceSub, Nat.reduceMul, Nat.reduceEqDiff, Nat.reduceLT, Nat.reduceLeDiff, Nat.reduceBEq, Nat.reduceBNe, Int.reduceLT, Int.reduceLE, Int.reduceEq, Int.reduceAdd, Int.reduceSub, Int.reduceNeg, reduceCtorEq]
    intro aa w' _ _
    rw [hno]
    rfl
  have q7 : decide (g.area * 64 < j.length) = false := decide_eq_false c7
  by_cases c8 : j.start < 0
  · have q8 : decide (j.start < 0) = true := decide_eq_true c8
    simp only [go_sem, Nat.reduceAdd, Nat.reduceSub, Nat.reduceMul, Nat.reduceEqDiff, Nat.reduceLT, Nat.reduceLeDiff, Nat.reduceBEq, Nat.reduceBNe, Int.reduceLT, Int.reduceLE, Int.reduceEq, Int.reduceAdd, Int.reduceSub, Int.reduceNeg, reduceCtorEq, q3, q4, q5, q6, q7, q8]
    repeat (refine And.intro (by omega) ?_)
    have hno : okJ g j = false := decide_eq_false (fun hh => by omega)
    refine fin_ret (G := G0) Try.results54 ?_
    simp only [go_sem, Nat.reduceAdd, Nat.reduceSub, Nat.reduceMul, Nat.reduceEqDiff, Nat.reduceLT, Nat.reduceLeDiff, Nat.reduceBEq, Nat.reduceBNe, Int.reduceLT, Int.reduceLE, Int.reduceEq, Int.reduceAdd, Int.reduceSub, Int.reduceNeg, reduceCtorEq]
    intro aa w' _ _
    rw [hno]
    rfl
  have q8 : decide (j.start < 0) = false := decide_eq_false c8
  by_cases c9 : g.ring ≤ j.start
  · have q9 : decide (g.ring ≤ j.start) = true := decide_eq_true c9
    simp only [go_sem, Nat.reduceAdd, Nat.reduceSub, Nat.reduceMul, Nat.reduceEqDiff, Nat.reduceLT, Nat.reduceLeDiff, Nat.reduceBEq, Nat.reduceBNe, Int.reduceLT, Int.reduceLE, Int.reduceEq, Int.reduceAdd, Int.reduceSub, Int.reduceNeg, reduceCtorEq, q3, q4, q5, q6, q7, q8, q9]
    repeat (refine And.intro (by omega) ?_)
    have hno : okJ g j = false := decide_eq_false (fun hh => by omega)
    refine fin_ret (G := G0) Try.results54 ?_
    simp only [go_sem, Nat.reduceAdd, Nat.reduceSub, Nat.reduceMul, Nat.reduceEqDiff, Nat.reduceLT, Nat.reduceLeDiff, Nat.reduceBEq, Nat.reduceBNe, Int.reduceLT, Int.reduceLE, Int.reduceEq, Int.reduceAdd, Int.reduceSub, Int.reduceNeg, reduceCtorEq]
    intro aa w' _ _
    rw [hno]
    rfl
  have q9 : decide (g.ring ≤ j.start) = false := decide_eq_false c9
  by_cases c10 : j.used < 0
  · have q10 : decide (j.used < 0) = true := decide_eq_true c10
    simp only [go_sem, Nat.reduceAdd, Nat.reduceSub, Nat.reduceMul, Nat.reduceEqDiff, Nat.reduceLT, Nat.reduceLeDiff, Nat.reduceBEq, Nat.reduceBNe, Int.reduceLT, Int.reduceLE, Int.reduceEq, Int.reduceAdd, Int.reduceSub, Int.reduceNeg, reduceCtorEq, q3, q4, q5, q6, q7, q8, q9, q10]
    repeat (refine And.intro (by omega) ?_)
    have hno : okJ g j = false := decide_eq_false (fun hh => by omega)
    refine fin_ret (G := G0) Try.results54 ?_
    simp only [go_sem, Nat.reduceAdd, Nat.reduceSub, Nat.reduceMul, Nat.reduceEqDiff, Nat.reduceLT, Nat.reduceLeDiff, Nat.reduceBEq, Nat.reduceBNe, Int.reduceLT, Int.reduceLE, Int.reduceEq, Int.reduceAdd, Int.reduceSub, Int.reduceNeg, reduceCtorEq]
    intro aa w' _ _
    rw [hno]
    rfl
  have q10 : decide (j.used < 0) = false := decide_eq_false c10
  by_cases c11 : g.ring < j.used
  · have q11 : decide (g.ring < j.used) = true := decide_eq_true c11
    simp only [go_sem, Nat.reduceAdd, Nat.reduceSub, Nat.reduceMul, Nat.reduceEqDiff, Nat.reduceLT, Nat.reduceLeDiff, Nat.reduceBEq, Nat.reduceBNe, Int.reduceLT, Int.reduceLE, Int.reduceEq, Int.reduceAdd, Int.reduceSub, Int.reduceNeg, reduceCtorEq, q3, q4, q5, q6, q7, q8, q9, q10, q11]
    repeat (refine And.intro (by omega) ?_)
    have hno : okJ g j = false := decide_eq_false (fun hh => by omega)
    refine fin_ret (G := G0) Try.results54 ?_
    simp only [go_sem, Nat.reduceAdd, Nat.reduceSub, Nat.reduceMul, Nat.reduceEqDiff, Nat.reduceLT, Nat.reduceLeDiff, Nat.reduceBEq, Nat.reduceBNe, Int.reduceLT, Int.reduceLE, Int.reduceEq, Int.reduceAdd, Int.reduceSub, Int.reduceNeg, reduceCtorEq]
    intro aa w' _ _
    rw [hno]
    rfl
  have q11 : decide (g.ring < j.used) = false := decide_eq_false c11
  by_cases c12 : j.place = HMod.hMod (j.start + j.used) g.ring
  · have q12 : decide (j.place = HMod.hMod (j.start + j.used) g.ring) = true := decide_eq_true c12
    simp only [go_sem, Nat.reduceAdd, Nat.reduceSub, Nat.reduceMul, Nat.reduceEqDiff, Nat.reduceLT, Nat.reduceLeDiff, Nat.reduceBEq, Nat.reduceBNe, Int.reduceLT, Int.reduceLE, Int.reduceEq, Int.reduceAdd, Int.reduceSub, Int.reduceNeg, reduceCtorEq, q3, q4, q5, q6, q7, q8, q9, q10, q11, q12]
    repeat (refine And.intro (by omega) ?_)
    have hno : okJ g j = true := decide_eq_true (by omega)
    refine fin_ret (G := G0) Try.results54 ?_
    simp only [go_sem, Nat.reduceAdd, Nat.reduceSub, Nat.reduceMul, Nat.reduceEqDiff, Nat.reduceLT, Nat.reduceLeDiff, Nat.reduceBEq, Nat.reduceBNe, Int.reduceLT, Int.reduceLE, Int.reduceEq, Int.reduceAdd, Int.reduceSub, Int.reduceNeg, reduceCtorEq]
    intro aa w' _ _
    rw [hno]
    rfl
  · have q12 : decide (j.place = HMod.hMod (j.start + j.used) g.ring) = false := decide_eq_false c12
    simp only [go_sem, Nat.reduceAdd, Nat.reduceSub, Nat.reduceMul, Nat.reduceEqDiff, Nat.reduceLT, Nat.reduceLeDiff, Nat.reduceBEq, Nat.reduceBNe, Int.reduceLT, Int.reduceLE, Int.reduceEq, Int.reduceAdd, Int.reduceSub, Int.reduceNeg, reduceCtorEq, q3, q4, q5, q6, q7, q8, q9, q10, q11, q12]
    repeat (refine And.intro (by omega) ?_)
    have hno : okJ g j = false := decide_eq_false (fun hh => by omega)
    refine fin_ret (G := G0) Try.results54 ?_
    simp only [go_sem, Nat.reduceAdd, Nat.reduceSub, Nat.reduceMul, Nat.reduceEqDiff, Nat.reduceLT, Nat.reduceLeDiff, Nat.reduceBEq, Nat.reduceBNe, Int.reduceLT, Int.reduceLE, Int.reduceEq, Int.reduceAdd, Int.reduceSub, Int.reduceNeg, reduceCtorEq]
    intro aa w' _ _
    rw [hno]
    rfl
end Go.Proofs.Ytomfladifefomaa
