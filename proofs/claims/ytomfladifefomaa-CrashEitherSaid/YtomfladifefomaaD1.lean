/- dev.Check, dev.sector, dev.Put, over devices that may be: total contracts. Conditions: as each law states them. -/
import Derived.Test.YtomfladifefomaaDm
import Derived.Test.YtomfladifefomaaDg
import Derived.Test.YtomfladifefomaaSk
import Derived.Test.YtomfladifefomaaSv
namespace Go.Proofs.Ytomfladifefomaa
open Go.RowKit
set_option linter.unusedSimpArgs false
theorem sector_ret (bv : Value) (bs : List UInt8) (G0 : GW) (hW : G0.Wf) (hb : ByG G0 bv bs) (hl : bs.length ≤ 64) :
    Calls Try.prog 70 #[bv] G0.w (Ret G0 fun v G => ∃ A c, v = .slice A 64 c ∧ ByG G v (sec bs)) := by
  obtain ⟨A, c, rfl, _, _⟩ := hb.form
  refine enter (G := G0) (n := 9) 3000 hW Try.func70 rfl Try.ntmps70 (by simp) ?_
  simp only [go_sem, Nat.reduceAdd, Nat.reduceSub, Nat.reduceMul, Nat.reduceEqDiff, Nat.reduceLT, Nat.reduceLeDiff, Nat.reduceBEq, Nat.reduceBNe, Int.reduceLT, Int.reduceLE, Int.reduceEq, Int.reduceAdd, Int.reduceSub, Int.reduceNeg, decide_true, decide_false, Bool.not_true, Bool.not_false, cond_true, cond_false, beq_self_eq_true, and_self, ne_eq, not_true_eq_false, not_false_eq_true, reduceCtorEq, Bool.true_beq, Bool.false_beq]
  refine plain_ok (N := 3000) (callO_does (fun v R _ => ∃ A c, v = .slice A bs.length c ∧ R = [⟨.slice A bs.length c, 5, 1, bs.length, bs.map enc8⟩]) rfl rfl (by kernel_rfl) rfl (by simp only [dOk_some, dOk_none, Nat.reduceLT]) (fun G hG => (clone_any _ bs _ (hb.mono (hG.le G0 (by simp))).r (by omega)).mono ?_)) (QOk_body _ _ _) (.inl rfl) ?_
  · rintro e w' ⟨A, c, rfl, hown, hb⟩
    exact ⟨_, [⟨_, 5, 1, _, _⟩], rfl, by simpa using hown, List.pairwise_singleton _ _, ⟨A, c, rfl, rfl⟩, Chg.of_below hb⟩
  rintro _ ⟨v, R, G1, ⟨A1, c1, rfl, rfl⟩, hn1, rfl⟩
  simp only [List.cons_append, List.nil_append]
  simp only [go_sem, Nat.reduceAdd, Nat.reduceSub, Nat.reduceMul, Nat.reduceEqDiff, Nat.reduceLT, Nat.reduceLeDiff, Nat.reduceBEq, Nat.reduceBNe, Int.reduceLT, Int.reduceLE, Int.reduceEq, Int.reduceAdd, Int.reduceSub, Int.reduceNeg, decide_true, decide_false, Bool.not_true, Bool.not_false, cond_true, cond_false, beq_self_eq_true, and_self, ne_eq, not_true_eq_false, not_false_eq_true, reduceCtorEq, Bool.true_beq, Bool.false_beq]
  refine ⟨by omega, ?_⟩
  refine plain_ok (N := 3000) (append_fill_does (R1 := []) (m := 64 - bs.length) rfl tySlice23 tyInt3 tyApp5 tyZero5 rfl rfl rfl (by omega) (by simp only [dOk_some, dOk_none, Nat.reduceLT]) rfl (by unfold maxLen; omega) (by omega)) (QOk_body _ _ _) (.inl rfl) ?_
  rintro _ ⟨A2, c2, rfl⟩
  rw [show bs.length + (64 - bs.length) = 64 by omega]
  simp only [go_sem, Nat.reduceAdd, Nat.reduceSub, Nat.reduceMul, Nat.reduceEqDiff, Nat.reduceLT, Nat.reduceLeDiff, Nat.reduceBEq, Nat.reduceBNe, Int.reduceLT, Int.reduceLE, Int.reduceEq, Int.reduceAdd, Int.reduceSub, Int.reduceNeg, decide_true, decide_false, Bool.not_true, Bool.not_false, cond_true, cond_false, beq_self_eq_true, and_self, ne_eq, not_true_eq_false, not_false_eq_true, reduceCtorEq, Bool.true_beq, Bool.false_beq]
  refine read_ok (R1 := []) rfl fun G2 hle hs => ?_
  simp only [go_sem, Nat.reduceAdd, Nat.reduceSub, Nat.reduceMul, Nat.reduceEqDiff, Nat.reduceLT, Nat.reduceLeDiff, Nat.reduceBEq, Nat.reduceBNe, Int.reduceLT, Int.reduceLE, Int.reduceEq, Int.reduceAdd, Int.reduceSub, Int.reduceNeg, decide_true, decide_false, Bool.not_true, Bool.not_false, cond_true, cond_false, beq_self_eq_true, and_self, ne_eq, not_true_eq_false, not_false_eq_true, reduceCtorEq, Bool.true_beq, Bool.false_beq]
  refine fin_ret (G := G0) Try.results70 ?_
  simp only [go_sem, Nat.reduceAdd, Nat.reduceSub, Nat.reduceMul, Nat.reduceEqDiff, Nat.reduceLT, Nat.reduceLeDiff, Nat.reduceBEq, Nat.reduceBNe, Int.reduceLT, Int.reduceLE, Int.reduceEq, Int.reduceAdd, Int.reduceSub, Int.reduceNeg, decide_true, decide_false, Bool.not_true, Bool.not_false, cond_true, cond_false, beq_self_eq_true, and_self, ne_eq, not_true_eq_false, not_false_eq_true, reduceCtorEq, Bool.true_beq, Bool.false_beq]
  intro a w' _ hl2
  refine ⟨A2, c2, rfl, ?_⟩
  show Sl ⟨G0.M, w'⟩ 5 1 (sec bs).length _ ((sec bs).map enc8)
  rw [sec_len bs hl, sec_enc]
  exact Sl.mono hs (hl2 G2 (by simp))
theorem chk {g : Geo} (hg : GoodGeo g) {d : Dev} (hd : GoodDev g d) {dv : Value} {G : GW} (h : DevG G dv d) : Calls Try.prog 35 #[geoV g, dv] G.w (Ret G fun v _ => v = .int .i64 0) :=
  ret_of (check_good g hg d hd dv G.w h.r) fun _ _ ⟨he, hb⟩ => ⟨_, he, rfl, hb⟩
@[go_sem] theorem spent_safe (d : Dev) : (spent d).safe = d.safe := rfl
@[go_sem] theorem spent_cache (d : Dev) : (spent d).cache = d.cache := rfl
@[go_sem] theorem spent_vols (d : Dev) : (spent d).vols = d.vols := rfl
theorem tidB {E : Env} {σ : St} {G0 G : GW} (hn : Now E σ G) (hA : ∀ k, ¬ E.A k) (h0 : Tid bX G0) (hW : G0.Wf) (e1 : E.M = G0.M) (e2 : E.W = G0.w) (hr : ∀ r ∈ σ.rows, bX r.t = false) (hb : ∀ b ∈ σ.blks, bX b.t = false) : Tid bX G := by
  obtain ⟨M, w⟩ := G0
  subst e1; subst e2
  exact tid_now hn hA h0 (fun k hk => hW k hk) hr hb
theorem dev_err {G : GW} (d : Dev) (err : Int) (h : err ≠ 0) : DevE G (.tuple #[zeroDev, .int .i64 err]) err d := ⟨_, rfl, fun e => absurd e h, fun _ => rfl⟩
theorem dev_ok {G : GW} {v : Value} {d : Dev} {err : Int} (he : err = 0) (h : ∃ dv, v = .tuple #[dv, .int .i64 0] ∧ DevG G dv d) : DevE G v err d := by
  subst he
  obtain ⟨dv, e, h⟩ := h
  exact ⟨dv, e, fun _ => h, fun e => absurd rfl e⟩
set_option maxRecDepth 100000 in
set_option maxHeartbeats 4000000 in
theorem put_does {g : Geo} (hg : GoodGeo g) {d : Dev} (hd : GoodDev g d) {dv bv : Value} {n : Int} {bs : List UInt8} {G0 : GW} (hW : G0.Wf) (hT : Tid bX G0) (h : DevG G0 dv d) (hb : ByG G0 bv bs) :
    Calls Try.prog 38 #[geoV g, dv, .int .i64 n, bv] G0.w (Ret G0 fun v G => DevE G v (putErr d n bs.length) (putDev d n bs)) := by
  obtain ⟨A, c, rfl, _, _⟩ := hb.form
  obtain ⟨A1, k1, A2, k2, A3, k3, rfl, hs, hc, hv⟩ := h.form
  refine enter (G := G0) (n := 62) 3000 hW Try.func38 rfl Try.ntmps38 (by simp) ?_
  simp only [go_sem, Nat.reduceAdd, Nat.reduceSub, Nat.reduceMul, Nat.reduceEqDiff, Nat.reduceLT, Nat.reduceLeDiff, Nat.reduceBEq, Nat.reduceBNe, Int.reduceLT, Int.reduceLE, Int.reduceEq, Int.reduceAdd, Int.reduceSub, Int.reduceNeg, decide_true, decide_false, Bool.not_true, Bool.not_false, cond_true, cond_false, beq_self_eq_true, and_self, ne_eq, not_true_eq_false, not_false_eq_true, reduceCtorEq, Bool.true_beq, Bool.false_beq, geoV]
  intro g1 g2 g3
  refine plain_ok (N := 3000) (call_does (fun v G => v = .int .i64 0) rfl rfl (by kernel_rfl) rfl (by simp only [dOk_some, dOk_none, Nat.reduceLT]) (fun G hG => chk hg hd (h.mono (hG.le G0 (by simp))))) (QOk_body _ _ _) (.inl rfl) ?_
  rintro _ ⟨v, G1, rfl, hn1, rfl⟩
  clear hn1
  by_cases e1 : n < 0
  · have he : putErr d n bs.length = 2 := by unfold putErr; rw [if_pos (.inl e1)]
    have q1 : decide (n < 0) = true := by simpa using e1
    simp only [go_sem, Nat.reduceAdd, Nat.reduceSub, Nat.reduceMul, Nat.reduceEqDiff, Nat.reduceLT, Nat.reduceLeDiff, Nat.reduceBEq, Nat.reduceBNe, Int.reduceLT, Int.reduceLE, Int.reduceEq, Int.reduceAdd, Int.reduceSub, Int.reduceNeg, decide_true, decide_false, Bool.not_true, Bool.not_false, cond_true, cond_false, beq_self_eq_true, and_self, ne_eq, not_true_eq_false, not_false_eq_true, reduceCtorEq, Bool.true_beq, Bool.false_beq, q1]
    refine fin_ret (G := G0) Try.results38 ?_
    simp only [go_sem, Nat.reduceAdd, Nat.reduceSub, Nat.reduceMul, Nat.reduceEqDiff, Nat.reduceLT, Nat.reduceLeDiff, Nat.reduceBEq, Nat.reduceBNe, Int.reduceLT, Int.reduceLE, Int.reduceEq, Int.reduceAdd, Int.reduceSub, Int.reduceNeg, decide_true, decide_false, Bool.not_true, Bool.not_false, cond_true, cond_false, beq_self_eq_true, and_self, ne_eq, not_true_eq_false, not_false_eq_true, reduceCtorEq, Bool.true_beq, Bool.false_beq]
    intro a w' _ _
    exact he.symm ▸ dev_err _ _ (by decide)
  have q1 : decide (n < 0) = false := by simpa using e1
  by_cases e2 : (d.safe.length : Int) ≤ n
  · have he : putErr d n bs.length = 2 := by unfold putErr; rw [if_pos (.inr e2)]
    have q2 : decide ((d.safe.length : Int) ≤ n) = true := by simpa using e2
    simp only [go_sem, Nat.reduceAdd, Nat.reduceSub, Nat.reduceMul, Nat.reduceEqDiff, Nat.reduceLT, Nat.reduceLeDiff, Nat.reduceBEq, Nat.reduceBNe, Int.reduceLT, Int.reduceLE, Int.reduceEq, Int.reduceAdd, Int.reduceSub, Int.reduceNeg, decide_true, decide_false, Bool.not_true, Bool.not_false, cond_true, cond_false, beq_self_eq_true, and_self, ne_eq, not_true_eq_false, not_false_eq_true, reduceCtorEq, Bool.true_beq, Bool.false_beq, q1, q2]
    refine fin_ret (G := G0) Try.results38 ?_
    simp only [go_sem, Nat.reduceAdd, Nat.reduceSub, Nat.reduceMul, Nat.reduceEqDiff, Nat.reduceLT, Nat.reduceLeDiff, Nat.reduceBEq, Nat.reduceBNe, Int.reduceLT, Int.reduceLE, Int.reduceEq, Int.reduceAdd, Int.reduceSub, Int.reduceNeg, decide_true, decide_false, Bool.not_true, Bool.not_false, cond_true, cond_false, beq_self_eq_true, and_self, ne_eq, not_true_eq_false, not_false_eq_true, reduceCtorEq, Bool.true_beq, Bool.false_beq]
    intro a w' _ _
    exact he.symm ▸ dev_err _ _ (by decide)
  have q2 : decide ((d.safe.length : Int) ≤ n) = false := by simpa using e2
  by_cases e3 : 64 < bs.length
  · have he : putErr d n bs.length = 1 := by unfold putErr; rw [if_neg (by omega), if_pos e3]
    have q3 : decide ((64 : Int) < (bs.length : Int)) = true := by simp; omega
    simp only [go_sem, Nat.reduceAdd, Nat.reduceSub, Nat.reduceMul, Nat.reduceEqDiff, Nat.reduceLT, Nat.reduceLeDiff, Nat.reduceBEq, Nat.reduceBNe, Int.reduceLT, Int.reduceLE, Int.reduceEq, Int.reduceAdd, Int.reduceSub, Int.reduceNeg, decide_true, decide_false, Bool.not_true, Bool.not_false, cond_true, cond_false, beq_self_eq_true, and_self, ne_eq, not_true_eq_false, not_false_eq_true, reduceCtorEq, Bool.true_beq, Bool.false_beq, q1, q2, q3]
    refine fin_ret (G := G0) Try.results38 ?_
    simp only [go_sem, Nat.reduceAdd, Nat.reduceSub, Nat.reduceMul, Nat.reduceEqDiff, Nat.reduceLT, Nat.reduceLeDiff, Nat.reduceBEq, Nat.reduceBNe, Int.reduceLT, Int.reduceLE, Int.reduceEq, Int.reduceAdd, Int.reduceSub, Int.reduceNeg, decide_true, decide_false, Bool.not_true, Bool.not_false, cond_true, cond_false, beq_self_eq_true, and_self, ne_eq, not_true_eq_false, not_false_eq_true, reduceCtorEq, Bool.true_beq, Bool.false_beq]
    intro a w' _ _
    exact he.symm ▸ dev_err _ _ (by decide)
  have q3 : decide ((64 : Int) < (bs.length : Int)) = false := by simp; omega
  by_cases e4 : d.cache.length = 2000
  · have he : putErr d n bs.length = 8 := by unfold putErr; rw [if_neg (by omega), if_neg e3, if_pos e4]
    have q4 : decide ((d.cache.length : Int) = 2000) = true := by simp; omega
    simp only [go_sem, Nat.reduceAdd, Nat.reduceSub, Nat.reduceMul, Nat.reduceEqDiff, Nat.reduceLT, Nat.reduceLeDiff, Nat.reduceBEq, Nat.reduceBNe, Int.reduceLT, Int.reduceLE, Int.reduceEq, Int.reduceAdd, Int.reduceSub, Int.reduceNeg, decide_true, decide_false, Bool.not_true, Bool.not_false, cond_true, cond_false, beq_self_eq_true, and_self, ne_eq, not_true_eq_false, not_false_eq_true, reduceCtorEq, Bool.true_beq, Bool.false_beq, q1, q2, q3, q4]
    refine fin_ret (G := G0) Try.results38 ?_
    simp only [go_sem, Nat.reduceAdd, Nat.reduceSub, Nat.reduceMul, Nat.reduceEqDiff, Nat.reduceLT, Nat.reduceLeDiff, Nat.reduceBEq, Nat.reduceBNe, Int.reduceLT, Int.reduceLE, Int.reduceEq, Int.reduceAdd, Int.reduceSub, Int.reduceNeg, decide_true, decide_false, Bool.not_true, Bool.not_false, cond_true, cond_false, beq_self_eq_true, and_self, ne_eq, not_true_eq_false, not_false_eq_true, reduceCtorEq, Bool.true_beq, Bool.false_beq]
    intro a w' _ _
    exact he.symm ▸ dev_err _ _ (by decide)
  have q4 : decide ((d.cache.length : Int) = 2000) = false := by simp; omega
  simp only [go_sem, Nat.reduceAdd, Nat.reduceSub, Nat.reduceMul, Nat.reduceEqDiff, Nat.reduceLT, Nat.reduceLeDiff, Nat.reduceBEq, Nat.reduceBNe, Int.reduceLT, Int.reduceLE, Int.reduceEq, Int.reduceAdd, Int.reduceSub, Int.reduceNeg, decide_true, decide_false, Bool.not_true, Bool.not_false, cond_true, cond_false, beq_self_eq_true, and_self, ne_eq, not_true_eq_false, not_false_eq_true, reduceCtorEq, Bool.true_beq, Bool.false_beq, q1, q2, q3, q4]
  by_cases e5 : d.fuel = 0
  · have he : putErr d n bs.length = 10 := by unfold putErr; rw [if_neg (by omega), if_neg e3, if_neg e4, if_pos e5]
    refine plain_ok (N := 3000) (call_does (fun v G => v = .tuple #[.agg #[.slice none 0 0, .slice none 0 0, .slice none 0 0, .int .i64 0], .int .i64 10]) rfl rfl (by kernel_rfl) rfl (by simp only [dOk_some, dOk_none, Nat.reduceLT]) (fun G hG => ret_of (spend_down g hg d hd e5 _ _ (h.mono (hG.le G0 (by simp))).r) fun _ _ ⟨he, hb⟩ => ⟨_, he, rfl, hb⟩)) (QOk_body _ _ _) (.inl rfl) ?_
    rintro _ ⟨v, G2, rfl, hn2, rfl⟩
    clear hn2
    simp only [go_sem, Nat.reduceAdd, Nat.reduceSub, Nat.reduceMul, Nat.reduceEqDiff, Nat.reduceLT, Nat.reduceLeDiff, Nat.reduceBEq, Nat.reduceBNe, Int.reduceLT, Int.reduceLE, Int.reduceEq, Int.reduceAdd, Int.reduceSub, Int.reduceNeg, decide_true, decide_false, Bool.not_true, Bool.not_false, cond_true, cond_false, beq_self_eq_true, and_self, ne_eq, not_true_eq_false, not_false_eq_true, reduceCtorEq, Bool.true_beq, Bool.false_beq]
    intro g4
    refine fin_ret (G := G0) Try.results38 ?_
    simp only [go_sem, Nat.reduceAdd, Nat.reduceSub, Nat.reduceMul, Nat.reduceEqDiff, Nat.reduceLT, Nat.reduceLeDiff, Nat.reduceBEq, Nat.reduceBNe, Int.reduceLT, Int.reduceLE, Int.reduceEq, Int.reduceAdd, Int.reduceSub, Int.reduceNeg, decide_true, decide_false, Bool.not_true, Bool.not_false, cond_true, cond_false, beq_self_eq_true, and_self, ne_eq, not_true_eq_false, not_false_eq_true, reduceCtorEq, Bool.true_beq, Bool.false_beq]
    intro a w' _ _
    exact he.symm ▸ dev_err _ _ (by decide)
  have he : putErr d n bs.length = 0 := by unfold putErr; rw [if_neg (by omega), if_neg e3, if_neg e4, if_neg e5]
  refine plain_ok (N := 3000) (callO_does (fun v R G => ∃ u, v = .tuple #[u, .int .i64 0] ∧ OwnT (spent d) u R G) rfl rfl (by kernel_rfl) rfl (by simp only [dOk_some, dOk_none, Nat.reduceLT]) (fun G hG => spend_does g hg d hd e5 _ _ (h.mono (hG.le G0 (by simp))) (tidB hG (fun _ h => h) hT hW rfl rfl (by simp) (by simp; decide)) hG.wf)) (QOk_body _ _ _) (.inl rfl) ?_
  rintro _ ⟨v, R, G2, ⟨u, rfl, A4, c4, A5, c5, A6, c6, C1, C2, C3, rfl, rfl, E1, E2, E3⟩, hn2, rfl⟩
  clear hn2
  simp only [List.cons_append, List.nil_append]
  simp only [go_sem, Nat.reduceAdd, Nat.reduceSub, Nat.reduceMul, Nat.reduceEqDiff, Nat.reduceLT, Nat.reduceLeDiff, Nat.reduceBEq, Nat.reduceBNe, Int.reduceLT, Int.reduceLE, Int.reduceEq, Int.reduceAdd, Int.reduceSub, Int.reduceNeg, decide_true, decide_false, Bool.not_true, Bool.not_false, cond_true, cond_false, beq_self_eq_true, and_self, ne_eq, not_true_eq_false, not_false_eq_true, reduceCtorEq, Bool.true_beq, Bool.false_beq]
  intro g4
  refine draw_ok (N := 3000) (.take 0 (.take 2 (.take 3 (.alt 1 (.alt 4 (.take 5 (.alt 6 (.alt 7 (.take 8 (.alt 9 .done .last)) .last) .last)) .last) (.alt 4 (.take 5 (.alt 1 (.alt 6 (.alt 7 (.take 8 (.alt 9 .done .last)) .last) .last) (.alt 6 (.alt 1 (.alt 7 (.take 8 (.alt 9 .done .last)) .last) .last) .last))) .last))))) [3] (QOk_body _ _ _) follows_mixed (by kernel_rfl) (by kernel_rfl) ?_
  simp only [go_sem, Nat.reduceAdd, Nat.reduceSub, Nat.reduceMul, Nat.reduceEqDiff, Nat.reduceLT, Nat.reduceLeDiff, Nat.reduceBEq, Nat.reduceBNe, Int.reduceLT, Int.reduceLE, Int.reduceEq, Int.reduceAdd, Int.reduceSub, Int.reduceNeg, decide_true, decide_false, Bool.not_true, Bool.not_false, cond_true, cond_false, beq_self_eq_true, and_self, ne_eq, not_true_eq_false, not_false_eq_true, reduceCtorEq, Bool.true_beq, Bool.false_beq]
  refine ⟨?_, ?_⟩
  · refine any_ok2 (N := 3000) (call_does (fun v G => ∃ A c, v = .slice A 64 c ∧ ByG G v (sec bs)) rfl rfl (by kernel_rfl) rfl (by simp only [dOk_some, dOk_none, Nat.reduceLT]) (fun G hG => sector_ret _ bs G hG.wf (hb.mono (hG.le G0 (by simp))) (by omega))) (QOk_body _ _ _) rfl (.inl rfl) (by intro _ hK; first | (obtain ⟨_, _, _, _, rfl⟩ := hK; exact ⟨rfl, fun _ h => h⟩) | (obtain ⟨_, _, rfl⟩ := hK; exact ⟨rfl, fun _ h => h⟩) | (obtain ⟨_, _, _, _, _, _, rfl⟩ := hK; exact ⟨rfl, fun _ h => List.mem_cons_of_mem _ h⟩) | (obtain ⟨_, _, _, _, _, _, _, rfl⟩ := hK; exact ⟨rfl, fun _ h => List.mem_cons_of_mem _ h⟩) | (obtain rfl := hK; exact ⟨rfl, fun _ h => h⟩)) ?_
    rintro _ ⟨_, G3, ⟨A7, c7, rfl, hb3⟩, hn3, rfl⟩
    clear hn3
    simp only [go_sem, Nat.reduceAdd, Nat.reduceSub, Nat.reduceMul, Nat.reduceEqDiff, Nat.reduceLT, Nat.reduceLeDiff, Nat.reduceBEq, Nat.reduceBNe, Int.reduceLT, Int.reduceLE, Int.reduceEq, Int.reduceAdd, Int.reduceSub, Int.reduceNeg, decide_true, decide_false, Bool.not_true, Bool.not_false, cond_true, cond_false, beq_self_eq_true, and_self, ne_eq, not_true_eq_false, not_false_eq_true, reduceCtorEq, Bool.true_beq, Bool.false_beq]
    intro g5
    refine any_ok2 (N := 3000) (append_does (R1 := [_]) (news := [.int .i64 n, .slice A7 64 c7]) rfl tySlice34 tyApp61 rfl rfl rfl rfl (by simp only [dOk_some, dOk_none, Nat.reduceLT]) (by intro u hu; simp at hu; rcases hu with rfl | rfl <;> rfl) (by have := hd.most; unfold maxLen; omega) (by have := hd.most; omega) (fun G hG => tsl_blk hG (b := ⟨4, g5, 61, [.v (.int .i64 n), .v (.slice A7 64 c7)]⟩) (by simp) rfl (by unfold maxLen; omega))) (QOk_body _ _ _) rfl (.inl rfl) (by intro _ hK; first | (obtain ⟨_, _, _, _, rfl⟩ := hK; exact ⟨rfl, fun _ h => h⟩) | (obtain ⟨_, _, rfl⟩ := hK; exact ⟨rfl, fun _ h => h⟩) | (obtain ⟨_, _, _, _, _, _, rfl⟩ := hK; exact ⟨rfl, fun _ h => List.mem_cons_of_mem _ h⟩) | (obtain ⟨_, _, _, _, _, _, _, rfl⟩ := hK; exact ⟨rfl, fun _ h => List.mem_cons_of_mem _ h⟩) | (obtain rfl := hK; exact ⟨rfl, fun _ h => h⟩)) ?_
    rintro _ ⟨A8, c8, rfl⟩
    simp only [List.cons_append, List.nil_append]
    simp only [go_sem, Nat.reduceAdd, Nat.reduceSub, Nat.reduceMul, Nat.reduceEqDiff, Nat.reduceLT, Nat.reduceLeDiff, Nat.reduceBEq, Nat.reduceBNe, Int.reduceLT, Int.reduceLE, Int.reduceEq, Int.reduceAdd, Int.reduceSub, Int.reduceNeg, decide_true, decide_false, Bool.not_true, Bool.not_false, cond_true, cond_false, beq_self_eq_true, and_self, ne_eq, not_true_eq_false, not_false_eq_true, reduceCtorEq, Bool.true_beq, Bool.false_beq]
    refine read_ok (R1 := []) rfl fun G4 _ hs4 => ?_
    simp only [go_sem, Nat.reduceAdd, Nat.reduceSub, Nat.reduceMul, Nat.reduceEqDiff, Nat.reduceLT, Nat.reduceLeDiff, Nat.reduceBEq, Nat.reduceBNe, Int.reduceLT, Int.reduceLE, Int.reduceEq, Int.reduceAdd, Int.reduceSub, Int.reduceNeg, decide_true, decide_false, Bool.not_true, Bool.not_false, cond_true, cond_false, beq_self_eq_true, and_self, ne_eq, not_true_eq_false, not_false_eq_true, reduceCtorEq, Bool.true_beq, Bool.false_beq]
    refine read_ok (R1 := []) rfl fun G5 _ hs5 => ?_
    simp only [go_sem, Nat.reduceAdd, Nat.reduceSub, Nat.reduceMul, Nat.reduceEqDiff, Nat.reduceLT, Nat.reduceLeDiff, Nat.reduceBEq, Nat.reduceBNe, Int.reduceLT, Int.reduceLE, Int.reduceEq, Int.reduceAdd, Int.reduceSub, Int.reduceNeg, decide_true, decide_false, Bool.not_true, Bool.not_false, cond_true, cond_false, beq_self_eq_true, and_self, ne_eq, not_true_eq_false, not_false_eq_true, reduceCtorEq, Bool.true_beq, Bool.false_beq]
    refine read_ok (R1 := []) rfl fun G6 _ hs6 => ?_
    simp only [go_sem, Nat.reduceAdd, Nat.reduceSub, Nat.reduceMul, Nat.reduceEqDiff, Nat.reduceLT, Nat.reduceLeDiff, Nat.reduceBEq, Nat.reduceBNe, Int.reduceLT, Int.reduceLE, Int.reduceEq, Int.reduceAdd, Int.reduceSub, Int.reduceNeg, decide_true, decide_false, Bool.not_true, Bool.not_false, cond_true, cond_false, beq_self_eq_true, and_self, ne_eq, not_true_eq_false, not_false_eq_true, reduceCtorEq, Bool.true_beq, Bool.false_beq]
    refine fin_ret (G := G0) Try.results38 ?_
    simp only [go_sem, Nat.reduceAdd, Nat.reduceSub, Nat.reduceMul, Nat.reduceEqDiff, Nat.reduceLT, Nat.reduceLeDiff, Nat.reduceBEq, Nat.reduceBNe, Int.reduceLT, Int.reduceLE, Int.reduceEq, Int.reduceAdd, Int.reduceSub, Int.reduceNeg, decide_true, decide_false, Bool.not_true, Bool.not_false, cond_true, cond_false, beq_self_eq_true, and_self, ne_eq, not_true_eq_false, not_false_eq_true, reduceCtorEq, Bool.true_beq, Bool.false_beq]
    intro a w' _ hl
    refine dev_ok he ⟨_, rfl, _, _, _, rfl, sq_row E1 rowG_mono (hl G2 (by simp)) rfl (hs4.mono (hl G4 (by simp))), ?_, sq_row E3 volG_mono (hl G2 (by simp)) rfl (hs6.mono (hl G6 (by simp)))⟩
    refine sq_row (l := d.cache ++ [⟨n, sec bs⟩]) (n := d.cache.length + 1) (css := C2 ++ [[.int .i64 n, .slice A7 64 c7]]) (ElG.snoc (E2.mono wrG_mono (hl G2 (by simp))) rfl ⟨_, rfl, hb3.mono (hl G3 (by simp))⟩) wrG_mono (GW.Le.refl _) (by simp) ?_
    have := hs5.mono (hl G5 (by simp))
    simpa [SC.den] using this
  · refine any_ok2 (N := 3000) (call_does (fun v G => ∃ A c, v = .slice A 64 c ∧ ByG G v (sec bs)) rfl rfl (by kernel_rfl) rfl (by simp only [dOk_some, dOk_none, Nat.reduceLT]) (fun G hG => sector_ret _ bs G hG.wf (hb.mono (hG.le G0 (by simp))) (by omega))) (QOk_body _ _ _) rfl (.inl rfl) (by intro _ hK; first | (obtain ⟨_, _, _, _, rfl⟩ := hK; exact ⟨rfl, fun _ h => h⟩) | (obtain ⟨_, _, rfl⟩ := hK; exact ⟨rfl, fun _ h => h⟩) | (obtain ⟨_, _, _, _, _, _, rfl⟩ := hK; exact ⟨rfl, fun _ h => List.mem_cons_of_mem _ h⟩) | (obtain ⟨_, _, _, _, _, _, _, rfl⟩ := hK; exact ⟨rfl, fun _ h => List.mem_cons_of_mem _ h⟩) | (obtain rfl := hK; exact ⟨rfl, fun _ h => h⟩)) ?_
    rintro _ ⟨_, G3, ⟨A7, c7, rfl, hb3⟩, hn3, rfl⟩
    clear hn3
    simp only [go_sem, Nat.reduceAdd, Nat.reduceSub, Nat.reduceMul, Nat.reduceEqDiff, Nat.reduceLT, Nat.reduceLeDiff, Nat.reduceBEq, Nat.reduceBNe, Int.reduceLT, Int.reduceLE, Int.reduceEq, Int.reduceAdd, Int.reduceSub, Int.reduceNeg, decide_true, decide_false, Bool.not_true, Bool.not_false, cond_true, cond_false, beq_self_eq_true, and_self, ne_eq, not_true_eq_false, not_false_eq_true, reduceCtorEq, Bool.true_beq, Bool.false_beq]
    refine ⟨fun g5 => ?_, fun g5 => ?_⟩
    · refine any_ok2 (N := 3000) (append_does (R1 := [_]) (news := [.int .i64 n, .slice A7 64 c7]) rfl tySlice34 tyApp61 rfl rfl rfl rfl (by simp only [dOk_some, dOk_none, Nat.reduceLT]) (by intro u hu; simp at hu; rcases hu with rfl | rfl <;> rfl) (by have := hd.most; unfold maxLen; omega) (by have := hd.most; omega) (fun G hG => tsl_blk hG (b := ⟨4, g5, 61, [.v (.int .i64 n), .v (.slice A7 64 c7)]⟩) (by simp) rfl (by unfold maxLen; omega))) (QOk_body _ _ _) rfl (.inl rfl) (by intro _ hK; first | (obtain ⟨_, _, _, _, rfl⟩ := hK; exact ⟨rfl, fun _ h => h⟩) | (obtain ⟨_, _, rfl⟩ := hK; exact ⟨rfl, fun _ h => h⟩) | (obtain ⟨_, _, _, _, _, _, rfl⟩ := hK; exact ⟨rfl, fun _ h => List.mem_cons_of_mem _ h⟩) | (obtain ⟨_, _, _, _, _, _, _, rfl⟩ := hK; exact ⟨rfl, fun _ h => List.mem_cons_of_mem _ h⟩) | (obtain rfl := hK; exact ⟨rfl, fun _ h => h⟩)) ?_
      rintro _ ⟨A8, c8, rfl⟩
      simp only [List.cons_append, List.nil_append]
      simp only [go_sem, Nat.reduceAdd, Nat.reduceSub, Nat.reduceMul, Nat.reduceEqDiff, Nat.reduceLT, Nat.reduceLeDiff, Nat.reduceBEq, Nat.reduceBNe, Int.reduceLT, Int.reduceLE, Int.reduceEq, Int.reduceAdd, Int.reduceSub, Int.reduceNeg, decide_true, decide_false, Bool.not_true, Bool.not_false, cond_true, cond_false, beq_self_eq_true, and_self, ne_eq, not_true_eq_false, not_false_eq_true, reduceCtorEq, Bool.true_beq, Bool.false_beq]
      refine read_ok (R1 := []) rfl fun G4 _ hs4 => ?_
      simp only [go_sem, Nat.reduceAdd, Nat.reduceSub, Nat.reduceMul, Nat.reduceEqDiff, Nat.reduceLT, Nat.reduceLeDiff, Nat.reduceBEq, Nat.reduceBNe, Int.reduceLT, Int.reduceLE, Int.reduceEq, Int.reduceAdd, Int.reduceSub, Int.reduceNeg, decide_true, decide_false, Bool.not_true, Bool.not_false, cond_true, cond_false, beq_self_eq_true, and_self, ne_eq, not_true_eq_false, not_false_eq_true, reduceCtorEq, Bool.true_beq, Bool.false_beq]
      refine read_ok (R1 := []) rfl fun G5 _ hs5 => ?_
      simp only [go_sem, Nat.reduceAdd, Nat.reduceSub, Nat.reduceMul, Nat.reduceEqDiff, Nat.reduceLT, Nat.reduceLeDiff, Nat.reduceBEq, Nat.reduceBNe, Int.reduceLT, Int.reduceLE, Int.reduceEq, Int.reduceAdd, Int.reduceSub, Int.reduceNeg, decide_true, decide_false, Bool.not_true, Bool.not_false, cond_true, cond_false, beq_self_eq_true, and_self, ne_eq, not_true_eq_false, not_false_eq_true, reduceCtorEq, Bool.true_beq, Bool.false_beq]
      refine read_ok (R1 := []) rfl fun G6 _ hs6 => ?_
      simp only [go_sem, Nat.reduceAdd, Nat.reduceSub, Nat.reduceMul, Nat.reduceEqDiff, Nat.reduceLT, Nat.reduceLeDiff, Nat.reduceBEq, Nat.reduceBNe, Int.reduceLT, Int.reduceLE, Int.reduceEq, Int.reduceAdd, Int.reduceSub, Int.reduceNeg, decide_true, decide_false, Bool.not_true, Bool.not_false, cond_true, cond_false, beq_self_eq_true, and_self, ne_eq, not_true_eq_false, not_false_eq_true, reduceCtorEq, Bool.true_beq, Bool.false_beq]
      refine fin_ret (G := G0) Try.results38 ?_
      simp only [go_sem, Nat.reduceAdd, Nat.reduceSub, Nat.reduceMul, Nat.reduceEqDiff, Nat.reduceLT, Nat.reduceLeDiff, Nat.reduceBEq, Nat.reduceBNe, Int.reduceLT, Int.reduceLE, Int.reduceEq, Int.reduceAdd, Int.reduceSub, Int.reduceNeg, decide_true, decide_false, Bool.not_true, Bool.not_false, cond_true, cond_false, beq_self_eq_true, and_self, ne_eq, not_true_eq_false, not_false_eq_true, reduceCtorEq, Bool.true_beq, Bool.false_beq]
      intro a w' _ hl
      refine dev_ok he ⟨_, rfl, _, _, _, rfl, sq_row E1 rowG_mono (hl G2 (by simp)) rfl (hs4.mono (hl G4 (by simp))), ?_, sq_row E3 volG_mono (hl G2 (by simp)) rfl (hs6.mono (hl G6 (by simp)))⟩
      refine sq_row (l := d.cache ++ [⟨n, sec bs⟩]) (n := d.cache.length + 1) (css := C2 ++ [[.int .i64 n, .slice A7 64 c7]]) (ElG.snoc (E2.mono wrG_mono (hl G2 (by simp))) rfl ⟨_, rfl, hb3.mono (hl G3 (by simp))⟩) wrG_mono (GW.Le.refl _) (by simp) ?_
      have := hs5.mono (hl G5 (by simp))
      simpa [SC.den] using this
    · refine any_ok2 (N := 3000) (append_does (R1 := [_]) (news := [.int .i64 n, .slice A7 64 c7]) rfl tySlice34 tyApp61 rfl rfl rfl rfl (by simp only [dOk_some, dOk_none, Nat.reduceLT]) (by intro u hu; simp at hu; rcases hu with rfl | rfl <;> rfl) (by have := hd.most; unfold maxLen; omega) (by have := hd.most; omega) (fun G hG => tsl_blk hG (b := ⟨4, g5, 61, [.v (.int .i64 n), .v (.slice A7 64 c7)]⟩) (by simp) rfl (by unfold maxLen; omega))) (QOk_body _ _ _) rfl (.inl rfl) (by intro _ hK; first | (obtain ⟨_, _, _, _, rfl⟩ := hK; exact ⟨rfl, fun _ h => h⟩) | (obtain ⟨_, _, rfl⟩ := hK; exact ⟨rfl, fun _ h => h⟩) | (obtain ⟨_, _, _, _, _, _, rfl⟩ := hK; exact ⟨rfl, fun _ h => List.mem_cons_of_mem _ h⟩) | (obtain ⟨_, _, _, _, _, _, _, rfl⟩ := hK; exact ⟨rfl, fun _ h => List.mem_cons_of_mem _ h⟩) | (obtain rfl := hK; exact ⟨rfl, fun _ h => h⟩)) ?_
      rintro _ ⟨A8, c8, rfl⟩
      simp only [List.cons_append, List.nil_append]
      simp only [go_sem, Nat.reduceAdd, Nat.reduceSub, Nat.reduceMul, Nat.reduceEqDiff, Nat.reduceLT, Nat.reduceLeDiff, Nat.reduceBEq, Nat.reduceBNe, Int.reduceLT, Int.reduceLE, Int.reduceEq, Int.reduceAdd, Int.reduceSub, Int.reduceNeg, decide_true, decide_false, Bool.not_true, Bool.not_false, cond_true, cond_false, beq_self_eq_true, and_self, ne_eq, not_true_eq_false, not_false_eq_true, reduceCtorEq, Bool.true_beq, Bool.false_beq]
      refine read_ok (R1 := []) rfl fun G4 _ hs4 => ?_
      simp only [go_sem, Nat.reduceAdd, Nat.reduceSub, Nat.reduceMul, Nat.reduceEqDiff, Nat.reduceLT, Nat.reduceLeDiff, Nat.reduceBEq, Nat.reduceBNe, Int.reduceLT, Int.reduceLE, Int.reduceEq, Int.reduceAdd, Int.reduceSub, Int.reduceNeg, decide_true, decide_false, Bool.not_true, Bool.not_false, cond_true, cond_false, beq_self_eq_true, and_self, ne_eq, not_true_eq_false, not_false_eq_true, reduceCtorEq, Bool.true_beq, Bool.false_beq]
      refine read_ok (R1 := []) rfl fun G5 _ hs5 => ?_
      simp only [go_sem, Nat.reduceAdd, Nat.reduceSub, Nat.reduceMul, Nat.reduceEqDiff, Nat.reduceLT, Nat.reduceLeDiff, Nat.reduceBEq, Nat.reduceBNe, Int.reduceLT, Int.reduceLE, Int.reduceEq, Int.reduceAdd, Int.reduceSub, Int.reduceNeg, decide_true, decide_false, Bool.not_true, Bool.not_false, cond_true, cond_false, beq_self_eq_true, and_self, ne_eq, not_true_eq_false, not_false_eq_true, reduceCtorEq, Bool.true_beq, Bool.false_beq]
      refine read_ok (R1 := []) rfl fun G6 _ hs6 => ?_
      simp only [go_sem, Nat.reduceAdd, Nat.reduceSub, Nat.reduceMul, Nat.reduceEqDiff, Nat.reduceLT, Nat.reduceLeDiff, Nat.reduceBEq, Nat.reduceBNe, Int.reduceLT, Int.reduceLE, Int.reduceEq, Int.reduceAdd, Int.reduceSub, Int.reduceNeg, decide_true, decide_false, Bool.not_true, Bool.not_false, cond_true, cond_false, beq_self_eq_true, and_self, ne_eq, not_true_eq_false, not_false_eq_true, reduceCtorEq, Bool.true_beq, Bool.false_beq]
      refine fin_ret (G := G0) Try.results38 ?_
      simp only [go_sem, Nat.reduceAdd, Nat.reduceSub, Nat.reduceMul, Nat.reduceEqDiff, Nat.reduceLT, Nat.reduceLeDiff, Nat.reduceBEq, Nat.reduceBNe, Int.reduceLT, Int.reduceLE, Int.reduceEq, Int.reduceAdd, Int.reduceSub, Int.reduceNeg, decide_true, decide_false, Bool.not_true, Bool.not_false, cond_true, cond_false, beq_self_eq_true, and_self, ne_eq, not_true_eq_false, not_false_eq_true, reduceCtorEq, Bool.true_beq, Bool.false_beq]
      intro a w' _ hl
      refine dev_ok he ⟨_, rfl, _, _, _, rfl, sq_row E1 rowG_mono (hl G2 (by simp)) rfl (hs4.mono (hl G4 (by simp))), ?_, sq_row E3 volG_mono (hl G2 (by simp)) rfl (hs6.mono (hl G6 (by simp)))⟩
      refine sq_row (l := d.cache ++ [⟨n, sec bs⟩]) (n := d.cache.length + 1) (css := C2 ++ [[.int .i64 n, .slice A7 64 c7]]) (ElG.snoc (E2.mono wrG_mono (hl G2 (by simp))) rfl ⟨_, rfl, hb3.mono (hl G3 (by simp))⟩) wrG_mono (GW.Le.refl _) (by simp) ?_
      have := hs5.mono (hl G5 (by simp))
      simpa [SC.den] using this
end Go.Proofs.Ytomfladifefomaa
