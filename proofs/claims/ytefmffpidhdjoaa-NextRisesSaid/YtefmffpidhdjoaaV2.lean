/- 'icehousekeep.NextRises' returns true for all raw things. Conditions: none. -/
import Derived.Test.YtefmffpidhdjoaaV1
namespace Go.Proofs.Ytefmffpidhdjoaa
open Go.RowKit
set_option linter.unusedSimpArgs false
theorem applyS_err {s : Sta} {r : Rec} (h : (applyS s r).2 ≠ 0) : (applyS s r).1 = zeroS := by
  unfold applyS at h ⊢
  by_cases q : okSt s = true
  · rw [if_pos q] at h ⊢
    unfold applyC at h ⊢
    by_cases q1 : (changeS s r).1 = 0
    · rw [if_pos q1] at h ⊢
      by_cases q2 : okSt (changeS s r).2 = true
      · rw [if_pos q2] at h
        exact absurd rfl h
      · rw [if_neg q2]
    · rw [if_neg q1]
  · rw [if_neg q]
theorem applyS_fine {s : Sta} {r : Rec} (hok : okSt s = true) (h : (applyS s r).2 = 0) : (changeS s r).1 = 0 ∧ (applyS s r).1 = (changeS s r).2 := by
  rw [applyS_of hok] at h ⊢
  unfold applyC at h ⊢
  by_cases q1 : (changeS s r).1 = 0
  · rw [if_pos q1] at h ⊢
    by_cases q2 : okSt (changeS s r).2 = true
    · rw [if_pos q2]; exact ⟨q1, rfl⟩
    · rw [if_neg q2] at h; cases h
  · rw [if_neg q1] at h; exact absurd h q1
def Same (s t : Sta) : Prop := t.next = s.next ∧ t.clock = s.clock
theorem null_same (s : Sta) (v : Ver) : Same s (nullS s v) := by
  unfold nullS
  repeat' split
  all_goals exact ⟨rfl, rfl⟩
theorem change_next {s : Sta} {r : Rec} (h : (changeS s r).1 = 0) : (changeS s r).2.next = s.next + (if r.kind = 4 ∨ r.kind = 10 then 1 else 0) ∧ s.clock ≤ (changeS s r).2.clock := by
  have key : ∀ {t : Sta}, Same s t → ¬ (r.kind = 4 ∨ r.kind = 10) → t.next = s.next + (if r.kind = 4 ∨ r.kind = 10 then 1 else 0) ∧ s.clock ≤ t.clock := fun {t} hs hk => by
    rw [if_neg hk]
    exact ⟨by rw [hs.1]; omega, by rw [hs.2]; omega⟩
  unfold changeS at h ⊢
  by_cases q : r.kind = 1
  · rw [if_pos q]
    refine key ?_ (by omega)
    unfold addS
    repeat' split
    all_goals exact ⟨rfl, rfl⟩
  rw [if_neg q] at h ⊢
  by_cases q2 : r.kind = 2 ∨ r.kind = 3
  · rw [if_pos q2]
    refine key ?_ (by omega)
    unfold setS setB setC
    repeat' split
    all_goals exact ⟨rfl, rfl⟩
  rw [if_neg q2] at h ⊢
  by_cases q4 : r.kind = 4
  · rw [if_pos q4] at h ⊢
    rw [if_pos (.inl q4)]
    unfold comeS at h ⊢
    obtain ⟨n1, n2⟩ := null_same s r.ver
    by_cases a : (!decide (r.ver.id = s.next) || decide (s.next = 1048576)) = true
    · rw [if_pos a] at h; cases h
    · rw [if_neg a] at h ⊢
      by_cases b : ((nullS s r.ver).vers.length : Int) = 40
      · rw [if_pos b] at h; cases h
      · rw [if_neg b]
        exact ⟨by show (nullS s r.ver).next + 1 = _; rw [n1], by show s.clock ≤ (nullS s r.ver).clock; rw [n2]; omega⟩
  rw [if_neg q4] at h ⊢
  by_cases q5 : r.kind = 5
  · rw [if_pos q5]
    refine key ?_ (by omega)
    unfold dropOneS dropV
    repeat' split
    all_goals exact ⟨rfl, rfl⟩
  rw [if_neg q5] at h ⊢
  by_cases q6 : r.kind = 6 ∨ r.kind = 8 ∨ r.kind = 9
  · rw [if_pos q6]
    refine key ?_ (by omega)
    unfold turnS turnV turnB
    repeat' split
    all_goals exact ⟨rfl, rfl⟩
  rw [if_neg q6] at h ⊢
  by_cases q7 : r.kind = 7
  · rw [if_pos q7]
    refine key ?_ (by omega)
    unfold askS
    repeat' split
    all_goals exact ⟨rfl, rfl⟩
  rw [if_neg q7] at h ⊢
  by_cases q10 : r.kind = 10
  · rw [if_pos q10] at h ⊢
    rw [if_pos (.inr q10)]
    unfold beginS at h ⊢
    by_cases a : (!decide (r.id = s.next) || decide (s.next = 1048576)) = true
    · rw [if_pos a] at h; cases h
    · rw [if_neg a] at h ⊢
      by_cases b : (s.upls.length : Int) = 4
      · rw [if_pos b] at h; cases h
      · rw [if_neg b]
        exact ⟨rfl, Int.le_refl _⟩
  rw [if_neg q10] at h ⊢
  by_cases q11 : r.kind = 11 ∨ r.kind = 12
  · rw [if_pos q11]
    refine key ?_ (by omega)
    unfold sendS sendU sendC
    repeat' split
    all_goals exact ⟨rfl, rfl⟩
  rw [if_neg q11] at h ⊢
  by_cases q13 : r.kind = 13
  · rw [if_pos q13] at h ⊢
    rw [if_neg (by omega)]
    unfold passS at h ⊢
    by_cases a : (decide (r.n < 0) || decide (1073741824 - s.clock < r.n)) = true
    · rw [if_pos a] at h; cases h
    · rw [if_neg a]
      have := bool_no a
      simp only [Bool.or_eq_false_iff, decide_eq_false_iff_not] at this
      exact ⟨by show s.next = s.next + 0; omega, by show s.clock ≤ s.clock + r.n; omega⟩
  rw [if_neg q13] at h ⊢
  by_cases q14 : r.kind = 14
  · rw [if_pos q14]
    refine key ?_ (by omega)
    unfold giveS
    repeat' split
    all_goals exact ⟨rfl, rfl⟩
  rw [if_neg q14] at h
  cases h
set_option maxRecDepth 100000 in
set_option maxHeartbeats 8000000 in
theorem nextRises_ret {w : World} (v0 : Value) (l0 : List Raw) (h0 : RawsG ⟨Non, w⟩ v0 l0) (r : Raw) (hr : RawOk r) :
    Calls Try.prog 5 #[v0, rawV r] w (Ret ⟨Non, w⟩ fun v _ => v = .bool true) := by
  have hml := max_le
  have hok := stateS_ok l0 30
  obtain ⟨A0, c0, rfl, _, _⟩ := ScR.form h0
  refine enterS (G := ⟨Non, w⟩) (n := 55) 3000 (wf_nonL w) Try.func5 rfl Try.ntmps5 (by simp) ?_
  unfold rawV
  simp only [go_sem, Nat.reduceAdd, Nat.reduceSub, Nat.reduceMul, Nat.reduceEqDiff, Nat.reduceLT, Nat.reduceLeDiff, Nat.reduceBEq, Nat.reduceBNe, Int.reduceLT, Int.reduceLE, Int.reduceEq, Int.reduceAdd, Int.reduceSub, Int.reduceNeg, reduceCtorEq]
  intro g1
  refine plain_ok (N := 3000) (call_does (fun v G => ∃ sv ov, v = .tuple #[sv, ov] ∧ StaG G sv (stateS l0 30).1 ∧ RecsG G ov (stateS l0 30).2) rfl rfl (by kernel_rfl) rfl (by simp only [dOk_some, dOk_none, Nat.reduceLT]) (fun G hG => state_does (most := 30) hG.wf (ScR.mono h0 rawG_mono (hG.le ⟨Non, w⟩ (by simp))) (by omega))) (QOk_body _ _ _) (by first | exact .inl rfl | exact .inr ⟨_, _, rfl, rfl⟩) ?_
  rintro _ ⟨_, G1, ⟨sv, ov, rfl, hs, ho⟩, hn1, rfl⟩
  clear hn1
  obtain ⟨A1, c1, A2, c2, A3, c3, A4, c4, A5, c5, rfl, hP⟩ := hs.form
  obtain ⟨Ao, co, rfl, _⟩ := Sq.form ho
  obtain ⟨s, hsd⟩ : ∃ s, s = (stateS l0 30).1 := ⟨_, rfl⟩
  obtain ⟨rs, hrd⟩ : ∃ rs, rs = (stateS l0 30).2 := ⟨_, rfl⟩
  rw [← hsd] at hok hP hs ⊢
  rw [← hrd] at ho ⊢
  clear hsd hrd
  simp only [go_sem, Nat.reduceAdd, Nat.reduceSub, Nat.reduceMul, Nat.reduceEqDiff, Nat.reduceLT, Nat.reduceLeDiff, Nat.reduceBEq, Nat.reduceBNe, Int.reduceLT, Int.reduceLE, Int.reduceEq, Int.reduceAdd, Int.reduceSub, Int.reduceNeg, reduceCtorEq]
  intro g2
  refine plain_ok (N := 3000) (call_does (fun y G => RecG G y (recS s r)) rfl rfl (by kernel_rfl) rfl (by simp only [dOk_some, dOk_none, Nat.reduceLT]) (fun G hG => record_does hG.wf (hP.mono (hG.le G1 (by simp))).g hr hok)) (QOk_body _ _ _) (by first | exact .inl rfl | exact .inr ⟨_, _, rfl, rfl⟩) ?_
  rintro _ ⟨_, H1, ⟨vs, ps, ss, rfl, hvs, hps, hss, hro⟩, hn1, rfl⟩
  clear hn1
  obtain ⟨Av, cv, rfl, _⟩ := Sq.form hvs
  obtain ⟨Ap, cp, rfl, _⟩ := Sq.form hps
  obtain ⟨As, cs, rfl, _⟩ := Sq.form hss
  simp only [go_sem, Nat.reduceAdd, Nat.reduceSub, Nat.reduceMul, Nat.reduceEqDiff, Nat.reduceLT, Nat.reduceLeDiff, Nat.reduceBEq, Nat.reduceBNe, Int.reduceLT, Int.reduceLE, Int.reduceEq, Int.reduceAdd, Int.reduceSub, Int.reduceNeg, reduceCtorEq, recV]
  intro g3
  refine plain_ok (N := 3000) (call_does (fun y G => ∃ sv', y = .tuple #[sv', .int .i64 (applyS s (recS s r)).2] ∧ StaG G sv' (applyS s (recS s r)).1) rfl rfl (by kernel_rfl) rfl (by simp only [dOk_some, dOk_none, Nat.reduceLT]) (fun G hG => apply_does hG.wf (hP.mono (hG.le G1 (by simp))).g ⟨_, _, _, rfl, hvs.mono (hG.le H1 (by simp)), hps.mono (hG.le H1 (by simp)), hss.mono (hG.le H1 (by simp)), hro⟩)) (QOk_body _ _ _) (by first | exact .inl rfl | exact .inr ⟨_, _, rfl, rfl⟩) ?_
  rintro _ ⟨_, G2, ⟨sv2, rfl, hs2⟩, hn2, rfl⟩
  clear hn2
  
  obtain ⟨x, hx⟩ : ∃ x, x = recS s r := ⟨_, rfl⟩
  rw [← hx] at hs2 ⊢
  have k1 := applyS_err (s := s) (r := x)
  have k2 := applyS_fine (r := x) hok
  have k3 := change_next (s := s) (r := x)
  obtain ⟨a, ha⟩ : ∃ a, a = applyS s x := ⟨_, rfl⟩
  rw [← ha] at hs2 k1 k2 ⊢
  obtain ⟨B1, d1, B2, d2, B3, d3, B4, d4, B5, d5, rfl, hP2⟩ := hs2.form
  simp only [go_sem, Nat.reduceAdd, Nat.reduceSub, Nat.reduceMul, Nat.reduceEqDiff, Nat.reduceLT, Nat.reduceLeDiff, Nat.reduceBEq, Nat.reduceBNe, Int.reduceLT, Int.reduceLE, Int.reduceEq, Int.reduceAdd, Int.reduceSub, Int.reduceNeg, reduceCtorEq]
  intro g4
  refine plain_ok (N := 3000) (call_does (fun v _ => v = .int .i64 0) rfl rfl (by kernel_rfl) rfl (by simp only [dOk_some, dOk_none, Nat.reduceLT]) (fun G hG => by rw [← errSt_ok hok]; exact check_does hG.wf (hP.mono (hG.le G1 (by simp))).g)) (QOk_body _ _ _) (by first | exact .inl rfl | exact .inr ⟨_, _, rfl, rfl⟩) ?_
  rintro _ ⟨_, G3, rfl, hn3, rfl⟩
  clear hn3
  simp only [go_sem, Nat.reduceAdd, Nat.reduceSub, Nat.reduceMul, Nat.reduceEqDiff, Nat.reduceLT, Nat.reduceLeDiff, Nat.reduceBEq, Nat.reduceBNe, Int.reduceLT, Int.reduceLE, Int.reduceEq, Int.reduceAdd, Int.reduceSub, Int.reduceNeg, reduceCtorEq]
  refine Wb_mk (fun he => ?_) (fun he => ?_)
  · have he' : a.2 ≠ 0 := of_decide_eq_false (nt he)
    refine fin_ret (G := ⟨Non, w⟩) Try.results5 ?_
    simp only [go_sem, Nat.reduceAdd, Nat.reduceSub, Nat.reduceMul, Nat.reduceEqDiff, Nat.reduceLT, Nat.reduceLeDiff, Nat.reduceBEq, Nat.reduceBNe, Int.reduceLT, Int.reduceLE, Int.reduceEq, Int.reduceAdd, Int.reduceSub, Int.reduceNeg, reduceCtorEq]
    intro aa w' _ hle
    show Value.bool (decide (a.1.next = 0)) = _
    rw [k1 he']
    rfl
  · have he' : a.2 = 0 := of_decide_eq_true (nf he)
    obtain ⟨e1, e2⟩ := k2 he'
    obtain ⟨e3, e4⟩ := k3 e1
    rw [← e2] at e3 e4
    have hnb := (okSt_iff.1 hok).n2
    have hnb1 := (okSt_iff.1 hok).n1
    refine Wb_mk (fun hk => ?_) (fun hk => ?_)
    · simp only [Bool.or_eq_true, decide_eq_true_eq] at hk
      rw [if_pos hk] at e3
      refine ⟨by omega, ?_⟩
      refine fin_ret (G := ⟨Non, w⟩) Try.results5 ?_
      simp only [go_sem, Nat.reduceAdd, Nat.reduceSub, Nat.reduceMul, Nat.reduceEqDiff, Nat.reduceLT, Nat.reduceLeDiff, Nat.reduceBEq, Nat.reduceBNe, Int.reduceLT, Int.reduceLE, Int.reduceEq, Int.reduceAdd, Int.reduceSub, Int.reduceNeg, reduceCtorEq]
      intro aa w' _ hle
      show Value.bool (decide (a.1.next = s.next + 1) && decide (s.clock ≤ a.1.clock)) = _
      rw [decide_eq_true e3, decide_eq_true e4]
      rfl
    · simp only [Bool.or_eq_false_iff, decide_eq_false_iff_not] at hk
      rw [if_neg (by omega)] at e3
      refine ⟨by omega, ?_⟩
      refine fin_ret (G := ⟨Non, w⟩) Try.results5 ?_
      simp only [go_sem, Nat.reduceAdd, Nat.reduceSub, Nat.reduceMul, Nat.reduceEqDiff, Nat.reduceLT, Nat.reduceLeDiff, Nat.reduceBEq, Nat.reduceBNe, Int.reduceLT, Int.reduceLE, Int.reduceEq, Int.reduceAdd, Int.reduceSub, Int.reduceNeg, reduceCtorEq]
      intro aa w' _ hle
      show Value.bool (decide (a.1.next = s.next + 0) && decide (s.clock ≤ a.1.clock)) = _
      rw [decide_eq_true e3, decide_eq_true e4]
      rfl
theorem nextRises_walk {w : World} (v0 : Value) (l0 : List Raw) (h0 : RawsG ⟨Non, w⟩ v0 l0) (r : Raw) (hr : RawOk r) : Calls Try.prog 5 #[v0, rawV r] w fun e w' => e = .returned (.bool true) ∧ Below w.heap.size w w' := ret_walk (nextRises_ret v0 l0 h0 r hr)
end Go.Proofs.Ytefmffpidhdjoaa
