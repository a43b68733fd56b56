/- 'icehousekeep.AskCold' returns true for all raw things and numbers. Conditions: none. -/
import Derived.Test.YtefmffpidhdjoaaV1
namespace Go.Proofs.Ytefmffpidhdjoaa
open Go.RowKit
open Nat (reduceAdd reduceSub reduceMul reduceEqDiff reduceLT reduceLeDiff)
set_option linter.unusedSimpArgs false
def ask7 (k : Int) : Rec := { rec0 7 with ask := ⟨k, 3, 1⟩ }
theorem ask7_ok (k : Int) : RecOk (ask7 k) := ⟨Nat.zero_le _, Nat.zero_le _, Nat.zero_le _, Nat.zero_le _, Nat.zero_le _, Nat.zero_le _, Nat.zero_le _, Nat.zero_le _, i64_0⟩
theorem ask_change (s : Sta) (k : Int) : changeS s (ask7 k) = askS s ⟨k, 3, 1⟩ := rfl
theorem apply_bad {s : Sta} (h : okSt s = true) {r : Rec} {e : Int} (hc : changeS s r = (e, s)) (he : e ≠ 0) : applyS s r = (zeroS, e) := by
  rw [applyS_of h, hc]
  unfold applyC
  rw [if_neg he]
theorem idS_mem {s : Sta} (h : s.vers.length ≠ 0) (n : Int) : ∃ (i : Nat) (v : Ver), s.vers[i]? = some v ∧ idS s n = v.id := by
  obtain ⟨k, hk, hlt⟩ := pickN n s.vers.length (by omega)
  obtain ⟨v, hv⟩ : ∃ v, s.vers[k]? = some v := ⟨_, List.getElem?_eq_getElem (by omega)⟩
  exact ⟨k, v, hv, by unfold idS; rw [hk, Int.toNat_natCast, hv]; rfl⟩
theorem ask_none {s : Sta} (h : okSt s = true) {k : Int} (hn : ∀ v ∈ s.vers, v.id ≠ k) : applyS s (ask7 k) = (zeroS, 6) := by
  have hg := okSt_good.1 h
  refine apply_bad h ?_ (by decide)
  rw [ask_change]
  unfold askS
  rw [if_pos (verIn_no hg.ids hn)]
theorem ask_twice {s : Sta} (h : okSt s = true) {i : Nat} {v : Ver} (hv : s.vers[i]? = some v) (hm : v.marker = false) (ht : v.tier = 2) (hq : ∃ a ∈ s.queue, a.ver = v.id) : applyS s (ask7 v.id) = (zeroS, 13) := by
  have hg := okSt_good.1 h
  obtain ⟨e1, e2⟩ := ver_at hg.ids hv
  obtain ⟨a, ha, e⟩ := hq
  refine apply_bad h ?_ (by decide)
  rw [ask_change]
  unfold askS
  rw [if_neg (by rw [e2]; simp), e1, hv, if_neg (by show ¬ v.marker = true; rw [hm]; simp), if_neg (by rw [tierAt_of hg.ids (List.mem_of_getElem? hv)]; simp [ht]), if_pos (List.any_eq_true.2 ⟨a, ha, decide_eq_true e⟩)]
theorem ask_mark {s : Sta} (h : okSt s = true) {i : Nat} {v : Ver} (hv : s.vers[i]? = some v) (hm : v.marker = true) : applyS s (ask7 v.id) = (zeroS, 3) := by
  have hg := okSt_good.1 h
  obtain ⟨e1, e2⟩ := ver_at hg.ids hv
  refine apply_bad h ?_ (by decide)
  rw [ask_change]
  unfold askS
  rw [if_neg (by rw [e2]; simp), e1, hv, if_pos (show markO (some v) = true from hm)]
theorem ask_warm {s : Sta} (h : okSt s = true) {i : Nat} {v : Ver} (hv : s.vers[i]? = some v) (hm : v.marker = false) (ht : v.tier ≠ 2) : applyS s (ask7 v.id) = (zeroS, 12) := by
  have hg := okSt_good.1 h
  obtain ⟨e1, e2⟩ := ver_at hg.ids hv
  refine apply_bad h ?_ (by decide)
  rw [ask_change]
  unfold askS
  rw [if_neg (by rw [e2]; simp), e1, hv, if_neg (by show ¬ v.marker = true; rw [hm]; simp), if_pos (by rw [tierAt_of hg.ids (List.mem_of_getElem? hv)]; exact ht)]
theorem ask_cold {s : Sta} (h : okSt s = true) {i : Nat} {v : Ver} (hv : s.vers[i]? = some v) (hm : v.marker = false) (ht : v.tier = 2) :
    applyS s (ask7 v.id) = (zeroS, 13) ∨ applyS s (ask7 v.id) = (zeroS, 8) ∨ ∃ t, applyS s (ask7 v.id) = (t, 0) ∧ okSt t = true ∧ t.queue.length = s.queue.length + 1 ∧ applyS t (ask7 v.id) = (zeroS, 13) := by
  have hg := okSt_good.1 h
  have hvm := List.mem_of_getElem? hv
  obtain ⟨e1, e2⟩ := ver_at hg.ids hv
  by_cases hq : ∃ a ∈ s.queue, a.ver = v.id
  · exact .inl (ask_twice h hv hm ht hq)
  · have hq' : ¬ (s.queue.any fun b => decide (b.ver = v.id)) = true := fun q => hq (by
      obtain ⟨a, ha, e⟩ := List.any_eq_true.1 q
      exact ⟨a, ha, of_decide_eq_true e⟩)
    have hA : changeS s (ask7 v.id) = if (s.queue.length : Int) = 10 then (8, s) else (0, { s with queue := s.queue ++ [⟨v.id, 3, 1⟩] }) := by
      rw [ask_change]
      unfold askS
      rw [if_neg (by rw [e2]; simp), e1, hv, if_neg (by show ¬ v.marker = true; rw [hm]; simp), if_neg (by rw [tierAt_of hg.ids hvm]; simp [ht]), if_neg hq', if_neg (by simp)]
    by_cases h10 : (s.queue.length : Int) = 10
    · rw [if_pos h10] at hA
      exact .inr (.inl (apply_bad h hA (by decide)))
    · rw [if_neg h10] at hA
      have hl := hg.queue.len
      have hgd : Good { s with queue := s.queue ++ [⟨v.id, 3, 1⟩] } := by
        refine ⟨hg.n1, hg.n2, hg.c1, hg.c2, hg.gone, hg.bkts, hg.snd, hg.ids, hg.nul, hg.vlen, hg.out, hg.prt, hg.uids, hg.ulen, hg.fr, ⟨fun a ha => ?_, ?_, ?_⟩⟩
        · rcases List.mem_append.1 ha with ha | ha
          · exact hg.queue.out a ha
          · rw [List.mem_singleton.1 ha, askOut_iff (s := { s with queue := s.queue ++ [⟨v.id, 3, 1⟩] }) hg.ids]
            exact ⟨⟨v, hvm, rfl, ht⟩, show (1 : Int) ≤ 3 by decide, show (3 : Int) ≤ 1000 by decide, show (0 : Int) ≤ 1 by decide, show (1 : Int) ≤ 2 by decide⟩
        · show (s.queue ++ [(⟨v.id, 3, 1⟩ : Ask)]).Pairwise _
          rw [List.pairwise_append]
          exact ⟨hg.queue.one, List.pairwise_singleton _ _, fun a ha b hb e => hq ⟨a, ha, by rw [List.mem_singleton.1 hb] at e; exact e⟩⟩
        · show (s.queue ++ [(⟨v.id, 3, 1⟩ : Ask)]).length ≤ 10
          rw [List.length_append, List.length_singleton]
          omega
      have hok2 := okSt_good.2 hgd
      refine .inr (.inr ⟨_, ?_, hok2, by simp, ask_twice hok2 hv hm ht ⟨⟨v.id, 3, 1⟩, by simp, rfl⟩⟩)
      rw [applyS_of h, hA]
      unfold applyC
      rw [if_pos rfl, if_pos hok2]
set_option maxRecDepth 100000 in
set_option maxHeartbeats 8000000 in
theorem askCold_ret {w : World} (v0 : Value) (l0 : List Raw) (h0 : RawsG ⟨Non, w⟩ v0 l0) (n : Int) (hn : i64 n) :
    Calls Try.prog 8 #[v0, .int .i64 n] w (Ret ⟨Non, w⟩ fun v _ => v = .bool true) := by
  have hml := max_le
  have hok := stateS_ok l0 40
  obtain ⟨A0, c0, rfl, _, _⟩ := ScR.form h0
  refine enterS (G := ⟨Non, w⟩) (n := 92) 3000 (wf_nonL w) Try.func8 rfl Try.ntmps8 (by simp) ?_
  simp only [go_sem, reduceAdd, reduceSub, reduceMul, reduceEqDiff, reduceLT, reduceLeDiff, Nat.reduceBEq, Nat.reduceBNe, Int.reduceLT, Int.reduceLE, Int.reduceEq, Int.reduceAdd, Int.reduceSub, Int.reduceNeg, reduceCtorEq]
  refine plain_ok (N := 3000) (call_does (fun v G => ∃ sv ov, v = .tuple #[sv, ov] ∧ StaG G sv (stateS l0 40).1 ∧ RecsG G ov (stateS l0 40).2) rfl rfl (by kernel_rfl) rfl (dk rfl) (fun G hG => state_does (most := 40) hG.wf (ScR.mono h0 rawG_mono (hG.le ⟨Non, w⟩ (by simp))) (by omega))) (QOk_body _ _ _) (by first | exact .inl rfl | exact .inr ⟨_, _, rfl, rfl⟩) ?_
  rintro _ ⟨_, G1, ⟨sv, ov, rfl, hs, ho⟩, hn1, rfl⟩
  clear hn1
  obtain ⟨A1, c1, A2, c2, A3, c3, A4, c4, A5, c5, rfl, hP⟩ := hs.form
  obtain ⟨Ao, co, rfl, _⟩ := Sq.form ho
  obtain ⟨s, hsd⟩ : ∃ s, s = (stateS l0 40).1 := ⟨_, rfl⟩
  obtain ⟨rs, hrd⟩ : ∃ rs, rs = (stateS l0 40).2 := ⟨_, rfl⟩
  rw [← hsd] at hok hP hs ⊢
  rw [← hrd] at ho ⊢
  clear hsd hrd
  have b2 := (okSt_iff.1 hok).vers_len
  have b4 := (okSt_iff.1 hok).queue_len
  simp only [go_sem, reduceAdd, reduceSub, reduceMul, reduceEqDiff, reduceLT, reduceLeDiff, Nat.reduceBEq, Nat.reduceBNe, Int.reduceLT, Int.reduceLE, Int.reduceEq, Int.reduceAdd, Int.reduceSub, Int.reduceNeg, reduceCtorEq]
  intro g1
  obtain ⟨k, hk⟩ : ∃ k, k = idS s n := ⟨_, rfl⟩
  refine plain_ok (N := 3000) (call_does (fun v _ => v = .int .i64 k) rfl rfl (by kernel_rfl) rfl (dk rfl) (fun G hG => by rw [hk]; exact id_does hG.wf (hP.mono (hG.le G1 (by simp))).g hn)) (QOk_body _ _ _) (by first | exact .inl rfl | exact .inr ⟨_, _, rfl, rfl⟩) ?_
  rintro _ ⟨_, G2, rfl, hn2, rfl⟩
  clear hn2
  simp only [go_sem, reduceAdd, reduceSub, reduceMul, reduceEqDiff, reduceLT, reduceLeDiff, Nat.reduceBEq, Nat.reduceBNe, Int.reduceLT, Int.reduceLE, Int.reduceEq, Int.reduceAdd, Int.reduceSub, Int.reduceNeg, reduceCtorEq]
  intro g2
  refine plain_ok (N := 3000) (call_does (fun y G => ∃ sv', y = .tuple #[sv', .int .i64 (applyS s (ask7 k)).2] ∧ StaG G sv' (applyS s (ask7 k)).1) rfl rfl (by kernel_rfl) rfl (dk rfl) (fun G hG => apply_does hG.wf (hP.mono (hG.le G1 (by simp))).g ⟨_, _, _, rfl, Sq.nil, Sq.nil, Sq.nil, ask7_ok k⟩)) (QOk_body _ _ _) (by first | exact .inl rfl | exact .inr ⟨_, _, rfl, rfl⟩) ?_
  rintro _ ⟨_, G3, ⟨sv3, rfl, hs3⟩, hn3, rfl⟩
  clear hn3
  
  by_cases hem : s.vers.length = 0
  · have hnil : s.vers = [] := List.eq_nil_of_length_eq_zero hem
    have q0 : decide ((s.vers.length : Int) = 0) = true := decide_eq_true (by omega)
    have hA : applyS s (ask7 k) = (zeroS, 6) := ask_none hok (by rw [hnil]; intro v hv; cases hv)
    rw [hA] at hs3 ⊢
    obtain ⟨B1, d1, B2, d2, B3, d3, B4, d4, B5, d5, rfl, hP3⟩ := hs3.form
    simp only [go_sem, reduceAdd, reduceSub, reduceMul, reduceEqDiff, reduceLT, reduceLeDiff, Nat.reduceBEq, Nat.reduceBNe, Int.reduceLT, Int.reduceLE, Int.reduceEq, Int.reduceAdd, Int.reduceSub, Int.reduceNeg, reduceCtorEq, q0]
    intro g3
    refine plain_ok (N := 3000) (call_does (fun v _ => v = .int .i64 0) rfl rfl (by kernel_rfl) rfl (dk rfl) (fun G hG => by rw [← errSt_ok hok]; exact check_does hG.wf (hP.mono (hG.le G1 (by simp))).g)) (QOk_body _ _ _) (by first | exact .inl rfl | exact .inr ⟨_, _, rfl, rfl⟩) ?_
    rintro _ ⟨_, G4, rfl, hn4, rfl⟩
    clear hn4
    simp only [go_sem, reduceAdd, reduceSub, reduceMul, reduceEqDiff, reduceLT, reduceLeDiff, Nat.reduceBEq, Nat.reduceBNe, Int.reduceLT, Int.reduceLE, Int.reduceEq, Int.reduceAdd, Int.reduceSub, Int.reduceNeg, reduceCtorEq]
    refine fin_ret (G := ⟨Non, w⟩) Try.results8 ?_
    simp only [go_sem, reduceAdd, reduceSub, reduceMul, reduceEqDiff, reduceLT, reduceLeDiff, Nat.reduceBEq, Nat.reduceBNe, Int.reduceLT, Int.reduceLE, Int.reduceEq, Int.reduceAdd, Int.reduceSub, Int.reduceNeg, reduceCtorEq]
    intro aa w' _ hle
    rfl
  · have q0 : decide ((s.vers.length : Int) = 0) = false := decide_eq_false (by omega)
    obtain ⟨i, v, hv, hid⟩ := idS_mem hem n
    rw [← hk] at hid
    subst hid
    have hids := (okSt_good.1 hok).ids
    have hil := (List.getElem?_eq_some_iff.1 hv).1
    have f1 : v.marker = true → (applyS s (ask7 v.id)).2 = 3 := fun q => by rw [ask_mark hok hv q]
    have f2 : v.marker = false → v.tier ≠ 2 → (applyS s (ask7 v.id)).2 = 12 := fun q r => by rw [ask_warm hok hv q r]
    have f3 := fun q r => ask_cold hok hv q r
    obtain ⟨a, ha⟩ : ∃ a, a = applyS s (ask7 v.id) := ⟨_, rfl⟩
    rw [← ha] at hs3 f1 f2 f3 ⊢
    obtain ⟨B1, d1, B2, d2, B3, d3, B4, d4, B5, d5, rfl, hP3⟩ := hs3.form
    simp only [go_sem, reduceAdd, reduceSub, reduceMul, reduceEqDiff, reduceLT, reduceLeDiff, Nat.reduceBEq, Nat.reduceBNe, Int.reduceLT, Int.reduceLE, Int.reduceEq, Int.reduceAdd, Int.reduceSub, Int.reduceNeg, reduceCtorEq, q0]
    intro g3
    refine loop_ok (N := 3000) (ι := Nat) (fun j => ⟨[(5, .c (.p 0 g1 0)), (7, .c (.v (.int .i64 v.id))), (8, .c (.p 1 g2 0)), (9, .c (.p 2 g3 0)), (10, .c (.v (.int .i64 a.2))), (44, .c (.v (.slice A2 s.vers.length c2))), (45, .c (.v (.int .i64 (s.vers.length : Int)))), (46, .c (.v (.int .i64 (j : Int))))],
        [⟨2, g3, 29, [.v (.int .i64 a.1.next), .v (.int .i64 a.1.clock), .v (.slice B1 a.1.bkts.length d1), .v (.slice B2 a.1.vers.length d2), .v (.slice B3 a.1.upls.length d3), .v (.slice B4 a.1.queue.length d4), .v (.slice B5 a.1.gone.length d5)]⟩, ⟨1, g2, 50, [.v (.int .i64 7), .v (.int .i64 0), .v (.int .i64 0), .v (.string ⟨#[]⟩), .v (.string ⟨#[]⟩), .v (.string ⟨#[]⟩), .v (.int .i64 0), .v (.int .i64 0), .v (.int .i64 0), .v (.string ⟨#[]⟩), .v (.string ⟨#[]⟩), .v (.bool false), .v (.bool false), .v (.int .i64 0), .v (.int .i64 0), .v (.int .i64 0), .v (.slice none 0 0), .v (.int .i64 0), .v (.int .i64 0), .v (.int .i64 0), .v (.int .i64 v.id), .v (.int .i64 3), .v (.int .i64 1), .v (.int .i64 0), .v (.int .i64 0), .v (.slice none 0 0), .v (.slice none 0 0), .v (.int .i64 0), .v (.int .i64 0)]⟩, ⟨0, g1, 29, [.v (.int .i64 s.next), .v (.int .i64 s.clock), .v (.slice A1 s.bkts.length c1), .v (.slice A2 s.vers.length c2), .v (.slice A3 s.upls.length c3), .v (.slice A4 s.queue.length c4), .v (.slice A5 s.gone.length c5)]⟩], [], [], [G3, G1, ⟨Non, w⟩], 3⟩)
      (fun j => j ≤ s.vers.length ∧ (i < j → v.marker = false ∧ v.tier = 2)) (fun j => s.vers.length - j) (QOk_body _ _ _) 0 ⟨by omega, fun q => absurd q (by omega)⟩ (by simp only [go_sem, reduceAdd, reduceSub, reduceMul, reduceEqDiff, reduceLT, reduceLeDiff, Nat.reduceBEq, Nat.reduceBNe, Int.reduceLT, Int.reduceLE, Int.reduceEq, Int.reduceAdd, Int.reduceSub, Int.reduceNeg, reduceCtorEq]; simp) ?_
    rintro j ⟨hj, hcold⟩
    by_cases hlt : j < s.vers.length
    · have q1 : decide ((j : Int) < (s.vers.length : Int)) = true := decide_eq_true (by omega)
      obtain ⟨x, hx⟩ : ∃ x, s.vers[j]? = some x := ⟨_, List.getElem?_eq_getElem hlt⟩
      simp only [go_sem, reduceAdd, reduceSub, reduceMul, reduceEqDiff, reduceLT, reduceLeDiff, Nat.reduceBEq, Nat.reduceBNe, Int.reduceLT, Int.reduceLE, Int.reduceEq, Int.reduceAdd, Int.reduceSub, Int.reduceNeg, reduceCtorEq, q1]
      refine plain_ok (N := 3000) (elem_does (R := VerG) (l := s.vers) (m := j) rfl tySlice24 tySize44 rfl rfl (dk rfl) rfl hx (fun G hG => Sq.mono hP.vers verG_mono (hG.le G1 (by simp)))) (QOk_body _ _ _) (by first | exact .inl rfl | exact .inr ⟨_, _, rfl, rfl⟩) ?_
      rintro _ ⟨g4, o', cs, G5, hcl, ⟨svx, rfl, hsv, hk1, hk2⟩, rfl⟩
      obtain ⟨Aw, cw, rfl, _⟩ := Sq.form hsv
      simp only [go_sem, reduceAdd, reduceSub, reduceMul, reduceEqDiff, reduceLT, reduceLeDiff, Nat.reduceBEq, Nat.reduceBNe, Int.reduceLT, Int.reduceLE, Int.reduceEq, Int.reduceAdd, Int.reduceSub, Int.reduceNeg, reduceCtorEq, verV]
      intro g5
      by_cases hji : j = i
      · subst hji
        rw [hv] at hx
        cases hx
        have q2 : decide (v.id = v.id) = true := decide_eq_true rfl
        simp only [go_sem, reduceAdd, reduceSub, reduceMul, reduceEqDiff, reduceLT, reduceLeDiff, Nat.reduceBEq, Nat.reduceBNe, Int.reduceLT, Int.reduceLE, Int.reduceEq, Int.reduceAdd, Int.reduceSub, Int.reduceNeg, reduceCtorEq, q2]
        refine Wb_mk (fun hm => ?_) (fun hm => ?_)
        · refine fin_ret (G := ⟨Non, w⟩) Try.results8 ?_
          simp only [go_sem, reduceAdd, reduceSub, reduceMul, reduceEqDiff, reduceLT, reduceLeDiff, Nat.reduceBEq, Nat.reduceBNe, Int.reduceLT, Int.reduceLE, Int.reduceEq, Int.reduceAdd, Int.reduceSub, Int.reduceNeg, reduceCtorEq]
          intro aa w' _ hle
          show Value.bool (decide (a.2 = 3)) = _
          rw [decide_eq_true (f1 hm)]
        · refine Wb_mk (fun ht => ?_) (fun ht => ?_)
          · have ht' : v.tier ≠ 2 := of_decide_eq_false (nt ht)
            refine fin_ret (G := ⟨Non, w⟩) Try.results8 ?_
            simp only [go_sem, reduceAdd, reduceSub, reduceMul, reduceEqDiff, reduceLT, reduceLeDiff, Nat.reduceBEq, Nat.reduceBNe, Int.reduceLT, Int.reduceLE, Int.reduceEq, Int.reduceAdd, Int.reduceSub, Int.reduceNeg, reduceCtorEq]
            intro aa w' _ hle
            show Value.bool (decide (a.2 = 12)) = _
            rw [decide_eq_true (f2 hm ht')]
          · have ht' : v.tier = 2 := of_decide_eq_true (nf ht)
            refine ⟨by omega, ?_⟩
            refine again_ok (j + 1) ⟨hlt, fun _ => ⟨hm, ht'⟩⟩ (by omega) (by simp only [go_sem, reduceAdd, reduceSub, reduceMul, reduceEqDiff, reduceLT, reduceLeDiff, Nat.reduceBEq, Nat.reduceBNe, Int.reduceLT, Int.reduceLE, Int.reduceEq, Int.reduceAdd, Int.reduceSub, Int.reduceNeg, reduceCtorEq]; simp)
      · have q2 : decide (x.id = v.id) = false := decide_eq_false fun e => hji (pair_one hids hx hv e)
        simp only [go_sem, reduceAdd, reduceSub, reduceMul, reduceEqDiff, reduceLT, reduceLeDiff, Nat.reduceBEq, Nat.reduceBNe, Int.reduceLT, Int.reduceLE, Int.reduceEq, Int.reduceAdd, Int.reduceSub, Int.reduceNeg, reduceCtorEq, q2]
        refine ⟨by omega, ?_⟩
        refine again_ok (j + 1) ⟨hlt, fun q => hcold (by omega)⟩ (by omega) (by simp only [go_sem, reduceAdd, reduceSub, reduceMul, reduceEqDiff, reduceLT, reduceLeDiff, Nat.reduceBEq, Nat.reduceBNe, Int.reduceLT, Int.reduceLE, Int.reduceEq, Int.reduceAdd, Int.reduceSub, Int.reduceNeg, reduceCtorEq]; simp)
    have hjl : j = s.vers.length := by omega
    subst hjl
    have q1 : decide ((s.vers.length : Int) < (s.vers.length : Int)) = false := decide_eq_false (by omega)
    obtain ⟨hm, ht⟩ := hcold hil
    simp only [go_sem, reduceAdd, reduceSub, reduceMul, reduceEqDiff, reduceLT, reduceLeDiff, Nat.reduceBEq, Nat.reduceBNe, Int.reduceLT, Int.reduceLE, Int.reduceEq, Int.reduceAdd, Int.reduceSub, Int.reduceNeg, reduceCtorEq, q1]
    rcases f3 hm ht with e | e | ⟨t, e, hok2, hql, hA2⟩
    · have q3 : decide (a.2 = 0) = false := by rw [e]; rfl
      have q4 : decide (a.2 = 13) = true := by rw [e]; rfl
      simp only [go_sem, reduceAdd, reduceSub, reduceMul, reduceEqDiff, reduceLT, reduceLeDiff, Nat.reduceBEq, Nat.reduceBNe, Int.reduceLT, Int.reduceLE, Int.reduceEq, Int.reduceAdd, Int.reduceSub, Int.reduceNeg, reduceCtorEq, q3, q4]
      refine fin_ret (G := ⟨Non, w⟩) Try.results8 ?_
      simp only [go_sem, reduceAdd, reduceSub, reduceMul, reduceEqDiff, reduceLT, reduceLeDiff, Nat.reduceBEq, Nat.reduceBNe, Int.reduceLT, Int.reduceLE, Int.reduceEq, Int.reduceAdd, Int.reduceSub, Int.reduceNeg, reduceCtorEq]
      intro aa w' _ hle
      rfl
    · have q3 : decide (a.2 = 0) = false := by rw [e]; rfl
      have q4 : decide (a.2 = 13) = false := by rw [e]; rfl
      have q5 : decide (a.2 = 8) = true := by rw [e]; rfl
      simp only [go_sem, reduceAdd, reduceSub, reduceMul, reduceEqDiff, reduceLT, reduceLeDiff, Nat.reduceBEq, Nat.reduceBNe, Int.reduceLT, Int.reduceLE, Int.reduceEq, Int.reduceAdd, Int.reduceSub, Int.reduceNeg, reduceCtorEq, q3, q4, q5]
      refine fin_ret (G := ⟨Non, w⟩) Try.results8 ?_
      simp only [go_sem, reduceAdd, reduceSub, reduceMul, reduceEqDiff, reduceLT, reduceLeDiff, Nat.reduceBEq, Nat.reduceBNe, Int.reduceLT, Int.reduceLE, Int.reduceEq, Int.reduceAdd, Int.reduceSub, Int.reduceNeg, reduceCtorEq]
      intro aa w' _ hle
      rfl
    · have q3 : decide (a.2 = 0) = true := by rw [e]; rfl
      have ea : a.1 = t := by rw [e]
      rw [← ea] at hok2 hql hA2
      simp only [go_sem, reduceAdd, reduceSub, reduceMul, reduceEqDiff, reduceLT, reduceLeDiff, Nat.reduceBEq, Nat.reduceBNe, Int.reduceLT, Int.reduceLE, Int.reduceEq, Int.reduceAdd, Int.reduceSub, Int.reduceNeg, reduceCtorEq, q3]
      refine plain_ok (N := 3000) (call_does (fun y G => ∃ sv', y = .tuple #[sv', .int .i64 (applyS a.1 (ask7 v.id)).2] ∧ StaG G sv' (applyS a.1 (ask7 v.id)).1) rfl rfl (by kernel_rfl) rfl (dk rfl) (fun G hG => apply_does hG.wf (hP3.mono (hG.le G3 (by simp))).g ⟨_, _, _, rfl, Sq.nil, Sq.nil, Sq.nil, ask7_ok v.id⟩)) (QOk_body _ _ _) (by first | exact .inl rfl | exact .inr ⟨_, _, rfl, rfl⟩) ?_
      rintro _ ⟨_, G6, ⟨sv6, rfl, hs6⟩, hn6, rfl⟩
      clear hn6
  
      rw [hA2] at hs6 ⊢
      obtain ⟨C1, f1, C2, f2, C3, f3, C4, f4, C5, f5, rfl, hP6⟩ := hs6.form
      have q5 : decide ((a.1.queue.length : Int) = (s.queue.length : Int) + 1) = true := decide_eq_true (by omega)
      simp only [go_sem, reduceAdd, reduceSub, reduceMul, reduceEqDiff, reduceLT, reduceLeDiff, Nat.reduceBEq, Nat.reduceBNe, Int.reduceLT, Int.reduceLE, Int.reduceEq, Int.reduceAdd, Int.reduceSub, Int.reduceNeg, reduceCtorEq]
      intro g6
      refine ⟨by omega, ?_⟩
      refine fin_ret (G := ⟨Non, w⟩) Try.results8 ?_
      simp only [go_sem, reduceAdd, reduceSub, reduceMul, reduceEqDiff, reduceLT, reduceLeDiff, Nat.reduceBEq, Nat.reduceBNe, Int.reduceLT, Int.reduceLE, Int.reduceEq, Int.reduceAdd, Int.reduceSub, Int.reduceNeg, reduceCtorEq, q5]
      intro aa w' _ hle
      rfl
theorem askCold_walk {w : World} (v0 : Value) (l0 : List Raw) (h0 : RawsG ⟨Non, w⟩ v0 l0) (n : Int) (hn : i64 n) : Calls Try.prog 8 #[v0, .int .i64 n] w fun e w' => e = .returned (.bool true) ∧ Below w.heap.size w w' := ret_walk (askCold_ret v0 l0 h0 n hn)
end Go.Proofs.Ytefmffpidhdjoaa
