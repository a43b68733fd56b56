/- 'icehousekeep.DropForgets' returns true for all raw things and numbers. Conditions: none. -/
import Derived.Test.YtefmffpidhdjoaaV1
namespace Go.Proofs.Ytefmffpidhdjoaa
open Go.RowKit
set_option linter.unusedSimpArgs false
def drop5 (k : Int) : Rec := { rec0 5 with id := k }
theorem drop5_ok (k : Int) : RecOk (drop5 k) := ⟨Nat.zero_le _, Nat.zero_le _, Nat.zero_le _, Nat.zero_le _, Nat.zero_le _, Nat.zero_le _, Nat.zero_le _, Nat.zero_le _, i64_0⟩
theorem drop5_none {s : Sta} (h : okSt s = true) {k : Int} (hn : ∀ v ∈ s.vers, v.id ≠ k) : applyS s (drop5 k) = (zeroS, 6) := by
  have hg := okSt_good.1 h
  have : changeS s (drop5 k) = (6, s) := by
    show dropOneS s k = _
    unfold dropOneS
    rw [if_pos (verIn_no hg.ids hn)]
  rw [applyS_of h, this]
  rfl
theorem idS_mem {s : Sta} (h : s.vers.length ≠ 0) (n : Int) : ∃ (i : Nat) (v : Ver), s.vers[i]? = some v ∧ idS s n = v.id := by
  obtain ⟨k, hk, hlt⟩ := pickN n s.vers.length (by omega)
  obtain ⟨v, hv⟩ : ∃ v, s.vers[k]? = some v := ⟨_, List.getElem?_eq_getElem (by omega)⟩
  exact ⟨k, v, hv, by unfold idS; rw [hk, Int.toNat_natCast, hv]; rfl⟩
theorem drop_law {s : Sta} (h : okSt s = true) {i : Nat} {v : Ver} (hv : s.vers[i]? = some v) :
    ∃ t, applyS s (drop5 v.id) = (t, 0) ∧ okSt t = true ∧ (∀ x ∈ t.vers, x.id ≠ v.id) ∧ (∀ a ∈ t.queue, a.ver ≠ v.id) ∧ t.vers.length + 1 = s.vers.length := by
  have hg := okSt_good.1 h
  obtain ⟨e1, e2⟩ := ver_at hg.ids hv
  have hgd := good_drop hg hv
  have hc : changeS s (drop5 v.id) = (0, dropS s i v.id) := by
    show dropOneS s v.id = _
    unfold dropOneS
    rw [if_neg (by rw [e2]; simp), e1, hv]
    show (0, dropS s (verAt s v.id) v.id) = _
    rw [e1]
  have hok2 := okSt_good.2 hgd
  refine ⟨dropS s i v.id, ?_, hok2, fun x hx e => ?_, fun a ha => ?_, ?_⟩
  · rw [applyS_of h, hc]
    unfold applyC
    rw [if_pos rfl, if_pos hok2]
  · obtain ⟨j, hj, hxj⟩ := mem_erase (show x ∈ s.vers.eraseIdx i from hx)
    exact hj (pair_one hg.ids hxj hv e)
  · have := (List.mem_filter.1 (show a ∈ s.queue.filter fun a => !decide (a.ver = v.id) from ha)).2
    simpa using this
  · have hi := (List.getElem?_eq_some_iff.1 hv).1
    show (s.vers.eraseIdx i).length + 1 = _
    rw [List.length_eraseIdx, if_pos hi]
    omega
set_option maxRecDepth 100000 in
set_option maxHeartbeats 8000000 in
theorem dropForgets_ret {w : World} (v0 : Value) (l0 : List Raw) (h0 : RawsG ⟨Non, w⟩ v0 l0) (n : Int) (hn : i64 n) :
    Calls Try.prog 6 #[v0, .int .i64 n] w (Ret ⟨Non, w⟩ fun v _ => v = .bool true) := by
  have hml := max_le
  have hok := stateS_ok l0 40
  obtain ⟨A0, c0, rfl, _, _⟩ := ScR.form h0
  refine enterS (G := ⟨Non, w⟩) (n := 89) 3000 (wf_nonL w) Try.func6 rfl Try.ntmps6 (by simp) ?_
  simp only [go_sem, Nat.reduceAdd, Nat.reduceSub, Nat.reduceMul, Nat.reduceEqDiff, Nat.reduceLT, Nat.reduceLeDiff, Nat.reduceBEq, Nat.reduceBNe, Int.reduceLT, Int.reduceLE, Int.reduceEq, Int.reduceAdd, Int.reduceSub, Int.reduceNeg, reduceCtorEq]
  refine plain_ok (N := 3000) (call_does (fun v G => ∃ sv ov, v = .tuple #[sv, ov] ∧ StaG G sv (stateS l0 40).1 ∧ RecsG G ov (stateS l0 40).2) rfl rfl (by kernel_rfl) rfl (by simp only [dOk_some, dOk_none, Nat.reduceLT]) (fun G hG => state_does (most := 40) hG.wf (ScR.mono h0 rawG_mono (hG.le ⟨Non, w⟩ (by simp))) (by omega))) (QOk_body _ _ _) (by first | exact .inl rfl | exact .inr ⟨_, _, rfl, rfl⟩) ?_
  rintro _ ⟨_, G1, ⟨sv, ov, rfl, hs, ho⟩, hn1, rfl⟩
  clear hn1
  obtain ⟨A1, c1, A2, c2, A3, c3, A4, c4, A5, c5, rfl, hP⟩ := hs.form
  obtain ⟨Ao, co, rfl, _⟩ := Sq.form ho
  obtain ⟨s, hsd⟩ : ∃ s, s = (stateS l0 40).1 := ⟨_, rfl⟩
  obtain ⟨rs, hrd⟩ : ∃ rs, rs = (stateS l0 40).2 := ⟨_, rfl⟩
  rw [← hsd] at hok hP hs ⊢
  rw [← hrd] at ho ⊢
  clear hsd hrd
  have b2 := (okSt_iff.1 hok).vers_len
  simp only [go_sem, Nat.reduceAdd, Nat.reduceSub, Nat.reduceMul, Nat.reduceEqDiff, Nat.reduceLT, Nat.reduceLeDiff, Nat.reduceBEq, Nat.reduceBNe, Int.reduceLT, Int.reduceLE, Int.reduceEq, Int.reduceAdd, Int.reduceSub, Int.reduceNeg, reduceCtorEq]
  intro g1
  obtain ⟨k, hk⟩ : ∃ k, k = idS s n := ⟨_, rfl⟩
  refine plain_ok (N := 3000) (call_does (fun v _ => v = .int .i64 k) rfl rfl (by kernel_rfl) rfl (by simp only [dOk_some, dOk_none, Nat.reduceLT]) (fun G hG => by rw [hk]; exact id_does hG.wf (hP.mono (hG.le G1 (by simp))).g hn)) (QOk_body _ _ _) (by first | exact .inl rfl | exact .inr ⟨_, _, rfl, rfl⟩) ?_
  rintro _ ⟨_, G2, rfl, hn2, rfl⟩
  clear hn2
  simp only [go_sem, Nat.reduceAdd, Nat.reduceSub, Nat.reduceMul, Nat.reduceEqDiff, Nat.reduceLT, Nat.reduceLeDiff, Nat.reduceBEq, Nat.reduceBNe, Int.reduceLT, Int.reduceLE, Int.reduceEq, Int.reduceAdd, Int.reduceSub, Int.reduceNeg, reduceCtorEq]
  refine plain_ok (N := 3000) (call_does (fun y G => ∃ sv', y = .tuple #[sv', .int .i64 (applyS s (drop5 k)).2] ∧ StaG G sv' (applyS s (drop5 k)).1) rfl rfl (by kernel_rfl) rfl (by simp only [dOk_some, dOk_none, Nat.reduceLT]) (fun G hG => apply_does hG.wf (hP.mono (hG.le G1 (by simp))).g ⟨_, _, _, rfl, Sq.nil, Sq.nil, Sq.nil, drop5_ok k⟩)) (QOk_body _ _ _) (by first | exact .inl rfl | exact .inr ⟨_, _, rfl, rfl⟩) ?_
  rintro _ ⟨_, G3, ⟨sv3, rfl, hs3⟩, hn3, rfl⟩
  clear hn3
  
  by_cases hem : s.vers.length = 0
  · have hnil : s.vers = [] := List.eq_nil_of_length_eq_zero hem
    have q0 : decide ((s.vers.length : Int) = 0) = true := decide_eq_true (by omega)
    have hA : applyS s (drop5 k) = (zeroS, 6) := drop5_none hok (by rw [hnil]; intro v hv; cases hv)
    rw [hA] at hs3 ⊢
    obtain ⟨B1, d1, B2, d2, B3, d3, B4, d4, B5, d5, rfl, hP3⟩ := hs3.form
    simp only [go_sem, Nat.reduceAdd, Nat.reduceSub, Nat.reduceMul, Nat.reduceEqDiff, Nat.reduceLT, Nat.reduceLeDiff, Nat.reduceBEq, Nat.reduceBNe, Int.reduceLT, Int.reduceLE, Int.reduceEq, Int.reduceAdd, Int.reduceSub, Int.reduceNeg, reduceCtorEq, q0]
    intro g2
    refine plain_ok (N := 3000) (call_does (fun v _ => v = .int .i64 0) rfl rfl (by kernel_rfl) rfl (by simp only [dOk_some, dOk_none, Nat.reduceLT]) (fun G hG => by rw [← errSt_ok hok]; exact check_does hG.wf (hP.mono (hG.le G1 (by simp))).g)) (QOk_body _ _ _) (by first | exact .inl rfl | exact .inr ⟨_, _, rfl, rfl⟩) ?_
    rintro _ ⟨_, G4, rfl, hn4, rfl⟩
    clear hn4
    simp only [go_sem, Nat.reduceAdd, Nat.reduceSub, Nat.reduceMul, Nat.reduceEqDiff, Nat.reduceLT, Nat.reduceLeDiff, Nat.reduceBEq, Nat.reduceBNe, Int.reduceLT, Int.reduceLE, Int.reduceEq, Int.reduceAdd, Int.reduceSub, Int.reduceNeg, reduceCtorEq]
    refine fin_ret (G := ⟨Non, w⟩) Try.results6 ?_
    simp only [go_sem, Nat.reduceAdd, Nat.reduceSub, Nat.reduceMul, Nat.reduceEqDiff, Nat.reduceLT, Nat.reduceLeDiff, Nat.reduceBEq, Nat.reduceBNe, Int.reduceLT, Int.reduceLE, Int.reduceEq, Int.reduceAdd, Int.reduceSub, Int.reduceNeg, reduceCtorEq]
    intro aa w' _ hle
    rfl
  · have q0 : decide ((s.vers.length : Int) = 0) = false := decide_eq_false (by omega)
    obtain ⟨i, v, hv, hid⟩ := idS_mem hem n
    rw [← hk] at hid
    subst hid
    obtain ⟨t, hA, hok2, htv, htq, htl⟩ := drop_law hok hv
    have hA2 := drop5_none hok2 htv
    have b3 := (okSt_iff.1 hok2).vers_len
    have b4 := (okSt_iff.1 hok2).queue_len
    rw [hA] at hs3 ⊢
    obtain ⟨B1, d1, B2, d2, B3, d3, B4, d4, B5, d5, rfl, hP3⟩ := hs3.form
    simp only at hP3
    simp only [go_sem, Nat.reduceAdd, Nat.reduceSub, Nat.reduceMul, Nat.reduceEqDiff, Nat.reduceLT, Nat.reduceLeDiff, Nat.reduceBEq, Nat.reduceBNe, Int.reduceLT, Int.reduceLE, Int.reduceEq, Int.reduceAdd, Int.reduceSub, Int.reduceNeg, reduceCtorEq, q0]
    intro g2
    refine loop_ok (N := 3000) (ι := Nat) (fun i => ⟨[(5, .c (.p 0 g1 0)), (7, .c (.v (.int .i64 v.id))), (8, .c (.p 1 g2 0)), (9, .c (.v (.int .i64 0))), (43, .c (.v (.slice B2 t.vers.length d2))), (44, .c (.v (.int .i64 (t.vers.length : Int)))), (45, .c (.v (.int .i64 (i : Int))))],
        [⟨1, g2, 29, [.v (.int .i64 t.next), .v (.int .i64 t.clock), .v (.slice B1 t.bkts.length d1), .v (.slice B2 t.vers.length d2), .v (.slice B3 t.upls.length d3), .v (.slice B4 t.queue.length d4), .v (.slice B5 t.gone.length d5)]⟩, ⟨0, g1, 29, [.v (.int .i64 s.next), .v (.int .i64 s.clock), .v (.slice A1 s.bkts.length c1), .v (.slice A2 s.vers.length c2), .v (.slice A3 s.upls.length c3), .v (.slice A4 s.queue.length c4), .v (.slice A5 s.gone.length c5)]⟩], [], [], [G3, G1, ⟨Non, w⟩], 2⟩)
      (fun i => i ≤ t.vers.length) (fun i => t.vers.length - i) (QOk_body _ _ _) 0 (by omega) (by simp only [go_sem, Nat.reduceAdd, Nat.reduceSub, Nat.reduceMul, Nat.reduceEqDiff, Nat.reduceLT, Nat.reduceLeDiff, Nat.reduceBEq, Nat.reduceBNe, Int.reduceLT, Int.reduceLE, Int.reduceEq, Int.reduceAdd, Int.reduceSub, Int.reduceNeg, reduceCtorEq]; simp) ?_
    intro i hi
    by_cases hlt : i < t.vers.length
    · have q1 : decide ((i : Int) < (t.vers.length : Int)) = true := decide_eq_true (by omega)
      obtain ⟨x, hx⟩ : ∃ x, t.vers[i]? = some x := ⟨_, List.getElem?_eq_getElem hlt⟩
      have q2 : decide (x.id = v.id) = false := decide_eq_false (htv x (List.mem_of_getElem? hx))
      simp only [go_sem, Nat.reduceAdd, Nat.reduceSub, Nat.reduceMul, Nat.reduceEqDiff, Nat.reduceLT, Nat.reduceLeDiff, Nat.reduceBEq, Nat.reduceBNe, Int.reduceLT, Int.reduceLE, Int.reduceEq, Int.reduceAdd, Int.reduceSub, Int.reduceNeg, reduceCtorEq, q1]
      refine plain_ok (N := 3000) (elem_does (R := VerG) (l := t.vers) (m := i) rfl tySlice24 tySize44 rfl rfl (by simp only [dOk_some, dOk_none, Nat.reduceLT]) rfl hx (fun G hG => Sq.mono hP3.vers verG_mono (hG.le G3 (by simp)))) (QOk_body _ _ _) (by first | exact .inl rfl | exact .inr ⟨_, _, rfl, rfl⟩) ?_
      rintro _ ⟨g4, o', cs, G5, hcl, ⟨svx, rfl, hsv, hk1, hk2⟩, rfl⟩
      obtain ⟨Aw, cw, rfl, _⟩ := Sq.form hsv
      simp only [go_sem, Nat.reduceAdd, Nat.reduceSub, Nat.reduceMul, Nat.reduceEqDiff, Nat.reduceLT, Nat.reduceLeDiff, Nat.reduceBEq, Nat.reduceBNe, Int.reduceLT, Int.reduceLE, Int.reduceEq, Int.reduceAdd, Int.reduceSub, Int.reduceNeg, reduceCtorEq, verV]
      intro g5
      simp only [go_sem, Nat.reduceAdd, Nat.reduceSub, Nat.reduceMul, Nat.reduceEqDiff, Nat.reduceLT, Nat.reduceLeDiff, Nat.reduceBEq, Nat.reduceBNe, Int.reduceLT, Int.reduceLE, Int.reduceEq, Int.reduceAdd, Int.reduceSub, Int.reduceNeg, reduceCtorEq, q2]
      refine ⟨by omega, ?_⟩
      refine again_ok (i + 1) hlt (by omega) (by simp only [go_sem, Nat.reduceAdd, Nat.reduceSub, Nat.reduceMul, Nat.reduceEqDiff, Nat.reduceLT, Nat.reduceLeDiff, Nat.reduceBEq, Nat.reduceBNe, Int.reduceLT, Int.reduceLE, Int.reduceEq, Int.reduceAdd, Int.reduceSub, Int.reduceNeg, reduceCtorEq]; simp)
    have hil : i = t.vers.length := by omega
    subst hil
    have q1 : decide ((t.vers.length : Int) < (t.vers.length : Int)) = false := decide_eq_false (by omega)
    simp only [go_sem, Nat.reduceAdd, Nat.reduceSub, Nat.reduceMul, Nat.reduceEqDiff, Nat.reduceLT, Nat.reduceLeDiff, Nat.reduceBEq, Nat.reduceBNe, Int.reduceLT, Int.reduceLE, Int.reduceEq, Int.reduceAdd, Int.reduceSub, Int.reduceNeg, reduceCtorEq, q1]
    refine loop_ok (N := 3000) (ι := Nat) (fun i => ⟨[(5, .c (.p 0 g1 0)), (7, .c (.v (.int .i64 v.id))), (8, .c (.p 1 g2 0)), (9, .c (.v (.int .i64 0))), (55, .c (.v (.slice B4 t.queue.length d4))), (56, .c (.v (.int .i64 (t.queue.length : Int)))), (57, .c (.v (.int .i64 (i : Int))))],
        [⟨1, g2, 29, [.v (.int .i64 t.next), .v (.int .i64 t.clock), .v (.slice B1 t.bkts.length d1), .v (.slice B2 t.vers.length d2), .v (.slice B3 t.upls.length d3), .v (.slice B4 t.queue.length d4), .v (.slice B5 t.gone.length d5)]⟩, ⟨0, g1, 29, [.v (.int .i64 s.next), .v (.int .i64 s.clock), .v (.slice A1 s.bkts.length c1), .v (.slice A2 s.vers.length c2), .v (.slice A3 s.upls.length c3), .v (.slice A4 s.queue.length c4), .v (.slice A5 s.gone.length c5)]⟩], [], [], [G3, G1, ⟨Non, w⟩], 2⟩)
      (fun i => i ≤ t.queue.length) (fun i => t.queue.length - i) (QOk_body _ _ _) 0 (by omega) (by simp only [go_sem, Nat.reduceAdd, Nat.reduceSub, Nat.reduceMul, Nat.reduceEqDiff, Nat.reduceLT, Nat.reduceLeDiff, Nat.reduceBEq, Nat.reduceBNe, Int.reduceLT, Int.reduceLE, Int.reduceEq, Int.reduceAdd, Int.reduceSub, Int.reduceNeg, reduceCtorEq]; simp) ?_
    intro i hi
    by_cases hlt : i < t.queue.length
    · have q1 : decide ((i : Int) < (t.queue.length : Int)) = true := decide_eq_true (by omega)
      obtain ⟨x, hx⟩ : ∃ x, t.queue[i]? = some x := ⟨_, List.getElem?_eq_getElem hlt⟩
      have q2 : decide (x.ver = v.id) = false := decide_eq_false (htq x (List.mem_of_getElem? hx))
      simp only [go_sem, Nat.reduceAdd, Nat.reduceSub, Nat.reduceMul, Nat.reduceEqDiff, Nat.reduceLT, Nat.reduceLeDiff, Nat.reduceBEq, Nat.reduceBNe, Int.reduceLT, Int.reduceLE, Int.reduceEq, Int.reduceAdd, Int.reduceSub, Int.reduceNeg, reduceCtorEq, q1]
      refine plain_ok (N := 3000) (elem_does (R := AskG) (l := t.queue) (m := i) rfl tySlice26 tySize46 rfl rfl (by simp only [dOk_some, dOk_none, Nat.reduceLT]) rfl hx (fun G hG => Sq.mono hP3.queue askG_mono (hG.le G3 (by simp)))) (QOk_body _ _ _) (by first | exact .inl rfl | exact .inr ⟨_, _, rfl, rfl⟩) ?_
      rintro _ ⟨g4, o', cs, G5, hcl, rfl, rfl⟩
      simp only [go_sem, Nat.reduceAdd, Nat.reduceSub, Nat.reduceMul, Nat.reduceEqDiff, Nat.reduceLT, Nat.reduceLeDiff, Nat.reduceBEq, Nat.reduceBNe, Int.reduceLT, Int.reduceLE, Int.reduceEq, Int.reduceAdd, Int.reduceSub, Int.reduceNeg, reduceCtorEq]
      intro g5
      simp only [go_sem, Nat.reduceAdd, Nat.reduceSub, Nat.reduceMul, Nat.reduceEqDiff, Nat.reduceLT, Nat.reduceLeDiff, Nat.reduceBEq, Nat.reduceBNe, Int.reduceLT, Int.reduceLE, Int.reduceEq, Int.reduceAdd, Int.reduceSub, Int.reduceNeg, reduceCtorEq, q2]
      refine ⟨by omega, ?_⟩
      refine again_ok (i + 1) hlt (by omega) (by simp only [go_sem, Nat.reduceAdd, Nat.reduceSub, Nat.reduceMul, Nat.reduceEqDiff, Nat.reduceLT, Nat.reduceLeDiff, Nat.reduceBEq, Nat.reduceBNe, Int.reduceLT, Int.reduceLE, Int.reduceEq, Int.reduceAdd, Int.reduceSub, Int.reduceNeg, reduceCtorEq]; simp)
    have hil : i = t.queue.length := by omega
    subst hil
    have q1 : decide ((t.queue.length : Int) < (t.queue.length : Int)) = false := decide_eq_false (by omega)
    simp only [go_sem, Nat.reduceAdd, Nat.reduceSub, Nat.reduceMul, Nat.reduceEqDiff, Nat.reduceLT, Nat.reduceLeDiff, Nat.reduceBEq, Nat.reduceBNe, Int.reduceLT, Int.reduceLE, Int.reduceEq, Int.reduceAdd, Int.reduceSub, Int.reduceNeg, reduceCtorEq, q1]
    refine plain_ok (N := 3000) (call_does (fun y G => ∃ sv', y = .tuple #[sv', .int .i64 (applyS t (drop5 v.id)).2] ∧ StaG G sv' (applyS t (drop5 v.id)).1) rfl rfl (by kernel_rfl) rfl (by simp only [dOk_some, dOk_none, Nat.reduceLT]) (fun G hG => apply_does hG.wf (hP3.mono (hG.le G3 (by simp))).g ⟨_, _, _, rfl, Sq.nil, Sq.nil, Sq.nil, drop5_ok v.id⟩)) (QOk_body _ _ _) (by first | exact .inl rfl | exact .inr ⟨_, _, rfl, rfl⟩) ?_
    rintro _ ⟨_, G6, ⟨sv6, rfl, hs6⟩, hn6, rfl⟩
    clear hn6
  
    rw [hA2] at hs6 ⊢
    obtain ⟨C1, f1, C2, f2, C3, f3, C4, f4, C5, f5, rfl, hP6⟩ := hs6.form
    have q3 : decide ((t.vers.length : Int) = (s.vers.length : Int) - 1) = true := decide_eq_true (by omega)
    simp only [go_sem, Nat.reduceAdd, Nat.reduceSub, Nat.reduceMul, Nat.reduceEqDiff, Nat.reduceLT, Nat.reduceLeDiff, Nat.reduceBEq, Nat.reduceBNe, Int.reduceLT, Int.reduceLE, Int.reduceEq, Int.reduceAdd, Int.reduceSub, Int.reduceNeg, reduceCtorEq]
    intro g6
    refine ⟨by omega, ?_⟩
    refine fin_ret (G := ⟨Non, w⟩) Try.results6 ?_
    simp only [go_sem, Nat.reduceAdd, Nat.reduceSub, Nat.reduceMul, Nat.reduceEqDiff, Nat.reduceLT, Nat.reduceLeDiff, Nat.reduceBEq, Nat.reduceBNe, Int.reduceLT, Int.reduceLE, Int.reduceEq, Int.reduceAdd, Int.reduceSub, Int.reduceNeg, reduceCtorEq, q3]
    intro aa w' _ hle
    rfl
theorem dropForgets_walk {w : World} (v0 : Value) (l0 : List Raw) (h0 : RawsG ⟨Non, w⟩ v0 l0) (n : Int) (hn : i64 n) : Calls Try.prog 6 #[v0, .int .i64 n] w fun e w' => e = .returned (.bool true) ∧ Below w.heap.size w w' := ret_walk (dropForgets_ret v0 l0 h0 n hn)
end Go.Proofs.Ytefmffpidhdjoaa
