/- 'icehousekeep.ChillOver' returns true for all raw things and numbers. Conditions: none. -/
import Derived.Test.YtefmffpidhdjoaaV9
import Derived.Test.YtefmffpidhdjoaaL3
namespace Go.Proofs.Ytefmffpidhdjoaa
open Go.RowKit
open Nat (reduceAdd reduceSub reduceMul reduceEqDiff reduceLT reduceLeDiff)
set_option linter.unusedSimpArgs false
def passR (k : Int) : Rec := { rec0 13 with n := k }
theorem passR_ok {k : Int} (h : i64 k) : RecOk (passR k) := ⟨Nat.zero_le _, Nat.zero_le _, Nat.zero_le _, Nat.zero_le _, Nat.zero_le _, Nat.zero_le _, Nat.zero_le _, Nat.zero_le _, h⟩
theorem pass_good {s : Sta} (hg : Good s) {k : Int} (h0 : 0 ≤ k) (hc : s.clock + k ≤ 1073741824) : Good { s with clock := s.clock + k } := by
  refine ⟨hg.n1, hg.n2, by show 0 ≤ s.clock + k; have := hg.c1; omega, hc, hg.gone, hg.bkts, fun v hv => ?_, hg.ids, hg.nul, hg.vlen, hg.out, hg.prt, hg.uids, hg.ulen, hg.fr, ⟨hg.queue.out, hg.queue.one, hg.queue.len⟩⟩
  obtain ⟨h1, h2⟩ := hg.snd v hv
  refine ⟨?_, h2⟩
  unfold verOut at h1 ⊢
  simp only [Bool.or_eq_false_iff, decide_eq_false_iff_not] at h1 ⊢
  refine ⟨⟨h1.1.1, h1.1.2⟩, ?_⟩
  have := h1.2
  show ¬ s.clock + k < v.time
  omega
theorem pass_apply {s : Sta} (h : okSt s = true) {k : Int} (h0 : 0 ≤ k) (hc : s.clock + k ≤ 1073741824) : ∃ t, applyS s (passR k) = (t, 0) ∧ okSt t = true ∧ t.vers = s.vers ∧ t.clock = s.clock + k := by
  have hok2 := okSt_good.2 (pass_good (okSt_good.1 h) h0 hc)
  refine ⟨_, ?_, hok2, rfl, rfl⟩
  have hch : changeS s (passR k) = (0, { s with clock := s.clock + k }) := by
    show passS s k = _
    unfold passS
    rw [if_neg (by simp; omega)]
  rw [applyS_of h, hch]
  unfold applyC
  rw [if_pos rfl, if_pos hok2]
theorem idsL_at {p : Ver → Bool} {l : List Ver} {i : Nat} {x : Ver} (hx : l[i]? = some x) (hp : p x = true) : (idsL p l)[(idsL p (l.take i)).length]? = some x.id := by
  have e : idsL p l = idsL p (l.take i) ++ (x.id :: idsL p (l.drop (i + 1))) := by
    have : l = l.take i ++ (x :: l.drop (i + 1)) := by rw [← drop_at hx, List.take_append_drop]
    conv => lhs; rw [this]
    unfold idsL
    rw [List.filter_append, List.filter_cons, if_pos hp, List.map_append]
    rfl
  rw [e, List.getElem?_append_right (Nat.le_refl _), Nat.sub_self]
  rfl
theorem idsL_mono {p q : Ver → Bool} (h : ∀ x, p x = true → q x = true) : ∀ l : List Ver, (idsL p l).length ≤ (idsL q l).length
  | [] => Nat.le_refl _
  | x :: l => by
    have ih := idsL_mono h l
    unfold idsL at ih ⊢
    rw [List.length_map, List.length_map] at ih ⊢
    rw [List.filter_cons, List.filter_cons]
    by_cases e : p x = true
    · rw [if_pos e, if_pos (h x e), List.length_cons, List.length_cons]; omega
    · rw [if_neg e]
      by_cases e2 : q x = true
      · rw [if_pos e2, List.length_cons]; omega
      · rw [if_neg e2]; exact ih
set_option maxRecDepth 100000 in
set_option maxHeartbeats 4000000 in
theorem tells_does {G0 : GW} (hW : G0.Wf) : Calls Try.prog 36 #[] G0.w (Ret G0 fun v _ => v = .bool true) := by
  refine enterS (G := G0) (n := 15) 3000 hW Try.func36 rfl Try.ntmps36 (by simp) ?_
  simp only [go_sem, reduceAdd, reduceSub, reduceMul, reduceEqDiff, reduceLT, reduceLeDiff, Nat.reduceBEq, Nat.reduceBNe, Int.reduceLT, Int.reduceLE, Int.reduceEq, Int.reduceAdd, Int.reduceSub, Int.reduceNeg, reduceCtorEq]
  refine plain_ok (N := 3000) (call_does (fun y G => ∃ fv, y = .tuple #[fv, .int .i64 0] ∧ IntsG G fv (livesS startS 8)) rfl rfl (by kernel_rfl) rfl (dk rfl) (fun G hG => lives_does (s := startS) hG.wf ⟨_, _, _, _, _, rfl, Sq.nil, Sq.nil, Sq.nil, Sq.nil, Sq.nil⟩ start_ok)) (QOk_body _ _ _) (by first | exact .inl rfl | exact .inr ⟨_, _, rfl, rfl⟩) ?_
  rintro _ ⟨_, G1, ⟨fv, rfl, hfv⟩, hn1, rfl⟩
  clear hn1
  obtain ⟨Af, cf, rfl, _⟩ := Sq.form hfv
  have q : decide (((livesS startS 8).length : Int) = 8) = true := by rw [livesS_len]; rfl
  simp only [go_sem, reduceAdd, reduceSub, reduceMul, reduceEqDiff, reduceLT, reduceLeDiff, Nat.reduceBEq, Nat.reduceBNe, Int.reduceLT, Int.reduceLE, Int.reduceEq, Int.reduceAdd, Int.reduceSub, Int.reduceNeg, reduceCtorEq, q]
  refine fin_ret (G := G0) Try.results36 ?_
  simp only [go_sem, reduceAdd, reduceSub, reduceMul, reduceEqDiff, reduceLT, reduceLeDiff, Nat.reduceBEq, Nat.reduceBNe, Int.reduceLT, Int.reduceLE, Int.reduceEq, Int.reduceAdd, Int.reduceSub, Int.reduceNeg, reduceCtorEq]
  intro aa w' _ _
  rfl
set_option maxRecDepth 100000 in
set_option maxHeartbeats 4000000 in
theorem chillOver_ret {w : World} (v0 : Value) (l0 : List Raw) (h0 : RawsG ⟨Non, w⟩ v0 l0) (n : Int) (hn : i64 n) :
    Calls Try.prog 16 #[v0, .int .i64 n] w (Ret ⟨Non, w⟩ fun v _ => v = .bool true) := by
  have hml := max_le
  have hok := stateS_ok l0 40
  have hcl := stateS_clock l0 40
  obtain ⟨A0, c0, rfl, _, _⟩ := ScR.form h0
  refine enterS (G := ⟨Non, w⟩) (n := 99) 3000 (wf_nonL w) Try.func16 rfl Try.ntmps16 (by simp) ?_
  simp only [go_sem, reduceAdd, reduceSub, reduceMul, reduceEqDiff, reduceLT, reduceLeDiff, Nat.reduceBEq, Nat.reduceBNe, Int.reduceLT, Int.reduceLE, Int.reduceEq, Int.reduceAdd, Int.reduceSub, Int.reduceNeg, reduceCtorEq]
  refine plain_ok (N := 3000) (call_does (fun v _ => v = .bool true) rfl rfl (by kernel_rfl) rfl (dk rfl) (fun G hG => tells_does hG.wf)) (QOk_body _ _ _) (by first | exact .inl rfl | exact .inr ⟨_, _, rfl, rfl⟩) ?_
  rintro _ ⟨_, GT, rfl, hnT, rfl⟩
  clear hnT
  simp only [go_sem, reduceAdd, reduceSub, reduceMul, reduceEqDiff, reduceLT, reduceLeDiff, Nat.reduceBEq, Nat.reduceBNe, Int.reduceLT, Int.reduceLE, Int.reduceEq, Int.reduceAdd, Int.reduceSub, Int.reduceNeg, reduceCtorEq]
  refine plain_ok (N := 3000) (call_does (fun v G => ∃ sv ov, v = .tuple #[sv, ov] ∧ StaG G sv (stateS l0 40).1 ∧ RecsG G ov (stateS l0 40).2) rfl rfl (by kernel_rfl) rfl (dk rfl) (fun G hG => state_does (most := 40) hG.wf (ScR.mono h0 rawG_mono (hG.le ⟨Non, w⟩ (by simp))) (by omega))) (QOk_body _ _ _) (by first | exact .inl rfl | exact .inr ⟨_, _, rfl, rfl⟩) ?_
  rintro _ ⟨_, G1, ⟨sv, ov, rfl, hs, ho⟩, hn1, rfl⟩
  clear hn1
  obtain ⟨A1, c1, A2, c2, A3, c3, A4, c4, A5, c5, rfl, hP⟩ := hs.form
  obtain ⟨Ao, co, rfl, _⟩ := Sq.form ho
  obtain ⟨s, hsd⟩ : ∃ s, s = (stateS l0 40).1 := ⟨_, rfl⟩
  obtain ⟨rs, hrd⟩ : ∃ rs, rs = (stateS l0 40).2 := ⟨_, rfl⟩
  rw [← hsd] at hok hcl hP hs ⊢
  rw [← hrd] at ho ⊢
  clear hsd hrd
  have b2 := (okSt_iff.1 hok).vers_len
  have hc0 := (okSt_good.1 hok).c1
  have hkb := pick_bd n 12 (by omega)
  obtain ⟨k, hk⟩ : ∃ k, k = pick n 12 := ⟨_, rfl⟩
  rw [← hk] at hkb
  have hki : i64 k := ⟨by omega, by omega⟩
  obtain ⟨t, hat, hokt, htv, htc⟩ := pass_apply hok hkb.1 (by omega)
  simp only [go_sem, reduceAdd, reduceSub, reduceMul, reduceEqDiff, reduceLT, reduceLeDiff, Nat.reduceBEq, Nat.reduceBNe, Int.reduceLT, Int.reduceLE, Int.reduceEq, Int.reduceAdd, Int.reduceSub, Int.reduceNeg, reduceCtorEq]
  intro g1
  refine plain_ok (N := 3000) (call_does (fun v _ => v = .int .i64 k) rfl rfl (by kernel_rfl) rfl (dk rfl) (fun G hG => by rw [hk]; exact picked_does hG.wf hn (by omega) (by omega))) (QOk_body _ _ _) (by first | exact .inl rfl | exact .inr ⟨_, _, rfl, rfl⟩) ?_
  rintro _ ⟨_, G2, rfl, hn2, rfl⟩
  clear hn2
  simp only [go_sem, reduceAdd, reduceSub, reduceMul, reduceEqDiff, reduceLT, reduceLeDiff, Nat.reduceBEq, Nat.reduceBNe, Int.reduceLT, Int.reduceLE, Int.reduceEq, Int.reduceAdd, Int.reduceSub, Int.reduceNeg, reduceCtorEq]
  refine plain_ok (N := 3000) (call_does (fun y G => ∃ sv', y = .tuple #[sv', .int .i64 (applyS s (passR k)).2] ∧ StaG G sv' (applyS s (passR k)).1) rfl rfl (by kernel_rfl) rfl (dk rfl) (fun G hG => apply_does hG.wf (hP.mono (hG.le G1 (by simp))).g ⟨_, _, _, rfl, Sq.nil, Sq.nil, Sq.nil, passR_ok hki⟩)) (QOk_body _ _ _) (by first | exact .inl rfl | exact .inr ⟨_, _, rfl, rfl⟩) ?_
  rintro _ ⟨_, G3, ⟨sv3, rfl, hs3⟩, hn3, rfl⟩
  clear hn3
  
  rw [hat] at hs3 ⊢
  obtain ⟨B1, d1, B2, d2, B3, d3, B4, d4, B5, d5, rfl, hP3⟩ := hs3.form
  simp only [go_sem, reduceAdd, reduceSub, reduceMul, reduceEqDiff, reduceLT, reduceLeDiff, Nat.reduceBEq, Nat.reduceBNe, Int.reduceLT, Int.reduceLE, Int.reduceEq, Int.reduceAdd, Int.reduceSub, Int.reduceNeg, reduceCtorEq]
  intro g3
  refine plain_ok (N := 3000) (call_does (fun y G => ∃ fv, y = .tuple #[fv, .int .i64 0] ∧ IntsG G fv (idsL (chillB t.clock) t.vers)) rfl rfl (by kernel_rfl) rfl (dk rfl) (fun G hG => chill_does hG.wf (hP3.mono (hG.le G3 (by simp))).g hokt)) (QOk_body _ _ _) (by first | exact .inl rfl | exact .inr ⟨_, _, rfl, rfl⟩) ?_
  rintro _ ⟨_, G4, ⟨fv, rfl, hfv⟩, hn4, rfl⟩
  clear hn4
  obtain ⟨Af, cf, rfl, _⟩ := Sq.form hfv
  simp only [go_sem, reduceAdd, reduceSub, reduceMul, reduceEqDiff, reduceLT, reduceLeDiff, Nat.reduceBEq, Nat.reduceBNe, Int.reduceLT, Int.reduceLE, Int.reduceEq, Int.reduceAdd, Int.reduceSub, Int.reduceNeg, reduceCtorEq]
  refine plain_ok (N := 3000) (call_does (fun y G => ∃ fv, y = .tuple #[fv, .int .i64 0] ∧ IntsG G fv (idsL (chillB s.clock) s.vers)) rfl rfl (by kernel_rfl) rfl (dk rfl) (fun G hG => chill_does hG.wf (hP.mono (hG.le G1 (by simp))).g hok)) (QOk_body _ _ _) (by first | exact .inl rfl | exact .inr ⟨_, _, rfl, rfl⟩) ?_
  rintro _ ⟨_, G5, ⟨fw, rfl, hfw⟩, hn5, rfl⟩
  clear hn5
  obtain ⟨Aw, cw, rfl, _⟩ := Sq.form hfw
  have hmono : (idsL (chillB s.clock) s.vers).length ≤ (idsL (chillB t.clock) t.vers).length := by
    rw [htv]
    refine idsL_mono (fun x hx => ?_) _
    unfold chillB at hx ⊢
    simp only [Bool.and_eq_true, decide_eq_true_eq] at hx ⊢
    omega
  have hil := idsL_len (chillB t.clock) t.vers
  obtain ⟨p, hp⟩ : ∃ p, p = chillB t.clock := ⟨_, rfl⟩
  obtain ⟨m, hm⟩ : ∃ m, m = (idsL (chillB s.clock) s.vers).length := ⟨_, rfl⟩
  rw [← hp] at hfv hmono hil ⊢
  rw [← hm] at hmono ⊢
  clear hm
  have b3 : t.vers.length ≤ 40 := by rw [htv]; exact b2
  have q0 : decide (((idsL p t.vers).length : Int) < (m : Int)) = false := decide_eq_false (by omega)
  simp only [go_sem, reduceAdd, reduceSub, reduceMul, reduceEqDiff, reduceLT, reduceLeDiff, Nat.reduceBEq, Nat.reduceBNe, Int.reduceLT, Int.reduceLE, Int.reduceEq, Int.reduceAdd, Int.reduceSub, Int.reduceNeg, reduceCtorEq, q0]
  refine loop_ok (N := 3000) (ι := Nat) (fun i => ⟨[(5, .c (.p 0 g1 0)), (7, .c (.v (.int .i64 k))), (10, .c (.v (.slice Af (idsL p t.vers).length cf))), (14, .c (.v (.int .i64 ((idsL p (t.vers.take i)).length : Int)))), (61, .c (.v (.slice B2 t.vers.length d2))), (62, .c (.v (.int .i64 (t.vers.length : Int)))), (63, .c (.v (.int .i64 (i : Int))))],
      [⟨0, g1, 29, [.v (.int .i64 s.next), .v (.int .i64 s.clock), .v (.slice A1 s.bkts.length c1), .v (.slice A2 s.vers.length c2), .v (.slice A3 s.upls.length c3), .v (.slice A4 s.queue.length c4), .v (.slice A5 s.gone.length c5)]⟩], [], [], [G4, G3, G1, ⟨Non, w⟩], 2⟩)
    (fun i => i ≤ t.vers.length)
    (fun i => t.vers.length - i) (QOk_body _ _ _) 0 (by omega) (by simp only [go_sem, reduceAdd, reduceSub, reduceMul, reduceEqDiff, reduceLT, reduceLeDiff, Nat.reduceBEq, Nat.reduceBNe, Int.reduceLT, Int.reduceLE, Int.reduceEq, Int.reduceAdd, Int.reduceSub, Int.reduceNeg, reduceCtorEq]; simp [idsL]) ?_
  rintro i hi
  have hfl := idsL_len p (t.vers.take i)
  rw [List.length_take] at hfl
  by_cases hlt : i < t.vers.length
  · have q : decide ((i : Int) < (t.vers.length : Int)) = true := decide_eq_true (by omega)
    obtain ⟨x, hx⟩ : ∃ x, t.vers[i]? = some x := ⟨_, List.getElem?_eq_getElem hlt⟩
    have hfs := idsL_succ (p := p) hx
    simp only [go_sem, reduceAdd, reduceSub, reduceMul, reduceEqDiff, reduceLT, reduceLeDiff, Nat.reduceBEq, Nat.reduceBNe, Int.reduceLT, Int.reduceLE, Int.reduceEq, Int.reduceAdd, Int.reduceSub, Int.reduceNeg, reduceCtorEq, q]
    refine plain_ok (N := 3000) (elem_does (R := VerG) (l := t.vers) (m := i) rfl tySlice24 tySize44 rfl rfl (dk rfl) rfl hx (fun G hG => Sq.mono hP3.vers verG_mono (hG.le G3 (by simp)))) (QOk_body _ _ _) (by first | exact .inl rfl | exact .inr ⟨_, _, rfl, rfl⟩) ?_
    rintro _ ⟨g4, o', cs, G6, hcl6, ⟨svx, rfl, hsv, hk1, hk2⟩, rfl⟩
    obtain ⟨Ax, cx, rfl, _⟩ := Sq.form hsv
    simp only [go_sem, reduceAdd, reduceSub, reduceMul, reduceEqDiff, reduceLT, reduceLeDiff, Nat.reduceBEq, Nat.reduceBNe, Int.reduceLT, Int.reduceLE, Int.reduceEq, Int.reduceAdd, Int.reduceSub, Int.reduceNeg, reduceCtorEq, verV]
    intro g5
    refine ⟨by omega, ?_⟩
    refine Wb_mk (fun hc => ?_) (fun hc => ?_)
    · have hpx : p x = true := by rw [hp]; unfold chillB; rw [htc]; exact hc
      rw [hpx, if_pos rfl] at hfs
      have hfn : (idsL p (t.vers.take (i + 1))).length = (idsL p (t.vers.take i)).length + 1 := by rw [hfs, List.length_append]; rfl
      have hia := idsL_at hx hpx
      have hil2 := (List.getElem?_eq_some_iff.1 hia).1
      have q2 : decide (((idsL p (t.vers.take i)).length : Int) = ((idsL p t.vers).length : Int)) = false := decide_eq_false (by omega)
      have q3 : decide (x.id = x.id) = true := decide_eq_true rfl
      refine draw_ok (N := 3000) (.take 0 (.take 1 (.take 2 (.take 3 (.take 4 (.take 5 (.take 6 (.take 9 (.take 10 (.alt 7 (.alt 8 (.take 11 (.take 12 .done)) .last) .last)))))))))) [] (QOk_body _ _ _) follows_mixed (by kernel_rfl) (by kernel_rfl) ?_
      simp only [go_sem, reduceAdd, reduceSub, reduceMul, reduceEqDiff, reduceLT, reduceLeDiff, Nat.reduceBEq, Nat.reduceBNe, Int.reduceLT, Int.reduceLE, Int.reduceEq, Int.reduceAdd, Int.reduceSub, Int.reduceNeg, reduceCtorEq, q2]
      refine any_ok2 (N := 3000) (elem_does (R := IntG) (l := idsL p t.vers) (m := (idsL p (t.vers.take i)).length) rfl tySlice27 tySize3 rfl rfl (dk rfl) rfl hia (fun G hG => IntsG.mono hfv (hG.le G4 (by simp)))) (QOk_body _ _ _) rfl (by first | exact .inl rfl | exact .inr ⟨_, _, rfl, rfl⟩) (by intro _ hK; first | (obtain ⟨_, _, _, _, rfl⟩ := hK; exact ⟨rfl, fun _ h => h⟩) | (obtain ⟨_, _, rfl⟩ := hK; exact ⟨rfl, fun _ h => h⟩) | (obtain ⟨_, _, _, _, _, _, rfl⟩ := hK; exact ⟨rfl, fun _ h => List.mem_cons_of_mem _ h⟩) | (obtain ⟨_, _, _, _, _, _, _, rfl⟩ := hK; exact ⟨rfl, fun _ h => List.mem_cons_of_mem _ h⟩) | (obtain rfl := hK; exact ⟨rfl, fun _ h => h⟩)) ?_
      rintro _ ⟨g6, o6, cs, G7, hcl7, hcs, rfl⟩
      obtain rfl := hcs
      simp only [go_sem, reduceAdd, reduceSub, reduceMul, reduceEqDiff, reduceLT, reduceLeDiff, Nat.reduceBEq, Nat.reduceBNe, Int.reduceLT, Int.reduceLE, Int.reduceEq, Int.reduceAdd, Int.reduceSub, Int.reduceNeg, reduceCtorEq, q3]
      refine ⟨by omega, ?_⟩
      refine ⟨by omega, ?_⟩
      refine again_ok (i + 1) hlt (by omega) (by rw [hfn]; simp only [go_sem, reduceAdd, reduceSub, reduceMul, reduceEqDiff, reduceLT, reduceLeDiff, Nat.reduceBEq, Nat.reduceBNe, Int.reduceLT, Int.reduceLE, Int.reduceEq, Int.reduceAdd, Int.reduceSub, Int.reduceNeg, reduceCtorEq]; simp)
    · have hpx : p x = false := by rw [hp]; unfold chillB; rw [htc]; exact hc
      rw [hpx, if_neg (by simp), List.append_nil] at hfs
      refine ⟨by omega, ?_⟩
      refine again_ok (i + 1) hlt (by omega) (by rw [hfs]; simp only [go_sem, reduceAdd, reduceSub, reduceMul, reduceEqDiff, reduceLT, reduceLeDiff, Nat.reduceBEq, Nat.reduceBNe, Int.reduceLT, Int.reduceLE, Int.reduceEq, Int.reduceAdd, Int.reduceSub, Int.reduceNeg, reduceCtorEq]; simp)
  have hil : i = t.vers.length := by omega
  subst hil
  have q : decide ((t.vers.length : Int) < (t.vers.length : Int)) = false := decide_eq_false (by omega)
  rw [List.take_length]
  have q2 : decide (((idsL p t.vers).length : Int) = ((idsL p t.vers).length : Int)) = true := decide_eq_true rfl
  simp only [go_sem, reduceAdd, reduceSub, reduceMul, reduceEqDiff, reduceLT, reduceLeDiff, Nat.reduceBEq, Nat.reduceBNe, Int.reduceLT, Int.reduceLE, Int.reduceEq, Int.reduceAdd, Int.reduceSub, Int.reduceNeg, reduceCtorEq, q, q2]
  refine fin_ret (G := ⟨Non, w⟩) Try.results16 ?_
  simp only [go_sem, reduceAdd, reduceSub, reduceMul, reduceEqDiff, reduceLT, reduceLeDiff, Nat.reduceBEq, Nat.reduceBNe, Int.reduceLT, Int.reduceLE, Int.reduceEq, Int.reduceAdd, Int.reduceSub, Int.reduceNeg, reduceCtorEq, q2]
  intro aa w' _ hle
  rfl
theorem chillOver_walk {w : World} (v0 : Value) (l0 : List Raw) (h0 : RawsG ⟨Non, w⟩ v0 l0) (n : Int) (hn : i64 n) : Calls Try.prog 16 #[v0, .int .i64 n] w fun e w' => e = .returned (.bool true) ∧ Below w.heap.size w w' := ret_walk (chillOver_ret v0 l0 h0 n hn)
end Go.Proofs.Ytefmffpidhdjoaa
