/- 'icehousekeep.FreezeOld' returns true for all raw things. Conditions: none. -/
import Derived.Test.YtefmffpidhdjoaaGreatV15
import Derived.Test.YtefmffpidhdjoaaGreatV1
namespace Go.Proofs.YtefmffpidhdjoaaGreat
open Go.RowKit
set_option linter.unusedSimpArgs false
theorem idsL_at {p : Ver → Bool} {l : List Ver} {i : Nat} {x : Ver} (hx : l[i]? = some x) (hp : p x = true) : (idsL p l)[(idsL p (l.take i)).length]? = some x.id := by
  have e : idsL p l = idsL p (l.take i) ++ (x.id :: idsL p (l.drop (i + 1))) := by
    have : l = l.take i ++ (x :: l.drop (i + 1)) := by rw [← drop_at hx, List.take_append_drop]
    conv => lhs; rw [this]
    unfold idsL
    rw [List.filter_append, List.filter_cons, if_pos hp, List.map_append]
    rfl
  rw [e, List.getElem?_append_right (Nat.le_refl _), Nat.sub_self]
  rfl
set_option maxRecDepth 100000 in
set_option maxHeartbeats 4000000 in
theorem tells_does {G0 : GW} (hW : G0.Wf) : Calls Tryz.prog 9 #[] G0.w (Ret G0 fun v _ => v = .bool true) := by
  refine enterS (G := G0) (n := 15) 3000 hW Tryz.func9 rfl Tryz.ntmps9 (by simp) ?_
  simp only [go_sem, simprocAttr]
  refine plain_ok (N := 3000) (call_does (fun y G => ∃ fv, y = .tuple #[fv, .int .i64 0] ∧ IntsG G fv (livesS startS 8)) rfl rfl (by kernel_rfl) rfl (dk rfl) (fun G hG => lives_does (s := startS) hG.wf ⟨_, _, _, _, _, rfl, Sq.nil, Sq.nil, Sq.nil, Sq.nil, Sq.nil⟩ start_ok)) (QOk_body _ _ _) (by first | exact .inl rfl | exact .inr ⟨_, _, rfl, rfl⟩) ?_
  rintro _ ⟨_, G1, ⟨fv, rfl, hfv⟩, hn1, rfl⟩
  clear hn1
  obtain ⟨Af, cf, rfl, _⟩ := Sq.form hfv
  have q : decide (((livesS startS 8).length : Int) = 8) = true := by rw [livesS_len]; rfl
  simp only [go_sem, simprocAttr, q]
  refine fin_ret (G := G0) Tryz.results9 ?_
  simp only [go_sem, simprocAttr]
  intro aa w' _ _
  rfl
def okF (s : Sta) (v : Ver) (b : Bkt) : Bool := decide (v.tier = 1) && okB s v b b.rule.freeze
def okD (s : Sta) (v : Ver) (b : Bkt) : Bool := okB s v b b.rule.drop
theorem okB_name {s : Sta} {v : Ver} {b : Bkt} {n : Int} (h : okB s v b n = true) : b.name = v.bucket := by
  unfold okB at h
  simp only [Bool.and_eq_true, decide_eq_true_eq] at h
  exact h.1
theorem okF_name {s : Sta} {v : Ver} {b : Bkt} (h : okF s v b = true) : b.name = v.bucket := okB_name (Bool.and_eq_true_iff.1 h).2
theorem cnt_none {l : List Bkt} (h : bktsB l = true) {p : Bkt → Bool} {nm : ByteArray} (hp : ∀ b, p b = true → b.name = nm) {m : Nat} {b : Bkt} (hb : l[m]? = some b) (hpb : p b = true) : ((l.take m).filter p).length = 0 := by
  rw [List.length_eq_zero_iff, List.filter_eq_nil_iff]
  intro c hc hpc
  obtain ⟨j, hj, rfl⟩ := List.mem_take_iff_getElem.1 hc
  have := bkt_uni h hb (List.getElem?_eq_getElem (show j < l.length by omega)) ((hp b hpb).trans (hp _ hpc).symm)
  omega
theorem cnt_succ {p : Bkt → Bool} {l : List Bkt} {m : Nat} {b : Bkt} (hb : l[m]? = some b) : ((l.take (m + 1)).filter p).length = ((l.take m).filter p).length + if p b = true then 1 else 0 := by
  rw [take_succ_filter hb, List.length_append]
  cases p b <;> rfl
theorem cnt_all {l : List Bkt} (h : bktsB l = true) {p : Bkt → Bool} {nm : ByteArray} (hp : ∀ b, p b = true → b.name = nm) : (l.filter p).length = if l.any p = true then 1 else 0 := by
  cases ha : l.any p with
  | false =>
    rw [if_neg (by simp), List.length_eq_zero_iff, List.filter_eq_nil_iff]
    intro c hc hpc
    rw [List.any_eq_false] at ha
    exact ha c hc hpc
  | true =>
    rw [if_pos rfl]
    obtain ⟨b, hb, hpb⟩ := List.any_eq_true.1 ha
    obtain ⟨m, hm⟩ := List.mem_iff_getElem?.1 hb
    have h1 := cnt_none h hp hm hpb
    have e : l = l.take m ++ (b :: l.drop (m + 1)) := by rw [← drop_at hm, List.take_append_drop]
    have h2 : ((l.drop (m + 1)).filter p).length = 0 := by
      rw [List.length_eq_zero_iff, List.filter_eq_nil_iff]
      intro c hc hpc
      obtain ⟨j, hj⟩ := List.mem_iff_getElem?.1 hc
      rw [List.getElem?_drop] at hj
      have := bkt_uni h hm hj ((hp b hpb).trans (hp _ hpc).symm)
      omega
    rw [e, List.filter_append, List.filter_cons, if_pos hpb, List.length_append, List.length_cons, h1, h2]
theorem okF_any (s : Sta) (v : Ver) : s.bkts.any (okF s v) = frB s v := by
  unfold frB oldB
  cases hq : decide (v.tier = 1) with
  | true =>
    rw [Bool.true_and]
    exact congrArg _ (funext fun b => by simp [okF, hq])
  | false =>
    rw [Bool.false_and, List.any_eq_false]
    intro b _
    simp [okF, hq]
theorem cntF {s : Sta} (h : bktsB s.bkts = true) (v : Ver) : (s.bkts.filter (okF s v)).length = if frB s v = true then 1 else 0 := by rw [cnt_all h (fun b hb => okF_name hb), okF_any]
theorem cntD {s : Sta} (h : bktsB s.bkts = true) (v : Ver) : (s.bkts.filter (okD s v)).length = if drB s v = true then 1 else 0 := cnt_all h (fun b hb => okB_name hb)
theorem idsL_len1 {p : Ver → Bool} {l : List Ver} {i : Nat} {x : Ver} (hx : l[i]? = some x) : (idsL p (l.take (i + 1))).length = (idsL p (l.take i)).length + if p x = true then 1 else 0 := by
  rw [idsL_succ hx, List.length_append]
  cases p x <;> rfl
theorem okF_is {s : Sta} {v : Ver} {b : Bkt} (h1 : decide (b.name = v.bucket) = true) (h2 : prefB v.key b.rule.pre = true) : okF s v b = ((decide (0 ≤ b.rule.freeze) && decide (v.tier = 1)) && decide (b.rule.freeze ≤ s.clock - v.time)) := by
  unfold okF okB
  rw [h1, h2]
  cases decide (v.tier = 1) <;> cases decide (0 ≤ b.rule.freeze) <;> cases decide (b.rule.freeze ≤ s.clock - v.time) <;> rfl
theorem okD_is {s : Sta} {v : Ver} {b : Bkt} (h1 : decide (b.name = v.bucket) = true) (h2 : prefB v.key b.rule.pre = true) : okD s v b = (decide (0 ≤ b.rule.drop) && decide (b.rule.drop ≤ s.clock - v.time)) := by
  unfold okD okB
  rw [h1, h2]
  cases decide (0 ≤ b.rule.drop) <;> cases decide (b.rule.drop ≤ s.clock - v.time) <;> rfl
theorem ok_no {s : Sta} {v : Ver} {b : Bkt} (h : decide (b.name = v.bucket) = false ∨ prefB v.key b.rule.pre = false) : okF s v b = false ∧ okD s v b = false := by
  unfold okF okD okB
  rcases h with h | h <;> rw [h] <;> simp
set_option maxRecDepth 100000 in
set_option maxHeartbeats 8000000 in
theorem freezeOld_ret {w : World} (v0 : Value) (l0 : List Raw) (h0 : RawsG ⟨Non, w⟩ v0 l0) :
    Calls Tryz.prog 3 #[v0] w (Ret ⟨Non, w⟩ fun v _ => v = .bool true) := by
  have hml := max_le
  have hok := stateS_ok l0 40
  obtain ⟨A0, c0, rfl, _, _⟩ := ScR.form h0
  refine enterS (G := ⟨Non, w⟩) (n := 153) 3000 (wf_nonL w) Tryz.func3 rfl Tryz.ntmps3 (by simp) ?_
  simp only [go_sem, simprocAttr]
  refine plain_ok (N := 3000) (call_does (fun v _ => v = .bool true) rfl rfl (by kernel_rfl) rfl (dk rfl) (fun G hG => tells_does hG.wf)) (QOk_body _ _ _) (by first | exact .inl rfl | exact .inr ⟨_, _, rfl, rfl⟩) ?_
  rintro _ ⟨_, GT, rfl, hnT, rfl⟩
  clear hnT
  simp only [go_sem, simprocAttr]
  refine plain_ok (N := 3000) (call_does (fun v G => ∃ sv ov, v = .tuple #[sv, ov] ∧ StaG G sv (stateS l0 40).1 ∧ RecsG G ov (stateS l0 40).2) rfl rfl (by kernel_rfl) rfl (dk rfl) (fun G hG => state_does (most := 40) hG.wf (ScR.mono h0 rawG_mono (hG.le ⟨Non, w⟩ (by simp))) (by omega))) (QOk_body _ _ _) (by first | exact .inl rfl | exact .inr ⟨_, _, rfl, rfl⟩) ?_
  rintro _ ⟨_, G1, ⟨sv, ov, rfl, hs, ho⟩, hn1, rfl⟩
  clear hn1
  obtain ⟨A1, c1, A2, c2, A3, c3, A4, c4, A5, c5, rfl, hP⟩ := hs.form
  obtain ⟨Ao, co, rfl, _⟩ := Sq.form ho
  obtain ⟨s, hsd⟩ : ∃ s, s = (stateS l0 40).1 := ⟨_, rfl⟩
  obtain ⟨rs, hrd⟩ : ∃ rs, rs = (stateS l0 40).2 := ⟨_, rfl⟩
  rw [← hsd] at hok hP hs ⊢
  rw [← hrd] at ho ⊢
  clear hsd hrd
  have hgd := okSt_good.1 hok
  have b2 := hgd.vlen
  have hc1 := hgd.c1
  have hc2 := hgd.c2
  obtain ⟨_, _, eb, hbl1, hbl2⟩ := Sq.form hP.bkts
  cases eb
  simp only [go_sem, simprocAttr]
  intro g1
  refine plain_ok (N := 3000) (call_does (fun y G => ∃ fv, y = .tuple #[fv, .int .i64 0] ∧ IntsG G fv (idsL (frB s) s.vers)) rfl rfl (by kernel_rfl) rfl (dk rfl) (fun G hG => tFreeze_does hG.wf (hP.mono (hG.le G1 (by simp))).g hok)) (QOk_body _ _ _) (by first | exact .inl rfl | exact .inr ⟨_, _, rfl, rfl⟩) ?_
  rintro _ ⟨_, G4, ⟨fv, rfl, hfv⟩, hn4, rfl⟩
  clear hn4
  obtain ⟨Af, cf, rfl, _⟩ := Sq.form hfv
  simp only [go_sem, simprocAttr]
  refine plain_ok (N := 3000) (call_does (fun y G => ∃ fv, y = .tuple #[fv, .int .i64 0] ∧ IntsG G fv (idsL (drB s) s.vers)) rfl rfl (by kernel_rfl) rfl (dk rfl) (fun G hG => tDrop_does hG.wf (hP.mono (hG.le G1 (by simp))).g hok)) (QOk_body _ _ _) (by first | exact .inl rfl | exact .inr ⟨_, _, rfl, rfl⟩) ?_
  rintro _ ⟨_, G5, ⟨fw, rfl, hfw⟩, hn5, rfl⟩
  clear hn5
  obtain ⟨Aw, cw, rfl, _⟩ := Sq.form hfw
  have hilF := idsL_len (frB s) s.vers
  have hilD := idsL_len (drB s) s.vers
  simp only [go_sem, simprocAttr]
  refine loop_ok (N := 3000) (ι := Nat) (fun i => ⟨[(3, .c (.p 0 g1 0)), (5, .c (.v (.slice Af (idsL (frB s) s.vers).length cf))), (7, .c (.v (.slice Aw (idsL (drB s) s.vers).length cw))), (9, .c (.v (.int .i64 ((idsL (frB s) (s.vers.take i)).length : Int)))), (10, .c (.v (.int .i64 ((idsL (drB s) (s.vers.take i)).length : Int)))), (40, .c (.v (.slice A2 s.vers.length c2))), (41, .c (.v (.int .i64 (s.vers.length : Int)))), (42, .c (.v (.int .i64 (i : Int))))],
      [⟨0, g1, 30, [.v (.int .i64 s.next), .v (.int .i64 s.clock), .v (.slice A1 s.bkts.length c1), .v (.slice A2 s.vers.length c2), .v (.slice A3 s.upls.length c3), .v (.slice A4 s.queue.length c4), .v (.slice A5 s.gone.length c5)]⟩], [], [], [G5, G4, G1, ⟨Non, w⟩], 1⟩)
    (fun i => i ≤ s.vers.length)
    (fun i => s.vers.length - i) (QOk_body _ _ _) 0 (by omega) (by simp only [go_sem, simprocAttr]; simp [idsL]) ?_
  rintro i hi
  have hfF := idsL_len (frB s) (s.vers.take i)
  have hfD := idsL_len (drB s) (s.vers.take i)
  rw [List.length_take] at hfF hfD
  by_cases hlt : i < s.vers.length
  · have q : decide ((i : Int) < (s.vers.length : Int)) = true := decide_eq_true (by omega)
    obtain ⟨v, hv⟩ : ∃ v, s.vers[i]? = some v := ⟨_, List.getElem?_eq_getElem hlt⟩
    obtain ⟨_, ht0, ht1⟩ := ver_bkt hgd (List.mem_of_getElem? hv)
    have hsF := idsL_len1 (p := frB s) hv
    have hsD := idsL_len1 (p := drB s) hv
    have hcF := cntF hgd.bkts v
    have hcD := cntD hgd.bkts v
    obtain ⟨LF, hLF⟩ : ∃ LF, LF = (idsL (frB s) (s.vers.take i)).length := ⟨_, rfl⟩
    obtain ⟨LD, hLD⟩ : ∃ LD, LD = (idsL (drB s) (s.vers.take i)).length := ⟨_, rfl⟩
    rw [← hLF] at hsF hfF ⊢
    rw [← hLD] at hsD hfD ⊢
    simp only [go_sem, simprocAttr, q]
    refine plain_ok (N := 3000) (elem_does (R := VerG) (l := s.vers) (m := i) rfl tySlice25 tySize38 rfl rfl (dk rfl) rfl hv (fun G hG => Sq.mono hP.vers verG_mono (hG.le G1 (by simp)))) (QOk_body _ _ _) (by first | exact .inl rfl | exact .inr ⟨_, _, rfl, rfl⟩) ?_
    rintro _ ⟨g4, o', cs, G6, hcl6, ⟨svx, rfl, hsv, hk1, hk2⟩, rfl⟩
    obtain ⟨Ax, cx, rfl, _⟩ := Sq.form hsv
    simp only [go_sem, simprocAttr, verV]
    intro g5
    refine loop_ok (N := 3000) (ι := Nat) (fun m => ⟨[(3, .c (.p 0 g1 0)), (5, .c (.v (.slice Af (idsL (frB s) s.vers).length cf))), (7, .c (.v (.slice Aw (idsL (drB s) s.vers).length cw))), (9, .c (.v (.int .i64 ((LF + ((s.bkts.take m).filter (okF s v)).length : Nat) : Int)))), (10, .c (.v (.int .i64 ((LD + ((s.bkts.take m).filter (okD s v)).length : Nat) : Int)))), (40, .c (.v (.slice A2 s.vers.length c2))), (41, .c (.v (.int .i64 (s.vers.length : Int)))), (42, .c (.v (.int .i64 (i : Int)))), (12, .c (.p 2 g5 0)), (47, .c (.v (.slice A1 s.bkts.length c1))), (48, .c (.v (.int .i64 (s.bkts.length : Int)))), (49, .c (.v (.int .i64 (m : Int))))],
        [⟨2, g5, 38, (verV v (.slice Ax v.secs.length cx)).map .v⟩, ⟨0, g1, 30, [.v (.int .i64 s.next), .v (.int .i64 s.clock), .v (.slice A1 s.bkts.length c1), .v (.slice A2 s.vers.length c2), .v (.slice A3 s.upls.length c3), .v (.slice A4 s.queue.length c4), .v (.slice A5 s.gone.length c5)]⟩], [], [], [G5, G4, G1, ⟨Non, w⟩], 3⟩)
      (fun m => m ≤ s.bkts.length)
      (fun m => s.bkts.length - m) (QOk_body _ _ _) 0 (Nat.zero_le _) (by simp only [go_sem, simprocAttr]; simp [verV]) ?_
    rintro m hm
    by_cases hltm : m < s.bkts.length
    · have qm : decide ((m : Int) < (s.bkts.length : Int)) = true := decide_eq_true (by omega)
      obtain ⟨b, hb⟩ : ∃ b, s.bkts[m]? = some b := ⟨_, List.getElem?_eq_getElem hltm⟩
      have hnF := cnt_succ (p := okF s v) hb
      have hnD := cnt_succ (p := okD s v) hb
      have hzF := fun h => cnt_none hgd.bkts (p := okF s v) (fun b hb => okF_name hb) hb h
      have hzD := fun h => cnt_none hgd.bkts (p := okD s v) (fun b hb => okB_name hb) hb h
      have hbF : ((s.bkts.take m).filter (okF s v)).length ≤ m := Nat.le_trans (List.length_filter_le _ _) (by rw [List.length_take]; omega)
      have hbD : ((s.bkts.take m).filter (okD s v)).length ≤ m := Nat.le_trans (List.length_filter_le _ _) (by rw [List.length_take]; omega)
      obtain ⟨KF, hKF⟩ : ∃ KF, KF = ((s.bkts.take m).filter (okF s v)).length := ⟨_, rfl⟩
      obtain ⟨KD, hKD⟩ : ∃ KD, KD = ((s.bkts.take m).filter (okD s v)).length := ⟨_, rfl⟩
      rw [← hKF] at hnF hzF hbF ⊢
      rw [← hKD] at hnD hzD hbD ⊢
      simp only [go_sem, simprocAttr, qm]
      refine plain_ok (N := 3000) (elem_does (R := BktG) (l := s.bkts) (m := m) rfl tySlice24 tySize42 rfl rfl (dk rfl) rfl hb (fun G hG => (hP.mono (hG.le G1 (by simp))).bkts)) (QOk_body _ _ _) (by first | exact .inl rfl | exact .inr ⟨_, _, rfl, rfl⟩) ?_
      rintro _ ⟨g6, o6, cs, G7, hcl, ⟨rfl, hbz, hpz⟩, rfl⟩
      simp only [go_sem, simprocAttr, verV, List.map_cons, List.map_nil]
      intro g7 g8
      refine draw_ok (N := 3000) (.take 0 (.take 1 (.take 2 (.take 3 (.take 4 (.take 5 (.take 6 (.take 7 (.take 8 (.take 9 (.take 10 (.take 11 (.take 12 (.take 13 (.take 14 (.take 15 (.take 16 (.take 17 (.take 18 (.take 19 (.take 20 (.take 21 (.take 22 (.take 23 (.take 24 .done))))))))))))))))))))))))) [] (QOk_body _ _ _) follows_mixed (by kernel_rfl) (by kernel_rfl) ?_
      by_cases hnm : b.name = v.bucket
      · have qn : decide (b.name = v.bucket) = true := decide_eq_true hnm
        have qN : (b.name.toList == v.bucket.toList) = true := (strEq _ _).trans qn
        by_cases hsz : (v.key.size : Int) < (b.rule.pre.size : Int)
        · have qs : decide ((v.key.size : Int) < (b.rule.pre.size : Int)) = true := decide_eq_true hsz
          have hpf : prefB v.key b.rule.pre = false := by unfold prefB; rw [decide_eq_false (by omega)]; rfl
          obtain ⟨z1, z2⟩ := ok_no (s := s) (v := v) (b := b) (.inr hpf)
          rw [z1, if_neg (by simp), Nat.add_zero] at hnF
          rw [z2, if_neg (by simp), Nat.add_zero] at hnD
          simp only [go_sem, simprocAttr, qN, qs, Bool.not_true]
          refine ⟨by omega, ?_⟩
          refine again_ok (m + 1) hltm (by omega) (by rw [hnF, hnD]; simp only [go_sem, simprocAttr, verV, List.map_cons, List.map_nil]; simp)
        have qs : decide ((v.key.size : Int) < (b.rule.pre.size : Int)) = false := decide_eq_false hsz
        simp only [go_sem, simprocAttr, qN, qs, Bool.not_true]
        refine ⟨by omega, ?_⟩
        refine Wb_mk (fun hpx => ?_) (fun hpx => ?_)
        · have hpf : prefB v.key b.rule.pre = false := by
            unfold prefB
            rw [decide_eq_true (show (b.rule.pre.size : Int) ≤ (v.key.size : Int) by omega), Bool.true_and, ← strEq]
            exact nt hpx
          obtain ⟨z1, z2⟩ := ok_no (s := s) (v := v) (b := b) (.inr hpf)
          rw [z1, if_neg (by simp), Nat.add_zero] at hnF
          rw [z2, if_neg (by simp), Nat.add_zero] at hnD
          refine ⟨by omega, ?_⟩
          refine again_ok (m + 1) hltm (by omega) (by rw [hnF, hnD]; simp only [go_sem, simprocAttr, verV, List.map_cons, List.map_nil]; simp)
        have hpf : prefB v.key b.rule.pre = true := by
          unfold prefB
          rw [decide_eq_true (show (b.rule.pre.size : Int) ≤ (v.key.size : Int) by omega), Bool.true_and, ← strEq]
          exact nf hpx
        have eF := okF_is (s := s) qn hpf
        have eD := okD_is (s := s) qn hpf
        refine ⟨by omega, ?_⟩
        refine Wb_mk (fun hf => ?_) (fun hf => ?_)
        · have hF : okF s v b = true := eF.trans hf
          have hK0 := hzF hF
          subst hK0
          rw [hF, if_pos rfl] at hnF
          have hfr : frB s v = true := by rw [← okF_any]; exact List.any_eq_true.2 ⟨b, List.mem_of_getElem? hb, hF⟩
          have hia := idsL_at hv hfr
          rw [← hLF] at hia
          have hil2 := (List.getElem?_eq_some_iff.1 hia).1
          have q2 : decide (((LF + 0 : Nat) : Int) = ((idsL (frB s) s.vers).length : Int)) = false := decide_eq_false (by omega)
          have q3 : decide (v.id = v.id) = true := decide_eq_true rfl
          refine draw_ok (N := 3000) (.take 0 (.take 1 (.take 2 (.take 3 (.take 4 (.take 5 (.take 6 (.take 9 (.take 10 (.alt 7 (.alt 8 (.take 11 (.take 12 .done)) .last) .last)))))))))) [] (QOk_body _ _ _) follows_mixed (by kernel_rfl) (by kernel_rfl) ?_
          simp only [go_sem, simprocAttr, q2]
          refine any_ok2 (N := 3000) (elem_does (R := IntG) (l := idsL (frB s) s.vers) (m := LF) rfl tySlice28 tySize3 rfl rfl (dk rfl) rfl hia (fun G hG => hfv.mono (hG.le G4 (by simp)))) (QOk_body _ _ _) rfl (by first | exact .inl rfl | exact .inr ⟨_, _, rfl, rfl⟩) (by intro _ hK; first | (obtain ⟨_, _, _, _, rfl⟩ := hK; exact ⟨rfl, fun _ h => h⟩) | (obtain ⟨_, _, rfl⟩ := hK; exact ⟨rfl, fun _ h => h⟩) | (obtain ⟨_, _, _, _, _, _, rfl⟩ := hK; exact ⟨rfl, fun _ h => List.mem_cons_of_mem _ h⟩) | (obtain ⟨_, _, _, _, _, _, _, rfl⟩ := hK; exact ⟨rfl, fun _ h => List.mem_cons_of_mem _ h⟩) | (obtain rfl := hK; exact ⟨rfl, fun _ h => h⟩)) ?_
          rintro _ ⟨g9, o9, cs, G9, hcl9, hcs, rfl⟩
          obtain rfl := hcs
          simp only [go_sem, simprocAttr, q3]
          refine ⟨by omega, ?_⟩
          refine ⟨by omega, ?_⟩
          refine Wb_mk (fun hd => ?_) (fun hd => ?_)
          · have hD : okD s v b = true := eD.trans hd
            have hK0 := hzD hD
            subst hK0
            rw [hD, if_pos rfl] at hnD
            have hdr : drB s v = true := List.any_eq_true.2 ⟨b, List.mem_of_getElem? hb, hD⟩
            have hia := idsL_at hv hdr
            rw [← hLD] at hia
            have hil2 := (List.getElem?_eq_some_iff.1 hia).1
            have q2 : decide (((LD + 0 : Nat) : Int) = ((idsL (drB s) s.vers).length : Int)) = false := decide_eq_false (by omega)
            have q3 : decide (v.id = v.id) = true := decide_eq_true rfl
            refine draw_ok (N := 3000) (.take 0 (.take 1 (.take 2 (.take 3 (.take 4 (.take 5 (.take 6 (.take 9 (.take 10 (.alt 7 (.alt 8 (.take 11 (.take 12 .done)) .last) .last)))))))))) [] (QOk_body _ _ _) follows_mixed (by kernel_rfl) (by kernel_rfl) ?_
            simp only [go_sem, simprocAttr, q2]
            refine any_ok2 (N := 3000) (elem_does (R := IntG) (l := idsL (drB s) s.vers) (m := LD) rfl tySlice28 tySize3 rfl rfl (dk rfl) rfl hia (fun G hG => hfw.mono (hG.le G5 (by simp)))) (QOk_body _ _ _) rfl (by first | exact .inl rfl | exact .inr ⟨_, _, rfl, rfl⟩) (by intro _ hK; first | (obtain ⟨_, _, _, _, rfl⟩ := hK; exact ⟨rfl, fun _ h => h⟩) | (obtain ⟨_, _, rfl⟩ := hK; exact ⟨rfl, fun _ h => h⟩) | (obtain ⟨_, _, _, _, _, _, rfl⟩ := hK; exact ⟨rfl, fun _ h => List.mem_cons_of_mem _ h⟩) | (obtain ⟨_, _, _, _, _, _, _, rfl⟩ := hK; exact ⟨rfl, fun _ h => List.mem_cons_of_mem _ h⟩) | (obtain rfl := hK; exact ⟨rfl, fun _ h => h⟩)) ?_
            rintro _ ⟨g9, o9, cs, G9, hcl9, hcs, rfl⟩
            obtain rfl := hcs
            simp only [go_sem, simprocAttr, q3]
            refine ⟨by omega, ?_⟩
            refine ⟨by omega, ?_⟩
            refine again_ok (m + 1) hltm (by omega) (by rw [hnF, hnD]; simp only [go_sem, simprocAttr, verV, List.map_cons, List.map_nil]; simp)
          · have hD : okD s v b = false := eD.trans hd
            rw [hD, if_neg (by simp), Nat.add_zero] at hnD
            refine ⟨by omega, ?_⟩
            refine again_ok (m + 1) hltm (by omega) (by rw [hnF, hnD]; simp only [go_sem, simprocAttr, verV, List.map_cons, List.map_nil]; simp)
        · have hF : okF s v b = false := eF.trans hf
          rw [hF, if_neg (by simp), Nat.add_zero] at hnF
          refine ⟨by omega, ?_⟩
          refine Wb_mk (fun hd => ?_) (fun hd => ?_)
          · have hD : okD s v b = true := eD.trans hd
            have hK0 := hzD hD
            subst hK0
            rw [hD, if_pos rfl] at hnD
            have hdr : drB s v = true := List.any_eq_true.2 ⟨b, List.mem_of_getElem? hb, hD⟩
            have hia := idsL_at hv hdr
            rw [← hLD] at hia
            have hil2 := (List.getElem?_eq_some_iff.1 hia).1
            have q2 : decide (((LD + 0 : Nat) : Int) = ((idsL (drB s) s.vers).length : Int)) = false := decide_eq_false (by omega)
            have q3 : decide (v.id = v.id) = true := decide_eq_true rfl
            refine draw_ok (N := 3000) (.take 0 (.take 1 (.take 2 (.take 3 (.take 4 (.take 5 (.take 6 (.take 9 (.take 10 (.alt 7 (.alt 8 (.take 11 (.take 12 .done)) .last) .last)))))))))) [] (QOk_body _ _ _) follows_mixed (by kernel_rfl) (by kernel_rfl) ?_
            simp only [go_sem, simprocAttr, q2]
            refine any_ok2 (N := 3000) (elem_does (R := IntG) (l := idsL (drB s) s.vers) (m := LD) rfl tySlice28 tySize3 rfl rfl (dk rfl) rfl hia (fun G hG => hfw.mono (hG.le G5 (by simp)))) (QOk_body _ _ _) rfl (by first | exact .inl rfl | exact .inr ⟨_, _, rfl, rfl⟩) (by intro _ hK; first | (obtain ⟨_, _, _, _, rfl⟩ := hK; exact ⟨rfl, fun _ h => h⟩) | (obtain ⟨_, _, rfl⟩ := hK; exact ⟨rfl, fun _ h => h⟩) | (obtain ⟨_, _, _, _, _, _, rfl⟩ := hK; exact ⟨rfl, fun _ h => List.mem_cons_of_mem _ h⟩) | (obtain ⟨_, _, _, _, _, _, _, rfl⟩ := hK; exact ⟨rfl, fun _ h => List.mem_cons_of_mem _ h⟩) | (obtain rfl := hK; exact ⟨rfl, fun _ h => h⟩)) ?_
            rintro _ ⟨g9, o9, cs, G9, hcl9, hcs, rfl⟩
            obtain rfl := hcs
            simp only [go_sem, simprocAttr, q3]
            refine ⟨by omega, ?_⟩
            refine ⟨by omega, ?_⟩
            refine again_ok (m + 1) hltm (by omega) (by rw [hnF, hnD]; simp only [go_sem, simprocAttr, verV, List.map_cons, List.map_nil]; simp)
          · have hD : okD s v b = false := eD.trans hd
            rw [hD, if_neg (by simp), Nat.add_zero] at hnD
            refine ⟨by omega, ?_⟩
            refine again_ok (m + 1) hltm (by omega) (by rw [hnF, hnD]; simp only [go_sem, simprocAttr, verV, List.map_cons, List.map_nil]; simp)
      · have qn : decide (b.name = v.bucket) = false := decide_eq_false hnm
        have qN : (b.name.toList == v.bucket.toList) = false := (strEq _ _).trans qn
        obtain ⟨z1, z2⟩ := ok_no (s := s) (v := v) (b := b) (.inl qn)
        rw [z1, if_neg (by simp), Nat.add_zero] at hnF
        rw [z2, if_neg (by simp), Nat.add_zero] at hnD
        simp only [go_sem, simprocAttr, qN, Bool.not_false]
        refine ⟨by omega, ?_⟩
        refine again_ok (m + 1) hltm (by omega) (by rw [hnF, hnD]; simp only [go_sem, simprocAttr, verV, List.map_cons, List.map_nil]; simp)
    have hml2 : m = s.bkts.length := by omega
    subst hml2
    have qm : decide ((s.bkts.length : Int) < (s.bkts.length : Int)) = false := decide_eq_false (by omega)
    rw [List.take_length, hcF, hcD, ← hsF, ← hsD]
    simp only [go_sem, simprocAttr, qm]
    refine ⟨by omega, ?_⟩
    refine again_ok (i + 1) hlt (by omega) (by simp only [go_sem, simprocAttr]; simp)
  have hil : i = s.vers.length := by omega
  subst hil
  have q : decide ((s.vers.length : Int) < (s.vers.length : Int)) = false := decide_eq_false (by omega)
  rw [List.take_length]
  have q2 : decide (((idsL (frB s) s.vers).length : Int) = ((idsL (frB s) s.vers).length : Int)) = true := decide_eq_true rfl
  have q3 : decide (((idsL (drB s) s.vers).length : Int) = ((idsL (drB s) s.vers).length : Int)) = true := decide_eq_true rfl
  simp only [go_sem, simprocAttr, q, q2, q3]
  refine fin_ret (G := ⟨Non, w⟩) Tryz.results3 ?_
  simp only [go_sem, simprocAttr, q3]
  intro aa w' _ hle
  rfl
theorem freezeOld_walk {w : World} (v0 : Value) (l0 : List Raw) (h0 : RawsG ⟨Non, w⟩ v0 l0) : Calls Tryz.prog 3 #[v0] w fun e w' => e = .returned (.bool true) ∧ Below w.heap.size w w' := ret_walk (freezeOld_ret v0 l0 h0)
end Go.Proofs.YtefmffpidhdjoaaGreat
