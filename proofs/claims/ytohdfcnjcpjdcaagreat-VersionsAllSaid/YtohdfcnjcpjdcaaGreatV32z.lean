/- 'icehousekeep.VersionsAll' returns true for all raw things. Conditions: none. -/
import Derived.Test.YtohdfcnjcpjdcaaGreatVCz
namespace Go.Proofs.YtohdfcnjcpjdcaaGreat
open Go.RowKit
set_option linter.unusedSimpArgs false
def cntV (nm : ByteArray) (l : List Ver) : Nat := (l.filter fun v => decide (v.bucket = nm)).length
theorem cntV_succ {nm : ByteArray} {l : List Ver} {i : Nat} {v : Ver} (h : l[i]? = some v) : cntV nm (l.take (i + 1)) = cntV nm (l.take i) + if v.bucket = nm then 1 else 0 := by
 unfold cntV
 rw [List.take_add_one, h, List.filter_append, List.length_append]
 congr 1
 by_cases q : v.bucket = nm <;> simp [q]
set_option maxRecDepth 100000 in
set_option maxHeartbeats 16000000 in
theorem versionsAll_ret {w : World} (v0 : Value) (l0 : List Raw) (h0 : RawsG ⟨Non, w⟩ v0 l0) (n : Int) (hn : i64 n) :
  Calls Tryz.prog 7 #[v0, .int .i64 n] w (Ret ⟨Non, w⟩ fun v _ => v = .bool true) := by
 have hml := max_le
 have hok := stateS_ok l0 40
 have hnm := stateS_names l0 40
 obtain ⟨A0, c0, rfl, _, _⟩ := ScR.form h0
 refine enterS (G := ⟨Non, w⟩) (n := 137) 3000 (wf_nonL w) Tryz.func7 rfl Tryz.ntmps7 (by simp) ?_
 simp only [go_sem, simprocAttr]
 refine pk (call_does (fun v _ => v = .bool true) rfl rfl (by kernel_rfl) rfl (dk rfl) (fun G hG => lTells_does hG.wf)) ?_
 rintro _ ⟨_, GT, rfl, hnT, rfl⟩
 clear hnT
 simp only [go_sem, simprocAttr]
 refine pk (call_does (fun v G => ∃ sv ov, v = .tuple #[sv, ov] ∧ StaG G sv (stateS l0 40).1 ∧ RecsG G ov (stateS l0 40).2) rfl rfl (by kernel_rfl) rfl (dk rfl) (fun G hG => state_does (most := 40) hG.wf (ScR.mono h0 rawG_mono (hG.le ⟨Non, w⟩ (by simp))) (by omega))) ?_
 rintro _ ⟨_, G1, ⟨sv, ov, rfl, hs, ho⟩, hn1, rfl⟩
 clear hn1
 obtain ⟨A1, c1, A2, c2, A3, c3, A4, c4, A5, c5, rfl, hP⟩ := hs.form
 obtain ⟨Ao, co, rfl, _⟩ := Sq.form ho
 obtain ⟨s, hsd⟩ : ∃ s, s = (stateS l0 40).1 := ⟨_, rfl⟩
 obtain ⟨rs, hrd⟩ : ∃ rs, rs = (stateS l0 40).2 := ⟨_, rfl⟩
 rw [← hsd] at hok hnm hP hs ⊢
 rw [← hrd] at ho ⊢
 clear hsd hrd ho
 have hgd := okSt_good.1 hok
 have hvl := hgd.vlen
 have hck := chk_ok hnm n (most := 50) (by omega) (by omega)
 have hck1 := chk_ok hnm n (most := 1) (by omega) (by omega)
 obtain ⟨nm, hnmd⟩ : ∃ nm, nm = nameS n := ⟨_, rfl⟩
 rw [← hnmd] at hck hck1
 have hna : ∀ (G : GW), G.Wf → Calls Tryz.prog 18 #[.int .i64 n] G.w (Ret G fun v _ => v = .string nm) := fun G hW => by rw [hnmd]; exact name_does hW hn
 clear hnmd
 simp only [go_sem, simprocAttr]
 intro g1
 refine draw_ok (N := 3000) (.take 0 (.take 1 (.alt 2 (.alt 3 (.take 4 (.take 5 (.take 6 (.take 7 (.take 8 (.take 9 (.take 10 .done))))))) .last) .last))) [] (QOk_body _ _ _) follows_mixed (by kernel_rfl) (by kernel_rfl) ?_
 simp only [go_sem, simprocAttr]
 refine anyc_ok (N := 3000) (call_does (fun v _ => v = .string nm) rfl rfl (by kernel_rfl) rfl (dk rfl) (fun G hG => hna G hG.wf)) (QOk_body _ _ _) rfl (by first | exact .inl rfl | exact .inr ⟨_, _, rfl, rfl⟩) ?_
 rintro _ ⟨_, G2, rfl, hn2, rfl⟩
 clear hn2
 simp only [go_sem, simprocAttr]
 refine anyc_ok (N := 3000) (call_does (fun v G => ∃ d : List Ver, d.Perm (s.vers.filter (selB nm ⟨#[]⟩)) ∧ (d.Pairwise fun a b => vLt b a = false) ∧ ∃ pv, v = .tuple #[pv, .bool (decide (((50 : Nat) : Int) < ((versRows (grpS d)).length : Int))), .int .i64 0] ∧ RowsG G pv ((versRows (grpS d)).take 50)) rfl rfl (by kernel_rfl) rfl (dk rfl) (fun G hG => lVersions_does (most := 50) hG.wf (hP.mono (hG.le G1 (by simp))).g hok (Nat.zero_le _) hck (by omega) (by omega))) (QOk_body _ _ _) rfl (by first | exact .inl rfl | exact .inr ⟨_, _, rfl, rfl⟩) ?_
 rintro _ ⟨_, G3, ⟨d, hd1, hd2, pv, rfl, hpv⟩, hn3, rfl⟩
 clear hn3
 have hdl : d.length = cntV nm s.vers := by rw [hd1.length_eq, sel_nil]; rfl
 have hcv : ∀ i, cntV nm (s.vers.take i) ≤ s.vers.length := fun i => Nat.le_trans (List.length_filter_le _ _) (by rw [List.length_take]; omega)
 have hcl : cntV nm s.vers ≤ s.vers.length := List.length_filter_le _ _
 have hids := ids_ne hgd hd1
 rw [versRows_is] at hpv ⊢
 have hfl := flagR_len d none
 rw [List.take_of_length_le (by omega)] at hpv
 have hb50 : decide (((50 : Nat) : Int) < ((flagR none d).length : Int)) = false := decide_eq_false (by omega)
 rw [hb50]
 obtain ⟨rows, hrd⟩ : ∃ rows, rows = flagR none d := ⟨_, rfl⟩
 rw [← hrd] at hpv hfl
 obtain ⟨Ar, cr, rfl, _⟩ := Sq.form hpv
 simp only [go_sem, simprocAttr]
 refine loop_ok (N := 3000) (ι := Nat) (fun i => ⟨[(1, .c (.v (.int .i64 n))), (5, .c (.p 0 g1 0)), (7, .c (.v (.slice Ar rows.length cr))), (8, .c (.v (.bool false))), (9, .c (.v (.int .i64 0))), (10, .c (.v (.int .i64 ((cntV nm (s.vers.take i) : Nat) : Int)))), (34, .c (.v (.slice A2 s.vers.length c2))), (35, .c (.v (.int .i64 (s.vers.length : Int)))), (36, .c (.v (.int .i64 (i : Int))))],
   [⟨0, g1, 30, [.v (.int .i64 s.next), .v (.int .i64 s.clock), .v (.slice A1 s.bkts.length c1), .v (.slice A2 s.vers.length c2), .v (.slice A3 s.upls.length c3), .v (.slice A4 s.queue.length c4), .v (.slice A5 s.gone.length c5)]⟩], [], [], [G3, G1, ⟨Non, w⟩], 1⟩)
  (fun i => i ≤ s.vers.length) (fun i => s.vers.length - i) (QOk_body _ _ _) 0 (Nat.zero_le _) (by simp only [go_sem, simprocAttr]; simp [cntV]) ?_
 rintro i hi
 by_cases hlt : i < s.vers.length
 ·have q1 : decide ((i : Int) < (s.vers.length : Int)) = true := decide_eq_true (by omega)
  obtain ⟨v, hv⟩ : ∃ v, s.vers[i]? = some v := ⟨_, List.getElem?_eq_getElem hlt⟩
  have hsu := cntV_succ (nm := nm) hv
  have hci := hcv i
  simp only [go_sem, simprocAttr, q1]
  refine pk (elem_does (R := VerG) (l := s.vers) (m := i) rfl tySlice25 tySize38 rfl rfl (dk rfl) rfl hv (fun G hG => Sq.mono hP.vers verG_mono (hG.le G1 (by simp)))) ?_
  rintro _ ⟨g4, o', cs, G6, hcl6, ⟨svx, rfl, hsv, hk1, hk2⟩, rfl⟩
  obtain ⟨Ax, cx, rfl, _⟩ := Sq.form hsv
  simp only [go_sem, simprocAttr, verV]
  intro g5
  refine draw_ok (N := 3000) (.take 0 (.take 1 (.take 2 (.alt 3 (.take 4 .done) .last)))) [] (QOk_body _ _ _) follows_mixed (by kernel_rfl) (by kernel_rfl) ?_
  simp only [go_sem, simprocAttr]
  refine anyc_ok (N := 3000) (call_does (fun v _ => v = .string nm) rfl rfl (by kernel_rfl) rfl (dk rfl) (fun G hG => hna G hG.wf)) (QOk_body _ _ _) rfl (by first | exact .inl rfl | exact .inr ⟨_, _, rfl, rfl⟩) ?_
  rintro _ ⟨_, G7, rfl, hn7, rfl⟩
  clear hn7
  by_cases hb : v.bucket = nm
  ·have q : (v.bucket.toList == nm.toList) = true := (strEq _ _).trans (decide_eq_true hb)
   rw [if_pos hb] at hsu
   simp only [go_sem, simprocAttr, q]
   refine ⟨by omega, by omega, ?_⟩
   refine again_ok (i + 1) hlt (by omega) (by rw [hsu]; simp only [go_sem, simprocAttr]; simp)
  ·have q : (v.bucket.toList == nm.toList) = false := (strEq _ _).trans (decide_eq_false hb)
   rw [if_neg hb, Nat.add_zero] at hsu
   simp only [go_sem, simprocAttr, q]
   refine ⟨by omega, ?_⟩
   refine again_ok (i + 1) hlt (by omega) (by rw [hsu]; simp only [go_sem, simprocAttr]; simp)
 have hil : i = s.vers.length := by omega
 subst hil
 have q1 : decide ((s.vers.length : Int) < (s.vers.length : Int)) = false := decide_eq_false (by omega)
 rw [List.take_length]
 have q2 : decide ((rows.length : Int) = ((cntV nm s.vers : Nat) : Int)) = true := decide_eq_true (by omega)
 simp only [go_sem, simprocAttr, q1, q2, Bool.not_true]
 refine loop_ok (N := 3000) (ι := Nat) (fun i => ⟨[(1, .c (.v (.int .i64 n))), (5, .c (.p 0 g1 0)), (7, .c (.v (.slice Ar rows.length cr))), (10, .c (.v (.int .i64 ((cntV nm s.vers : Nat) : Int)))), (59, .c (.v (.slice Ar rows.length cr))), (60, .c (.v (.int .i64 (rows.length : Int)))), (61, .c (.v (.int .i64 (i : Int))))],
   [⟨0, g1, 30, [.v (.int .i64 s.next), .v (.int .i64 s.clock), .v (.slice A1 s.bkts.length c1), .v (.slice A2 s.vers.length c2), .v (.slice A3 s.upls.length c3), .v (.slice A4 s.queue.length c4), .v (.slice A5 s.gone.length c5)]⟩], [], [], [G3, G1, ⟨Non, w⟩], 1⟩)
  (fun i => i ≤ rows.length) (fun i => rows.length - i) (QOk_body _ _ _) 0 (Nat.zero_le _) (by simp only [go_sem, simprocAttr]; simp) ?_
 rintro i hi
 by_cases hlt2 : i < rows.length
 ·have q3 : decide ((i : Int) < (rows.length : Int)) = true := decide_eq_true (by omega)
  obtain ⟨x, hx⟩ : ∃ x, d[i]? = some x := ⟨_, List.getElem?_eq_getElem (by omega)⟩
  by_cases hi0 : i = 0
  ·have hr : rows[i]? = some (rowV x true) := by rw [hi0] at hx ⊢; rw [hrd, flagR_zero hx]; rfl
   have q4 : decide ((i : Int) = 0) = true := decide_eq_true (by omega)
   have q5 : decide (0 < (i : Int)) = false := decide_eq_false (by omega)
   simp only [go_sem, simprocAttr, q3]
   refine pk (elem_does (R := RowMG) (l := rows) (m := i) rfl tySlice52 tySize57 rfl rfl (dk rfl) rfl hr (fun G hG => Sq.mono hpv rowMG_mono (hG.le G3 (by simp)))) ?_
   rintro _ ⟨g4, o', cs, G6, hcl6, hcs, rfl⟩
   obtain rfl := hcs
   simp only [go_sem, simprocAttr, rowC, rowV]
   intro g5
   refine draw_ok (N := 3000) (.take 0 (.take 1 (.take 2 (.take 3 (.take 4 (.take 5 (.take 6 (.take 7 (.take 8 (.take 9 (.take 10 (.take 11 (.take 12 (.take 13 .done)))))))))))))) [] (QOk_body _ _ _) follows_mixed (by kernel_rfl) (by kernel_rfl) ?_
   simp only [go_sem, simprocAttr, q4]
   refine draw_ok (N := 3000) (.take 0 (.take 1 (.take 2 (.take 3 (.take 4 (.take 5 (.take 6 (.take 7 (.take 8 (.take 9 (.take 10 (.take 11 (.take 12 (.take 13 (.take 14 (.take 15 (.take 16 (.take 17 (.take 18 (.take 19 (.take 20 (.take 21 (.take 22 (.take 23 (.take 24 (.take 25 (.take 26 (.take 27 (.take 28 (.take 29 (.take 30 (.take 31 (.take 32 (.take 33 .done)))))))))))))))))))))))))))))))))) [] (QOk_body _ _ _) follows_mixed (by kernel_rfl) (by kernel_rfl) ?_
   simp only [go_sem, simprocAttr, q5]
   refine wt_do rfl ?_
   refine take_bool (a := true) (b := true) false rfl rfl rfl rfl rfl (fun w => run_neq_bool w _ _ _ Tryz.underlying4) (dk rfl) ?_
   simp only [go_sem, simprocAttr, q5]
   refine whX_dead rfl rfl (dk rfl) ?_
   simp only [go_sem, simprocAttr, q5]
   refine ⟨by omega, ?_⟩
   refine again_ok (i + 1) hlt2 (by omega) (by simp only [go_sem, simprocAttr]; simp)
  ·obtain ⟨y, hy⟩ : ∃ y, d[i - 1]? = some y := ⟨_, List.getElem?_eq_getElem (by omega)⟩
   have hr : rows[i]? = some (rowV x (!decide (y.key = x.key))) := by
    have hx' : d[i - 1 + 1]? = some x := by rw [show i - 1 + 1 = i from by omega]; exact hx
    rw [hrd, ← show i - 1 + 1 = i from by omega]
    exact flagR_at hy hx'
   obtain ⟨bp, hrp⟩ : ∃ bp, rows[i - 1]? = some (rowV y bp) := by
    by_cases h1 : i - 1 = 0
    ·rw [h1] at hy ⊢
     exact ⟨!decide ((none : Option ByteArray) = some y.key), by rw [hrd, flagR_zero hy]⟩
    ·obtain ⟨z, hz⟩ : ∃ z, d[i - 2]? = some z := ⟨_, List.getElem?_eq_getElem (by omega)⟩
     have hy' : d[i - 2 + 1]? = some y := by rw [show i - 2 + 1 = i - 1 from by omega]; exact hy
     refine ⟨!decide (z.key = y.key), ?_⟩
     rw [hrd, ← show i - 2 + 1 = i - 1 from by omega]
     exact flagR_at hz hy'
   obtain ⟨hv1, hv2⟩ := vLt_no (pair_get hd2 hy hx (by omega))
   have hne := pair_get hids hy hx (by omega)
   have q4 : decide ((i : Int) = 0) = false := decide_eq_false (by omega)
   have q5 : decide (0 < (i : Int)) = true := decide_eq_true (by omega)
   have hcast : (i : Int) - 1 = ((i - 1 : Nat) : Int) := by omega
   by_cases hkk : y.key = x.key
   ·have qk : (y.key.toList == x.key.toList) = true := (strEq _ _).trans (decide_eq_true hkk)
    rw [decide_eq_true hkk, Bool.not_true] at hr
    simp only [go_sem, simprocAttr, q3]
    refine pk (elem_does (R := RowMG) (l := rows) (m := i) rfl tySlice52 tySize57 rfl rfl (dk rfl) rfl hr (fun G hG => Sq.mono hpv rowMG_mono (hG.le G3 (by simp)))) ?_
    rintro _ ⟨g4, o', cs, G6, hcl6, hcs, rfl⟩
    obtain rfl := hcs
    simp only [go_sem, simprocAttr, rowC, rowV]
    intro g5
    refine preview_ok (R := RowMG) (kc := 7) hrp (fun G hG => (Sq.mono hpv rowMG_mono (hG G3 (by simp))).sc) fun gy oy csy Gy hA hcly hcsy hley => ?_
    subst hA
    obtain rfl := hcsy
    clear hley
    simp only [go_sem, simprocAttr, rowC, rowV]
    refine draw_ok (N := 3000) (.take 0 (.take 1 (.take 2 (.take 3 (.take 4 (.take 5 (.take 6 (.take 7 (.take 8 (.take 9 (.take 10 (.take 11 (.take 12 (.take 13 .done)))))))))))))) [] (QOk_body _ _ _) follows_mixed (by kernel_rfl) (by kernel_rfl) ?_
    simp only [go_sem, simprocAttr, q4]
    refine ⟨by omega, ?_⟩
    refine take_elem 3 (m := i - 1) rfl tySlice52 tySize57 rfl rfl (dk rfl) hcast (by omega) ?_
    simp only [go_sem, simprocAttr, q4, qk, Bool.not_true, Bool.not_false]
    refine draw_ok (N := 3000) (.take 0 (.take 1 (.take 2 (.take 3 (.take 4 (.take 5 (.take 6 (.take 7 (.take 8 (.take 9 (.take 10 (.take 11 (.take 12 (.take 13 (.take 14 (.take 15 (.take 16 (.take 17 (.take 18 (.take 19 (.take 20 (.take 21 (.take 22 (.take 23 (.take 24 (.take 25 (.take 26 (.take 27 (.take 28 (.take 29 (.take 30 (.take 31 (.take 32 (.take 33 .done)))))))))))))))))))))))))))))))))) [] (QOk_body _ _ _) follows_mixed (by kernel_rfl) (by kernel_rfl) ?_
    simp only [go_sem, simprocAttr]
    refine wt_do rfl ?_
    refine take_bool (a := false) (b := false) false rfl rfl rfl rfl rfl (fun w => run_neq_bool w _ _ _ Tryz.underlying4) (dk rfl) ?_
    simp only [go_sem, simprocAttr, q5]
    refine ⟨by omega, ?_⟩
    refine take_elem 3 (m := i - 1) rfl tySlice52 tySize57 rfl rfl (dk rfl) hcast (by omega) ?_
    simp only [go_sem, simprocAttr, q5, qk, Bool.or_true, Bool.not_true, Bool.not_false]
    have q6 : decide (y.id ≤ x.id) = false := decide_eq_false (by have := hv2 hkk.symm; omega)
    refine ⟨by omega, ?_⟩
    refine take_elem 3 (m := i - 1) rfl tySlice52 tySize57 rfl rfl (dk rfl) hcast (by omega) ?_
    simp only [go_sem, simprocAttr, q5, q6]
    refine ⟨by omega, ?_⟩
    refine again_ok (i + 1) hlt2 (by omega) (by simp only [go_sem, simprocAttr]; simp)
   ·have qk : (y.key.toList == x.key.toList) = false := (strEq _ _).trans (decide_eq_false hkk)
    rw [decide_eq_false hkk, Bool.not_false] at hr
    simp only [go_sem, simprocAttr, q3]
    refine pk (elem_does (R := RowMG) (l := rows) (m := i) rfl tySlice52 tySize57 rfl rfl (dk rfl) rfl hr (fun G hG => Sq.mono hpv rowMG_mono (hG.le G3 (by simp)))) ?_
    rintro _ ⟨g4, o', cs, G6, hcl6, hcs, rfl⟩
    obtain rfl := hcs
    simp only [go_sem, simprocAttr, rowC, rowV]
    intro g5
    refine preview_ok (R := RowMG) (kc := 7) hrp (fun G hG => (Sq.mono hpv rowMG_mono (hG G3 (by simp))).sc) fun gy oy csy Gy hA hcly hcsy hley => ?_
    subst hA
    obtain rfl := hcsy
    clear hley
    simp only [go_sem, simprocAttr, rowC, rowV]
    refine draw_ok (N := 3000) (.take 0 (.take 1 (.take 2 (.take 3 (.take 4 (.take 5 (.take 6 (.take 7 (.take 8 (.take 9 (.take 10 (.take 11 (.take 12 (.take 13 .done)))))))))))))) [] (QOk_body _ _ _) follows_mixed (by kernel_rfl) (by kernel_rfl) ?_
    simp only [go_sem, simprocAttr, q4]
    refine ⟨by omega, ?_⟩
    refine take_elem 3 (m := i - 1) rfl tySlice52 tySize57 rfl rfl (dk rfl) hcast (by omega) ?_
    simp only [go_sem, simprocAttr, q4, qk, Bool.not_true, Bool.not_false]
    refine draw_ok (N := 3000) (.take 0 (.take 1 (.take 2 (.take 3 (.take 4 (.take 5 (.take 6 (.take 7 (.take 8 (.take 9 (.take 10 (.take 11 (.take 12 (.take 13 (.take 14 (.take 15 (.take 16 (.take 17 (.take 18 (.take 19 (.take 20 (.take 21 (.take 22 (.take 23 (.take 24 (.take 25 (.take 26 (.take 27 (.take 28 (.take 29 (.take 30 (.take 31 (.take 32 (.take 33 .done)))))))))))))))))))))))))))))))))) [] (QOk_body _ _ _) follows_mixed (by kernel_rfl) (by kernel_rfl) ?_
    simp only [go_sem, simprocAttr]
    refine wt_do rfl ?_
    refine take_bool (a := true) (b := true) false rfl rfl rfl rfl rfl (fun w => run_neq_bool w _ _ _ Tryz.underlying4) (dk rfl) ?_
    simp only [go_sem, simprocAttr, q5]
    have hlt3 : Op.bytesLess y.key.toList x.key.toList = true := by
     cases hq : Op.bytesLess y.key.toList x.key.toList with
     | true => rfl
     | false => exact absurd (kLt_tri (a := y.key) (b := x.key) hq hv1) hkk
    refine ⟨by omega, ?_⟩
    refine take_elem 3 (m := i - 1) rfl tySlice52 tySize57 rfl rfl (dk rfl) hcast (by omega) ?_
    simp only [go_sem, simprocAttr, q5, hlt3, Bool.true_or, Bool.not_true, Bool.not_false]
    refine ⟨by omega, ?_⟩
    refine again_ok (i + 1) hlt2 (by omega) (by simp only [go_sem, simprocAttr]; simp)
 ·have hil : i = rows.length := by omega
  subst hil
  have q3 : decide ((rows.length : Int) < (rows.length : Int)) = false := decide_eq_false (by omega)
  simp only [go_sem, simprocAttr, q3]
  refine draw_ok (N := 3000) (.take 0 (.take 1 (.alt 2 (.alt 3 (.take 4 (.take 5 (.take 6 (.take 7 (.take 8 (.take 9 (.take 10 .done))))))) .last) .last))) [] (QOk_body _ _ _) follows_mixed (by kernel_rfl) (by kernel_rfl) ?_
  simp only [go_sem, simprocAttr]
  refine anyc_ok (N := 3000) (call_does (fun v _ => v = .string nm) rfl rfl (by kernel_rfl) rfl (dk rfl) (fun G hG => hna G hG.wf)) (QOk_body _ _ _) rfl (by first | exact .inl rfl | exact .inr ⟨_, _, rfl, rfl⟩) ?_
  rintro _ ⟨_, G4, rfl, hn4, rfl⟩
  clear hn4
  simp only [go_sem, simprocAttr]
  refine anyc_ok (N := 3000) (call_does (fun v G => ∃ d : List Ver, d.Perm (s.vers.filter (selB nm ⟨#[]⟩)) ∧ (d.Pairwise fun a b => vLt b a = false) ∧ ∃ pv, v = .tuple #[pv, .bool (decide (((1 : Nat) : Int) < ((versRows (grpS d)).length : Int))), .int .i64 0] ∧ RowsG G pv ((versRows (grpS d)).take 1)) rfl rfl (by kernel_rfl) rfl (dk rfl) (fun G hG => lVersions_does (most := 1) hG.wf (hP.mono (hG.le G1 (by simp))).g hok (Nat.zero_le _) hck1 (by omega) (by omega))) (QOk_body _ _ _) rfl (by first | exact .inl rfl | exact .inr ⟨_, _, rfl, rfl⟩) ?_
  rintro _ ⟨_, G5, ⟨d5, hd5, _, pv5, rfl, hpv5⟩, hn5, rfl⟩
  clear hn5
  have hl5 : (versRows (grpS d5)).length = cntV nm s.vers := by
   rw [versRows_is, flagR_len, hd5.length_eq, sel_nil]; rfl
  obtain ⟨Ap, cp, rfl, _⟩ := Sq.form hpv5
  have hl6 : ((versRows (grpS d5)).take 1).length = min 1 (cntV nm s.vers) := by rw [List.length_take, hl5]
  rw [hl6, hl5]
  obtain ⟨N, hN⟩ : ∃ N, N = cntV nm s.vers := ⟨_, rfl⟩
  rw [← hN]
  have qm : decide (((min 1 N : Nat) : Int) = min (N : Int) 1) = true := decide_eq_true (by omega)
  simp only [go_sem, simprocAttr, qm]
  refine wgX_do rfl rfl rfl ?_
  refine pk (booleq_does rfl Tryz.underlying4 rfl rfl rfl rfl (dk rfl)) ?_
  rintro _ rfl
  simp only [go_sem, simprocAttr, qm]
  refine fin_ret (G := ⟨Non, w⟩) Tryz.results7 ?_
  simp only [go_sem, simprocAttr, qm]
  intro aa w' _ hle
  rfl
theorem versionsAll_walk {w : World} (v0 : Value) (l0 : List Raw) (h0 : RawsG ⟨Non, w⟩ v0 l0) (n : Int) (hn : i64 n) : Calls Tryz.prog 7 #[v0, .int .i64 n] w fun e w' => e = .returned (.bool true) ∧ Below w.heap.size w w' := ret_walk (versionsAll_ret v0 l0 h0 n hn)
end Go.Proofs.YtohdfcnjcpjdcaaGreat
