/- 'icehousekeep.KeysCommon' returns true for all raw things. Conditions: none. -/
import Derived.Test.YtohdfcnjcpjdcaaGreatVDx
namespace Go.Proofs.YtohdfcnjcpjdcaaGreat
open Go.RowKit
set_option linter.unusedSimpArgs false
set_option maxRecDepth 100000 in
set_option maxHeartbeats 16000000 in
theorem keysCommon_ret {w : World} (v0 : Value) (l0 : List Raw) (h0 : RawsG ⟨Non, w⟩ v0 l0) (n : Int) (hn : i64 n) :
  Calls Tryz.prog 5 #[v0, .int .i64 n] w (Ret ⟨Non, w⟩ fun v _ => v = .bool true) := by
 have hml := max_le
 have hok := stateS_ok l0 40
 have hnm := stateS_names l0 40
 have hke := stateS_keys l0 40
 obtain ⟨A0, c0, rfl, _, _⟩ := ScR.form h0
 refine enterS (G := ⟨Non, w⟩) (n := 131) 3000 (wf_nonL w) Tryz.func5 rfl Tryz.ntmps5 (by simp) ?_
 simp only [go_sem, simprocAttr]
 refine pk (call_does (fun v G => ∃ sv ov, v = .tuple #[sv, ov] ∧ StaG G sv (stateS l0 40).1 ∧ RecsG G ov (stateS l0 40).2) rfl rfl (by kernel_rfl) rfl (dk rfl) (fun G hG => state_does (most := 40) hG.wf (ScR.mono h0 rawG_mono (hG.le ⟨Non, w⟩ (by simp))) (by omega))) ?_
 rintro _ ⟨_, G1, ⟨sv, ov, rfl, hs, ho⟩, hn1, rfl⟩
 clear hn1
 obtain ⟨A1, c1, A2, c2, A3, c3, A4, c4, A5, c5, rfl, hP⟩ := hs.form
 obtain ⟨Ao, co, rfl, _⟩ := Sq.form ho
 obtain ⟨s, hsd⟩ : ∃ s, s = (stateS l0 40).1 := ⟨_, rfl⟩
 obtain ⟨rs, hrd⟩ : ∃ rs, rs = (stateS l0 40).2 := ⟨_, rfl⟩
 rw [← hsd] at hok hnm hke hP hs ⊢
 rw [← hrd] at ho ⊢
 clear hsd hrd ho
 have hgd := okSt_good.1 hok
 have hvl := hgd.vlen
 have hck := chk_ok hnm n (most := 50) (by omega) (by omega)
 obtain ⟨nm, hnmd⟩ : ∃ nm, nm = nameS n := ⟨_, rfl⟩
 rw [← hnmd] at hck
 have hna : ∀ (G : GW), G.Wf → Calls Tryz.prog 18 #[.int .i64 n] G.w (Ret G fun v _ => v = .string nm) := fun G hW => by rw [hnmd]; exact name_does hW hn
 clear hnmd
 obtain ⟨D, hD⟩ : ∃ D, D = allR s nm ⟨#[]⟩ (some 47) := ⟨_, rfl⟩
 obtain ⟨U, hU⟩ : ∃ U, U = allR s nm ⟨#[]⟩ none := ⟨_, rfl⟩
 have hD5 : D.length ≤ 5 := by rw [hD]; exact allR_len _ _ _ _
 have hU5 : U.length ≤ 5 := by rw [hU]; exact allR_len _ _ _ _
 have hpD := fun (l : List Ver) h1 h2 => keysRows_first (l := l) hgd hke (nm := nm) (d := some 47) (by simp) h1 h2
 have hpU := fun (l : List Ver) h1 h2 => keysRows_first (l := l) hgd hke (nm := nm) (d := none) (by simp) h1 h2
 rw [← hD] at hpD
 rw [← hU] at hpU
 have hone : ∀ x ∈ U, ∃ v : Ver, x = rowV v true ∧ cntH (rowV v true) D = 1 := fun x hx => by
  rw [hU] at hx
  obtain ⟨v, hv, rfl⟩ := allR_row (.inl rfl) hx
  exact ⟨v, rfl, by rw [hD]; exact cnt_one hv⟩
 have hform : ∀ r ∈ D, (∃ u, r = rowV u true) ∨ r = comR ⟨#[121, 47]⟩ ∨ r = comR ⟨#[122, 47]⟩ := fun r hr => rowD_form (s := s) (nm := nm) (by rw [← hD]; exact hr)
 simp only [go_sem, simprocAttr]
 intro g1
 refine draw_ok (N := 3000) (.take 0 (.take 1 (.alt 2 (.alt 3 (.take 4 (.take 5 (.take 6 (.take 7 (.take 8 (.take 9 (.take 10 .done))))))) .last) .last))) [] (QOk_body _ _ _) follows_mixed (by kernel_rfl) (by kernel_rfl) ?_
 simp only [go_sem, simprocAttr]
 refine anyc_ok (N := 3000) (call_does (fun v _ => v = .string nm) rfl rfl (by kernel_rfl) rfl (dk rfl) (fun G hG => hna G hG.wf)) (QOk_body _ _ _) rfl (by first | exact .inl rfl | exact .inr ⟨_, _, rfl, rfl⟩) ?_
 rintro _ ⟨_, G2, rfl, hn2, rfl⟩
 clear hn2
 simp only [go_sem, simprocAttr]
 refine anyc_ok (N := 3000) (call_does (fun v G => ∃ l : List Ver, l.Perm (s.vers.filter (selB nm ⟨#[]⟩)) ∧ (l.Pairwise fun a b => vLt b a = false) ∧ ∃ pv, v = .tuple #[pv, .bool (decide (((50 : Nat) : Int) < ((keysRows (some 47) ⟨#[]⟩ ⟨#[]⟩ (grpS l)).length : Int))), .int .i64 0] ∧ RowsG G pv ((keysRows (some 47) ⟨#[]⟩ ⟨#[]⟩ (grpS l)).take 50)) rfl rfl (by kernel_rfl) rfl (dk rfl) (fun G hG => lKeys_does (d := some 47) (most := 50) hG.wf (hP.mono (hG.le G1 (by simp))).g hok (Nat.zero_le _) hck (by omega) (by omega))) (QOk_body _ _ _) rfl (by first | exact .inl rfl | exact .inr ⟨_, _, rfl, rfl⟩) ?_
 rintro _ ⟨_, G3, ⟨d, hd1, hd2, pv, rfl, hpv⟩, hn3, rfl⟩
 clear hn3
 rw [hpD d hd1 hd2] at hpv ⊢
 rw [List.take_of_length_le (by omega)] at hpv
 obtain ⟨Ad, cd, rfl, _⟩ := Sq.form hpv
 simp only [go_sem, simprocAttr]
 refine draw_ok (N := 3000) (.take 0 (.take 1 (.alt 2 (.alt 3 (.take 4 (.take 5 (.take 6 (.take 7 (.take 8 (.take 9 (.take 10 .done))))))) .last) .last))) [] (QOk_body _ _ _) follows_mixed (by kernel_rfl) (by kernel_rfl) ?_
 simp only [go_sem, simprocAttr]
 refine anyc_ok (N := 3000) (call_does (fun v _ => v = .string nm) rfl rfl (by kernel_rfl) rfl (dk rfl) (fun G hG => hna G hG.wf)) (QOk_body _ _ _) rfl (by first | exact .inl rfl | exact .inr ⟨_, _, rfl, rfl⟩) ?_
 rintro _ ⟨_, G4, rfl, hn4, rfl⟩
 clear hn4
 simp only [go_sem, simprocAttr]
 refine anyc_ok (N := 3000) (call_does (fun v G => ∃ l : List Ver, l.Perm (s.vers.filter (selB nm ⟨#[]⟩)) ∧ (l.Pairwise fun a b => vLt b a = false) ∧ ∃ pv, v = .tuple #[pv, .bool (decide (((50 : Nat) : Int) < ((keysRows none ⟨#[]⟩ ⟨#[]⟩ (grpS l)).length : Int))), .int .i64 0] ∧ RowsG G pv ((keysRows none ⟨#[]⟩ ⟨#[]⟩ (grpS l)).take 50)) rfl rfl (by kernel_rfl) rfl (dk rfl) (fun G hG => lKeys_does (d := none) (most := 50) hG.wf (hP.mono (hG.le G1 (by simp))).g hok (Nat.zero_le _) hck (by omega) (by omega))) (QOk_body _ _ _) rfl (by first | exact .inl rfl | exact .inr ⟨_, _, rfl, rfl⟩) ?_
 rintro _ ⟨_, G5, ⟨e, he1, he2, qv, rfl, hqv⟩, hn5, rfl⟩
 clear hn5
 rw [hpU e he1 he2] at hqv ⊢
 rw [List.take_of_length_le (by omega)] at hqv
 obtain ⟨Au, cu, rfl, _⟩ := Sq.form hqv
 simp only [go_sem, simprocAttr]
 refine draw_ok (N := 3000) (.take 0 (.take 1 (.alt 2 (.alt 3 (.take 4 (.take 5 (.take 6 (.take 7 (.take 8 (.take 9 (.take 10 .done))))))) .last) .last))) [] (QOk_body _ _ _) follows_mixed (by kernel_rfl) (by kernel_rfl) ?_
 simp only [go_sem, simprocAttr]
 refine anyc_ok (N := 3000) (call_does (fun v _ => v = .string nm) rfl rfl (by kernel_rfl) rfl (dk rfl) (fun G hG => hna G hG.wf)) (QOk_body _ _ _) rfl (by first | exact .inl rfl | exact .inr ⟨_, _, rfl, rfl⟩) ?_
 rintro _ ⟨_, G6, rfl, hn6, rfl⟩
 clear hn6
 simp only [go_sem, simprocAttr]
 refine anyc_ok (N := 3000) (call_does (fun v _ => v = .tuple #[.slice none 0 0, .bool false, .int .i64 1]) rfl rfl (by kernel_rfl) rfl (dk rfl) (fun G hG => lKeys_long (dl := ⟨#[47, 47]⟩) hG.wf (hP.mono (hG.le G1 (by simp))).g hok (Nat.zero_le _) hck rfl)) (QOk_body _ _ _) rfl (by first | exact .inl rfl | exact .inr ⟨_, _, rfl, rfl⟩) ?_
 rintro _ ⟨_, G7, rfl, hn7, rfl⟩
 clear hn7
 have z0 : decide ((0 : Int) = 0) = true := rfl
 have z1 : decide ((1 : Int) = 1) = true := rfl
 simp only [go_sem, simprocAttr, z0, z1, Bool.not_true, Bool.not_false]
 refine loop_ok (N := 3000) (ι := Nat) (fun i => ⟨[(7, .c (.v (.slice Ad D.length cd))), (62, .c (.v (.slice Au U.length cu))), (63, .c (.v (.int .i64 (U.length : Int)))), (64, .c (.v (.int .i64 (i : Int))))], [], [], [], [G5, G3, ⟨Non, w⟩], 1⟩)
  (fun i => i ≤ U.length) (fun i => U.length - i) (QOk_body _ _ _) 0 (Nat.zero_le _) (by simp only [go_sem, simprocAttr]; simp) ?_
 rintro i hi
 by_cases hlt : i < U.length
 ·have q1 : decide ((i : Int) < (U.length : Int)) = true := decide_eq_true (by omega)
  obtain ⟨x, hx⟩ : ∃ x, U[i]? = some x := ⟨_, List.getElem?_eq_getElem hlt⟩
  obtain ⟨v, rfl, hcnt⟩ := hone x (List.mem_of_getElem? hx)
  obtain ⟨cn, hcn⟩ : ∃ cn : Nat → Nat, ∀ j, cn j = cntH (rowV v true) (D.take j) := ⟨_, fun _ => rfl⟩
  have hcb : ∀ j, cn j ≤ 5 := fun j => by rw [hcn]; exact Nat.le_trans (List.length_filter_le _ _) (Nat.le_trans (by rw [List.length_take]; omega) hD5)
  have hc0 : cn 0 = 0 := by rw [hcn]; rfl
  have hcl : cn D.length = 1 := by rw [hcn, List.take_length]; exact hcnt
  have hcs2 : ∀ j r, D[j]? = some r → cn (j + 1) = cn j + if hitR (rowV v true) r = true then 1 else 0 := fun j r h => by rw [hcn, hcn]; exact cntH_succ h
  clear hcn hcnt
  simp only [go_sem, simprocAttr, q1]
  refine pk (elem_does (R := RowMG) (l := U) (m := i) rfl tySlice52 tySize57 rfl rfl (dk rfl) rfl hx (fun G hG => Sq.mono hqv rowMG_mono (hG.le G5 (by simp)))) ?_
  rintro _ ⟨g4, o', cs, G8, hcl8, hcs, rfl⟩
  obtain rfl := hcs
  simp only [go_sem, simprocAttr, rowC, rowV]
  intro g5
  refine loop_ok (N := 3000) (ι := Nat) (fun j => ⟨[(7, .c (.v (.slice Ad D.length cd))), (62, .c (.v (.slice Au U.length cu))), (63, .c (.v (.int .i64 (U.length : Int)))), (64, .c (.v (.int .i64 (i : Int)))), (17, .c (.p 2 g5 0)), (18, .c (.v (.int .i64 (cn j : Int)))), (68, .c (.v (.slice Ad D.length cd))), (69, .c (.v (.int .i64 (D.length : Int)))), (70, .c (.v (.int .i64 (j : Int))))],
    [⟨2, g5, 57, [.v (.string v.key), .v (.bool false), .v (.int .i64 v.id), .v (.bool v.marker), .v (.bool true), .v (.int .i64 v.size), .v (.int .i64 v.tier)]⟩], [], [], [G5, G3, ⟨Non, w⟩], 3⟩)
   (fun j => j ≤ D.length) (fun j => D.length - j) (QOk_body _ _ _) 0 (Nat.zero_le _) (by simp only [go_sem, simprocAttr]; simp [hc0]) ?_
  rintro j hj
  by_cases hlt2 : j < D.length
  ·have q2 : decide ((j : Int) < (D.length : Int)) = true := decide_eq_true (by omega)
   obtain ⟨r, hr⟩ : ∃ r, D[j]? = some r := ⟨_, List.getElem?_eq_getElem hlt2⟩
   have hsu := hcs2 j r hr
   have hcj := hcb j
   simp only [go_sem, simprocAttr, q2]
   rcases hform r (List.mem_of_getElem? hr) with ⟨u, rfl⟩ | hk
   ·refine pk (elem_does (R := RowMG) (l := D) (m := j) rfl tySlice52 tySize57 rfl rfl (dk rfl) rfl hr (fun G hG => Sq.mono hpv rowMG_mono (hG.le G3 (by simp)))) ?_
    rintro _ ⟨g6, o6, cs, G9, hcl9, hcs, rfl⟩
    obtain rfl := hcs
    simp only [go_sem, simprocAttr, rowC, rowV]
    intro g7
    refine draw_ok (N := 3000) (.take 0 (.take 1 (.take 2 (.take 3 (.take 4 (.take 5 (.take 6 (.take 7 (.take 8 (.take 9 (.take 10 (.take 11 (.take 12 (.take 13 (.take 14 (.take 15 (.take 16 (.take 17 (.take 18 (.take 19 (.take 20 (.take 21 (.take 22 (.take 23 (.take 24 (.take 25 (.take 26 .done))))))))))))))))))))))))))) [] (QOk_body _ _ _) follows_mixed (by kernel_rfl) (by kernel_rfl) ?_
    simp only [go_sem, simprocAttr]
    refine whX_do rfl rfl rfl ?_
    refine take_bop (vx := .a ((rowC (rowV u true)).map .v)) (vy := .a ((rowC (rowV v true)).map .v)) (r := rowSame (rowV u true) (rowV v true)) rfl rfl rfl (fun w => row_guard _ _ _ (rowV u true) (rowV v true) w) (fun w => row_eql (rowV u true) (rowV v true) w) (dk rfl) ?_
    rw [hitP] at hsu
    simp only [go_sem, simprocAttr]
    refine Wb_mk (fun hsm => ?_) (fun hsm => ?_)
    ·rw [if_pos hsm] at hsu
     try rw [hsm]
     refine ⟨by omega, by omega, ?_⟩
     refine again_ok (j + 1) hlt2 (by omega) (by rw [hsu]; simp only [go_sem, simprocAttr]; simp)
    ·rw [if_neg (by rw [hsm]; exact Bool.false_ne_true)] at hsu
     rw [Nat.add_zero] at hsu
     try rw [hsm]
     refine ⟨by omega, ?_⟩
     refine again_ok (j + 1) hlt2 (by omega) (by rw [hsu]; simp only [go_sem, simprocAttr]; simp)
   ·obtain ⟨k, rfl⟩ : ∃ k, r = comR k := by rcases hk with rfl | rfl <;> exact ⟨_, rfl⟩
    refine pk (elem_does (R := RowMG) (l := D) (m := j) rfl tySlice52 tySize57 rfl rfl (dk rfl) rfl hr (fun G hG => Sq.mono hpv rowMG_mono (hG.le G3 (by simp)))) ?_
    rintro _ ⟨g6, o6, cs, G9, hcl9, hcs, rfl⟩
    obtain rfl := hcs
    simp only [go_sem, simprocAttr, rowC, comR]
    intro g7
    refine draw_ok (N := 3000) (.take 0 (.take 1 (.take 2 (.take 3 (.take 4 (.take 5 (.take 6 (.take 7 (.take 8 (.take 9 (.take 10 (.take 11 (.take 12 (.take 13 (.take 14 (.take 15 (.take 16 (.take 17 (.take 18 (.take 19 (.take 20 (.take 21 (.take 22 (.take 23 (.take 24 (.take 25 (.take 26 .done))))))))))))))))))))))))))) [] (QOk_body _ _ _) follows_mixed (by kernel_rfl) (by kernel_rfl) ?_
    rw [hitC] at hsu
    by_cases hz : k.size < v.key.size
    ·have qz : decide ((k.size : Int) < (v.key.size : Int)) = true := decide_eq_true (by omega)
     rw [decide_eq_true hz, Bool.true_and] at hsu
     by_cases hx2 : ((v.key.extract 0 k.size).toList == k.toList) = true
     ·rw [if_pos hx2] at hsu
      simp only [go_sem, simprocAttr, qz, hx2, Int.toNat_natCast, Bool.not_true, Bool.and_self, Bool.true_and]
      refine ⟨⟨by omega, by omega⟩, ?_⟩
      refine ⟨by omega, by omega, ?_⟩
      refine again_ok (j + 1) hlt2 (by omega) (by rw [hsu]; simp only [go_sem, simprocAttr]; simp)
     ·rw [if_neg hx2, Nat.add_zero] at hsu
      have hx3 := bool_no hx2
      simp only [go_sem, simprocAttr, qz, hx3, Int.toNat_natCast, Bool.not_false, Bool.true_and]
      refine ⟨⟨by omega, by omega⟩, ?_⟩
      refine whX_do rfl rfl rfl ?_
      refine take_bop (vx := .a ((rowC (comR k)).map .v)) (vy := .a ((rowC (rowV v true)).map .v)) (r := false) rfl rfl rfl (fun w => row_guard _ _ _ (comR k) (rowV v true) w) (fun w => by have h := row_eql (comR k) (rowV v true) w; rw [com_ne] at h; exact h) (dk rfl) ?_
      simp only [go_sem, simprocAttr]
      refine ⟨by omega, ?_⟩
      refine again_ok (j + 1) hlt2 (by omega) (by rw [hsu]; simp only [go_sem, simprocAttr]; simp)
    ·have qz : decide ((k.size : Int) < (v.key.size : Int)) = false := decide_eq_false (by omega)
     rw [decide_eq_false hz, Bool.false_and, if_neg (by simp), Nat.add_zero] at hsu
     simp only [go_sem, simprocAttr, qz, Bool.not_false, Bool.false_and]
     refine whX_do rfl rfl rfl ?_
     refine take_bop (vx := .a ((rowC (comR k)).map .v)) (vy := .a ((rowC (rowV v true)).map .v)) (r := false) rfl rfl rfl (fun w => row_guard _ _ _ (comR k) (rowV v true) w) (fun w => by have h := row_eql (comR k) (rowV v true) w; rw [com_ne] at h; exact h) (dk rfl) ?_
     simp only [go_sem, simprocAttr]
     refine ⟨by omega, ?_⟩
     refine again_ok (j + 1) hlt2 (by omega) (by rw [hsu]; simp only [go_sem, simprocAttr]; simp)
  ·have hil : j = D.length := by omega
   subst hil
   have q2 : decide ((D.length : Int) < (D.length : Int)) = false := decide_eq_false (by omega)
   rw [hcl]
   simp only [go_sem, simprocAttr, q2, z1, Bool.not_true]
   refine ⟨by omega, ?_⟩
   refine again_ok (i + 1) hlt (by omega) (by simp only [go_sem, simprocAttr]; simp)
 ·have hil : i = U.length := by omega
  subst hil
  have q1 : decide ((U.length : Int) < (U.length : Int)) = false := decide_eq_false (by omega)
  simp only [go_sem, simprocAttr, q1]
  refine loop_ok (N := 3000) (ι := Nat) (fun i => ⟨[(107, .c (.v (.slice Ad D.length cd))), (108, .c (.v (.int .i64 (D.length : Int)))), (109, .c (.v (.int .i64 (i : Int))))], [], [], [], [G3, ⟨Non, w⟩], 1⟩)
   (fun i => i ≤ D.length) (fun i => D.length - i) (QOk_body _ _ _) 0 (Nat.zero_le _) (by simp only [go_sem, simprocAttr]; simp) ?_
  rintro i hi
  by_cases hlt2 : i < D.length
  ·have q2 : decide ((i : Int) < (D.length : Int)) = true := decide_eq_true (by omega)
   obtain ⟨x, hx⟩ : ∃ x, D[i]? = some x := ⟨_, List.getElem?_eq_getElem hlt2⟩
   simp only [go_sem, simprocAttr, q2]
   rcases hform x (List.mem_of_getElem? hx) with ⟨u, rfl⟩ | rfl | rfl
   ·refine pk (elem_does (R := RowMG) (l := D) (m := i) rfl tySlice52 tySize57 rfl rfl (dk rfl) rfl hx (fun G hG => Sq.mono hpv rowMG_mono (hG.le G3 (by simp)))) ?_
    rintro _ ⟨g4, o', cs, G8, hcl8, hcs, rfl⟩
    obtain rfl := hcs
    simp only [go_sem, simprocAttr, rowC, rowV]
    intro g5
    refine ⟨by omega, ?_⟩
    refine again_ok (i + 1) hlt2 (by omega) (by simp only [go_sem, simprocAttr]; simp)
   ·refine pk (elem_does (R := RowMG) (l := D) (m := i) rfl tySlice52 tySize57 rfl rfl (dk rfl) rfl hx (fun G hG => Sq.mono hpv rowMG_mono (hG.le G3 (by simp)))) ?_
    rintro _ ⟨g4, o', cs, G8, hcl8, hcs, rfl⟩
    obtain rfl := hcs
    simp only [go_sem, simprocAttr, rowC, comR]
    intro g5
    have qb : decide (byteAt ⟨#[121, 47]⟩ 1 = 47) = true := rfl
    simp only [go_sem, simprocAttr, qb, Bool.not_true]
    refine ⟨by omega, ?_⟩
    refine again_ok (i + 1) hlt2 (by omega) (by simp only [go_sem, simprocAttr]; simp)
   ·refine pk (elem_does (R := RowMG) (l := D) (m := i) rfl tySlice52 tySize57 rfl rfl (dk rfl) rfl hx (fun G hG => Sq.mono hpv rowMG_mono (hG.le G3 (by simp)))) ?_
    rintro _ ⟨g4, o', cs, G8, hcl8, hcs, rfl⟩
    obtain rfl := hcs
    simp only [go_sem, simprocAttr, rowC, comR]
    intro g5
    have qb : decide (byteAt ⟨#[122, 47]⟩ 1 = 47) = true := rfl
    simp only [go_sem, simprocAttr, qb, Bool.not_true]
    refine ⟨by omega, ?_⟩
    refine again_ok (i + 1) hlt2 (by omega) (by simp only [go_sem, simprocAttr]; simp)
  ·have hil : i = D.length := by omega
   subst hil
   have q2 : decide ((D.length : Int) < (D.length : Int)) = false := decide_eq_false (by omega)
   simp only [go_sem, simprocAttr, q2]
   refine fin_ret (G := ⟨Non, w⟩) Tryz.results5 ?_
   simp only [go_sem, simprocAttr]
   intro aa w' _ hle
   rfl
theorem keysCommon_walk {w : World} (v0 : Value) (l0 : List Raw) (h0 : RawsG ⟨Non, w⟩ v0 l0) (n : Int) (hn : i64 n) : Calls Tryz.prog 5 #[v0, .int .i64 n] w fun e w' => e = .returned (.bool true) ∧ Below w.heap.size w w' := ret_walk (keysCommon_ret v0 l0 h0 n hn)
end Go.Proofs.YtohdfcnjcpjdcaaGreat
