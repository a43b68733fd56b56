/- 'icehousekeep.KeysPages' returns true for all raw things. Conditions: none. -/
import Derived.Test.YtohdfcnjcpjdcaaGreatVDy
namespace Go.Proofs.YtohdfcnjcpjdcaaGreat
open Go.RowKit
set_option linter.unusedSimpArgs false
def delimO (b : Bool) : Option UInt8 := if b then some 47 else none
set_option maxRecDepth 100000 in
set_option maxHeartbeats 16000000 in
theorem keysPages_ret {w : World} (v0 : Value) (l0 : List Raw) (h0 : RawsG ⟨Non, w⟩ v0 l0) (n : Int) (hn : i64 n) (a : Int) (ha : i64 a) (b : Bool) :
  Calls Tryz.prog 6 #[v0, .int .i64 n, .int .i64 a, .bool b] w (Ret ⟨Non, w⟩ fun v _ => v = .bool true) := by
 have hml := max_le
 have hok := stateS_ok l0 40
 have hnm := stateS_names l0 40
 have hke := stateS_keys l0 40
 obtain ⟨A0, c0, rfl, _, _⟩ := ScR.form h0
 refine enterS (G := ⟨Non, w⟩) (n := 111) 3000 (wf_nonL w) Tryz.func6 rfl Tryz.ntmps6 (by simp) ?_
 simp only [go_sem, simprocAttr]
 refine pk (call_does (fun v _ => v = .bool true) rfl rfl (by kernel_rfl) rfl (dk rfl) (fun G hG => lTells_does hG.wf)) ?_
 rintro _ ⟨_, GT, rfl, hnT, rfl⟩
 clear hnT
 simp only [go_sem, simprocAttr]
 refine pk (call_does (fun v G => ∃ sv ov, v = .tuple #[sv, ov] ∧ StaG G sv (stateS l0 40).1 ∧ RecsG G ov (stateS l0 40).2) rfl rfl (by kernel_rfl) rfl (dk rfl) (fun G hG => state_does (most := 40) hG.wf (ScR.mono h0 rawG_mono (hG.le ⟨Non, w⟩ (by simp))) (by omega))) ?_
 rintro _ ⟨_, G1, ⟨sv, ov, rfl, hs, ho⟩, hn1, rfl⟩
 clear hn1
 obtain ⟨A1, c1, A2, c2, A3, c3, A4, c4, A5, c5, rfl, hP⟩ := hs.form
 obtain ⟨Ao, co, rfl, _⟩ := Sq.form ho
 obtain ⟨s, hsd⟩ : ∃ s, s = (stateS l0 40).1 := ⟨_, rfl⟩
 obtain ⟨rs, hrd⟩ : ∃ rs, rs = (stateS l0 40).2 := ⟨_, rfl⟩
 rw [← hsd] at hok hnm hke hP hs ⊢
 rw [← hrd] at ho ⊢
 clear hsd hrd ho
 have hgd := okSt_good.1 hok
 have hvl := hgd.vlen
 have hck := chk_ok hnm n (most := 50) (by omega) (by omega)
 obtain ⟨hp1, hp2⟩ := pick_bd a 3 (by omega)
 obtain ⟨k, hkd⟩ : ∃ k, k = pick a 3 := ⟨_, rfl⟩
 rw [← hkd] at hp1 hp2
 obtain ⟨N, hNd⟩ : ∃ N : Nat, (N : Int) = 1 + k := ⟨(1 + k).toNat, by omega⟩
 have hN1 : 1 ≤ N := by omega
 have hN3 : N ≤ 3 := by omega
 have hckN := chk_ok hnm n (most := (N : Int)) (by omega) (by omega)
 obtain ⟨nm, hnmd⟩ : ∃ nm, nm = nameS n := ⟨_, rfl⟩
 rw [← hnmd] at hck hckN
 have hna : ∀ (G : GW), G.Wf → Calls Tryz.prog 18 #[.int .i64 n] G.w (Ret G fun v _ => v = .string nm) := fun G hW => by rw [hnmd]; exact name_does hW hn
 clear hnmd
 obtain ⟨U, hU⟩ : ∃ U, U = allR s nm ⟨#[]⟩ (delimO b) := ⟨_, rfl⟩
 have hU5 : U.length ≤ 5 := by rw [hU]; exact allR_len _ _ _ _
 simp only [go_sem, simprocAttr]
 intro g1
 refine pk (call_does (fun v _ => v = .int .i64 k) rfl rfl (by kernel_rfl) rfl (dk rfl) (fun G hG => by rw [hkd]; exact picked_does hG.wf ha (by omega) (by omega))) ?_
 rintro _ ⟨_, GP, rfl, hnP, rfl⟩
 clear hnP
 simp only [go_sem, simprocAttr]
 refine ⟨by omega, ?_⟩
 rw [← hNd]
 refine Wb_mk (fun hb => ?_) (fun hb => ?_)
 ·subst hb
  have hpage := fun (l : List Ver) h1 h2 => page_rows (l := l) hgd hke (nm := nm) (d := (some 47)) (by simp) h1 h2
  have hU0 : allR s nm ⟨#[]⟩ (some 47) = U := hU.symm
  rw [hU0] at hpage
  refine draw_ok (N := 3000) (.take 0 (.take 1 (.take 3 (.alt 2 (.alt 4 (.take 5 (.take 6 (.take 7 (.take 8 (.take 9 (.take 10 (.take 11 .done))))))) .last) .last)))) [] (QOk_body _ _ _) follows_mixed (by kernel_rfl) (by kernel_rfl) ?_
  simp only [go_sem, simprocAttr]
  refine anyc_ok (N := 3000) (call_does (fun v _ => v = .string nm) rfl rfl (by kernel_rfl) rfl (dk rfl) (fun G hG => hna G hG.wf)) (QOk_body _ _ _) rfl (by first | exact .inl rfl | exact .inr ⟨_, _, rfl, rfl⟩) ?_
  rintro _ ⟨_, G2, rfl, hn2, rfl⟩
  clear hn2
  simp only [go_sem, simprocAttr]
  refine anyc_ok (N := 3000) (call_does (fun v G => ∃ l : List Ver, l.Perm (s.vers.filter (selB nm ⟨#[]⟩)) ∧ (l.Pairwise fun a b => vLt b a = false) ∧ ∃ pv, v = .tuple #[pv, .bool (decide (((50 : Nat) : Int) < ((keysRows (some 47) ⟨#[]⟩ ⟨#[]⟩ (grpS l)).length : Int))), .int .i64 0] ∧ RowsG G pv ((keysRows (some 47) ⟨#[]⟩ ⟨#[]⟩ (grpS l)).take 50)) rfl rfl (by kernel_rfl) rfl (dk rfl) (fun G hG => lKeys_does (d := (some 47)) (most := 50) hG.wf (hP.mono (hG.le G1 (by simp))).g hok (Nat.zero_le _) hck (by omega) (by omega))) (QOk_body _ _ _) rfl (by first | exact .inl rfl | exact .inr ⟨_, _, rfl, rfl⟩) ?_
  rintro _ ⟨_, G3, ⟨d, hd1, hd2, pv, rfl, hpv⟩, hn3, rfl⟩
  clear hn3
  rw [show keysRows (some 47) ⟨#[]⟩ ⟨#[]⟩ (grpS d) = U from hpage d hd1 hd2 0 (Nat.zero_le _)] at hpv ⊢
  rw [List.take_of_length_le (by omega)] at hpv
  obtain ⟨Ar, cr, rfl, _⟩ := Sq.form hpv
  simp only [go_sem, simprocAttr]
  refine row_ok 57 7 ?_
  refine loop_ok (N := 3000) (ι := Nat × (Option Addr × Nat)) (fun x => match x with | (m, (A, c)) => ⟨[(1, .c (.v (.int .i64 n))), (9, .c (.p 0 g1 0)), (11, .c (.v (.int .i64 (N : Int)))), (12, .c (.v (.string ⟨#[47]⟩))), (13, .c (.v (.slice Ar U.length cr))), (15, .c (.v (.int .i64 0))), (16, .c (.v (.slice A (U.take (m * N)).length c))), (17, .c (.v (.string (aft U (m * N))))), (18, .c (.v (.int .i64 (m : Int))))],
    [⟨0, g1, 30, [.v (.int .i64 s.next), .v (.int .i64 s.clock), .v (.slice A1 s.bkts.length c1), .v (.slice A2 s.vers.length c2), .v (.slice A3 s.upls.length c3), .v (.slice A4 s.queue.length c4), .v (.slice A5 s.gone.length c5)]⟩], [rowRow (.slice A (U.take (m * N)).length c) (U.take (m * N))], [], [G3, G1, ⟨Non, w⟩], 1⟩)
   (fun x => x.1 = 0 ∨ x.1 * N < U.length) (fun x => 20 - x.1) (QOk_body _ _ _) (0, (none, 0)) (.inl rfl) (by simp only [go_sem, simprocAttr, rowRow]; simp [aft]) ?_
  rintro ⟨m, ⟨A, c⟩⟩ hm
  simp only at hm ⊢
  have hmN : m ≤ m * N := Nat.le_mul_of_pos_right _ hN1
  have hm20 : m < 20 := by rcases hm with h | h <;> omega
  have hmU : m * N ≤ U.length := hm.elim (fun h => by rw [h, Nat.zero_mul]; omega) (fun h => by omega)
  have q1 : decide ((m : Int) < 20) = true := decide_eq_true (by omega)
  simp only [go_sem, simprocAttr, q1]
  refine draw_ok (N := 3000) (.take 0 (.take 1 (.take 3 (.take 4 (.take 5 (.alt 2 (.alt 6 (.take 7 (.take 8 (.take 9 (.take 10 (.take 11 (.take 12 (.take 13 .done))))))) .last) .last)))))) [] (QOk_body _ _ _) follows_mixed (by kernel_rfl) (by kernel_rfl) ?_
  simp only [go_sem, simprocAttr]
  refine anyc_ok (N := 3000) (call_does (fun v _ => v = .string nm) rfl rfl (by kernel_rfl) rfl (dk rfl) (fun G hG => hna G hG.wf)) (QOk_body _ _ _) rfl (by first | exact .inl rfl | exact .inr ⟨_, _, rfl, rfl⟩) ?_
  rintro _ ⟨_, G4, rfl, hn4, rfl⟩
  clear hn4
  simp only [go_sem, simprocAttr]
  refine anyc_ok (N := 3000) (call_does (fun v G => ∃ l : List Ver, l.Perm (s.vers.filter (selB nm ⟨#[]⟩)) ∧ (l.Pairwise fun a b => vLt b a = false) ∧ ∃ pv, v = .tuple #[pv, .bool (decide ((N : Int) < ((keysRows (some 47) ⟨#[]⟩ (aft U (m * N)) (grpS l)).length : Int))), .int .i64 0] ∧ RowsG G pv ((keysRows (some 47) ⟨#[]⟩ (aft U (m * N)) (grpS l)).take N)) rfl rfl (by kernel_rfl) rfl (dk rfl) (fun G hG => lKeys_does (d := (some 47)) (most := N) hG.wf (hP.mono (hG.le G1 (by simp))).g hok (Nat.zero_le _) hckN (by omega) (by omega))) (QOk_body _ _ _) rfl (by first | exact .inl rfl | exact .inr ⟨_, _, rfl, rfl⟩) ?_
  rintro _ ⟨_, G5, ⟨e, he1, he2, qv, rfl, hqv⟩, hn5, rfl⟩
  clear hn5
  rw [hpage e he1 he2 (m * N) hmU] at hqv ⊢
  have hUs : U.take ((m + 1) * N) = U.take (m * N) ++ (U.drop (m * N)).take N := by rw [Nat.succ_mul, List.take_add]
  have hdl : (U.drop (m * N)).length = U.length - m * N := List.length_drop
  have htl : (U.take (m * N)).length = m * N := List.length_take_of_le hmU
  obtain ⟨rows, hrw⟩ : ∃ rows, rows = (U.drop (m * N)).take N := ⟨_, rfl⟩
  have hrl : rows.length = min N (U.length - m * N) := by rw [hrw, List.length_take, hdl]
  rw [← hrw] at hqv hUs
  rw [hdl]
  obtain ⟨Aq, cq, rfl, _⟩ := Sq.form hqv
  have q2 : decide ((N : Int) < (rows.length : Int)) = false := decide_eq_false (by omega)
  have q3 : decide ((0 : Int) = 0) = true := rfl
  by_cases hmore : N < U.length - m * N
  ·have qm : decide ((N : Int) < ((U.length - m * N : Nat) : Int)) = true := decide_eq_true (by omega)
   have q4 : decide ((rows.length : Int) = (N : Int)) = true := decide_eq_true (by omega)
   rw [qm]
   simp only [go_sem, simprocAttr, q2, q3, q4, Bool.not_true, Bool.not_false]
   refine pk (append_does (R1 := []) (news := rows.flatMap rowC) rfl tySlice52 tyApp57 rfl rfl rfl rfl (dk rfl) (fun u hu => by obtain ⟨x, _, hx⟩ := List.mem_flatMap.1 hu; exact rowC_one x u hx) (by unfold maxLen; omega) (by omega) (fun G hG => (sq_flat (f := rowC) (fun _ _ _ h => h) (Sq.mono hqv rowMG_mono (hG.le G5 (by simp)))).tsl)) ?_
   rintro _ ⟨A', c', rfl⟩
   have hlt : m * N + N < U.length := by omega
   obtain ⟨x, hx⟩ : ∃ x, rows[N - 1]? = some x := ⟨_, List.getElem?_eq_getElem (by omega)⟩
   have hxU : U[(m + 1) * N - 1]? = some x := by
    rw [hrw, List.getElem?_take_of_lt (by omega), List.getElem?_drop] at hx
    rw [← hx, Nat.succ_mul]
    congr 1
    omega
   have hax := aft_at (k := (m + 1) * N) (by rw [Nat.succ_mul]; omega) hxU
   have hcast : (rows.length : Int) - 1 = ((N - 1 : Nat) : Int) := by omega
   simp only [go_sem, simprocAttr]
   refine ⟨by omega, ?_⟩
   refine pk (elem_does (R := RowMG) (l := rows) (m := N - 1) rfl tySlice52 tySize57 rfl rfl (dk rfl) hcast hx (fun G hG => Sq.mono hqv rowMG_mono (hG.le G5 (by simp)))) ?_
   rintro _ ⟨g4, o', cs, G6, hcl6, hcs, rfl⟩
   obtain rfl := hcs
   simp only [go_sem, simprocAttr, rowC]
   refine ⟨by omega, ?_⟩
   refine again_ok (m + 1, (A', c')) (.inr (by rw [Nat.succ_mul]; exact hlt)) (by show 20 - (m + 1) < 20 - m; omega) (by rw [hUs, List.length_append, hax]; simp only [go_sem, simprocAttr, rowRow]; simp)
  ·have qm : decide ((N : Int) < ((U.length - m * N : Nat) : Int)) = false := decide_eq_false (by omega)
   rw [qm]
   simp only [go_sem, simprocAttr, q2, q3, Bool.not_true, Bool.not_false]
   refine pk (append_does (R1 := []) (news := rows.flatMap rowC) rfl tySlice52 tyApp57 rfl rfl rfl rfl (dk rfl) (fun u hu => by obtain ⟨x, _, hx⟩ := List.mem_flatMap.1 hu; exact rowC_one x u hx) (by unfold maxLen; omega) (by omega) (fun G hG => (sq_flat (f := rowC) (fun _ _ _ h => h) (Sq.mono hqv rowMG_mono (hG.le G5 (by simp)))).tsl)) ?_
   rintro _ ⟨A', c', rfl⟩
   have hlast : U.take ((m + 1) * N) = U := List.take_of_length_le (by rw [Nat.succ_mul]; omega)
   rw [hlast] at hUs
   have hUl : (U.take (m * N)).length + rows.length = U.length := by omega
   have hUx : (U.take (m * N)).flatMap rowC ++ rows.flatMap rowC = U.flatMap rowC := by rw [← List.flatMap_append, ← hUs]
   rw [hUl, hUx]
   have q5 : decide ((U.length : Int) = (U.length : Int)) = true := decide_eq_true rfl
   simp only [go_sem, simprocAttr, q3, q5, Bool.not_true, Bool.not_false]
   refine read_ok (R1 := []) (R2 := []) rfl (fun G8 hle8 hsl8 => ?_) (fun _ _ q => q) (by show (7 : Nat) ≠ 0; decide)
   have hgot : RowsG G8 (.slice A' U.length c') U := rows_of hsl8
   refine loop_ok (N := 3000) (ι := Nat) (fun i => ⟨[(13, .c (.v (.slice Ar U.length cr))), (16, .c (.v (.slice A' U.length c'))), (97, .c (.v (.int .i64 (U.length : Int)))), (98, .c (.v (.int .i64 (i : Int))))], [], [], [], [G8, G3, ⟨Non, w⟩], 1⟩)
    (fun i => i ≤ U.length) (fun i => U.length - i) (QOk_body _ _ _) 0 (Nat.zero_le _) (by simp only [go_sem, simprocAttr]; simp) ?_
   rintro i hi
   by_cases hlt : i < U.length
   ·have q6 : decide ((i : Int) < (U.length : Int)) = true := decide_eq_true (by omega)
    obtain ⟨x, hx⟩ : ∃ x, U[i]? = some x := ⟨_, List.getElem?_eq_getElem hlt⟩
    simp only [go_sem, simprocAttr, q6]
    refine preview_ok (R := RowMG) (kc := 7) hx (fun G hG => (Sq.mono hpv rowMG_mono (hG G3 (by simp))).sc) fun ga oa csa Ga hAa hcla hcsa hlea => ?_
    subst hAa
    obtain rfl := hcsa
    clear hlea
    simp only [go_sem, simprocAttr]
    refine preview_ok (R := RowMG) (kc := 7) hx (fun G hG => (Sq.mono hgot rowMG_mono (hG G8 (by simp))).sc) fun gb ob csb Gb hAb hclb hcsb hleb => ?_
    subst hAb
    obtain rfl := hcsb
    clear hleb
    simp only [go_sem, simprocAttr, rowC]
    refine draw_ok (N := 3000) (.take 0 (.take 1 (.take 2 (.take 3 (.take 4 (.take 5 (.take 6 (.take 7 (.take 8 .done))))))))) [] (QOk_body _ _ _) follows_mixed (by kernel_rfl) (by kernel_rfl) ?_
    simp only [go_sem, simprocAttr]
    refine take_elem 1 (m := i) rfl tySlice52 tySize57 rfl rfl (dk rfl) rfl hlt ?_
    simp only [go_sem, simprocAttr]
    refine take_elem 2 (m := i) rfl tySlice52 tySize57 rfl rfl (dk rfl) rfl hlt ?_
    simp only [go_sem, simprocAttr]
    refine take_bop (vx := .a ((rowC x).map .v)) (vy := .a ((rowC x).map .v)) (r := false) rfl rfl rfl (fun w => row_guard _ _ _ x x w) (fun w => by have h := row_neq x x w; rw [rowSame_self] at h; exact h) (dk rfl) ?_
    simp only [go_sem, simprocAttr]
    refine ⟨by omega, ?_⟩
    refine again_ok (i + 1) hlt (by omega) (by simp only [go_sem, simprocAttr]; simp)
   ·have hil : i = U.length := by omega
    subst hil
    have q6 : decide ((U.length : Int) < (U.length : Int)) = false := decide_eq_false (by omega)
    simp only [go_sem, simprocAttr, q6]
    refine fin_ret (G := ⟨Non, w⟩) Tryz.results6 ?_
    simp only [go_sem, simprocAttr]
    intro aa w' _ hle
    rfl
 ·subst hb
  have hpage := fun (l : List Ver) h1 h2 => page_rows (l := l) hgd hke (nm := nm) (d := none) (by simp) h1 h2
  have hU0 : allR s nm ⟨#[]⟩ none = U := hU.symm
  rw [hU0] at hpage
  refine draw_ok (N := 3000) (.take 0 (.take 1 (.take 3 (.alt 2 (.alt 4 (.take 5 (.take 6 (.take 7 (.take 8 (.take 9 (.take 10 (.take 11 .done))))))) .last) .last)))) [] (QOk_body _ _ _) follows_mixed (by kernel_rfl) (by kernel_rfl) ?_
  simp only [go_sem, simprocAttr]
  refine anyc_ok (N := 3000) (call_does (fun v _ => v = .string nm) rfl rfl (by kernel_rfl) rfl (dk rfl) (fun G hG => hna G hG.wf)) (QOk_body _ _ _) rfl (by first | exact .inl rfl | exact .inr ⟨_, _, rfl, rfl⟩) ?_
  rintro _ ⟨_, G2, rfl, hn2, rfl⟩
  clear hn2
  simp only [go_sem, simprocAttr]
  refine anyc_ok (N := 3000) (call_does (fun v G => ∃ l : List Ver, l.Perm (s.vers.filter (selB nm ⟨#[]⟩)) ∧ (l.Pairwise fun a b => vLt b a = false) ∧ ∃ pv, v = .tuple #[pv, .bool (decide (((50 : Nat) : Int) < ((keysRows none ⟨#[]⟩ ⟨#[]⟩ (grpS l)).length : Int))), .int .i64 0] ∧ RowsG G pv ((keysRows none ⟨#[]⟩ ⟨#[]⟩ (grpS l)).take 50)) rfl rfl (by kernel_rfl) rfl (dk rfl) (fun G hG => lKeys_does (d := none) (most := 50) hG.wf (hP.mono (hG.le G1 (by simp))).g hok (Nat.zero_le _) hck (by omega) (by omega))) (QOk_body _ _ _) rfl (by first | exact .inl rfl | exact .inr ⟨_, _, rfl, rfl⟩) ?_
  rintro _ ⟨_, G3, ⟨d, hd1, hd2, pv, rfl, hpv⟩, hn3, rfl⟩
  clear hn3
  rw [show keysRows none ⟨#[]⟩ ⟨#[]⟩ (grpS d) = U from hpage d hd1 hd2 0 (Nat.zero_le _)] at hpv ⊢
  rw [List.take_of_length_le (by omega)] at hpv
  obtain ⟨Ar, cr, rfl, _⟩ := Sq.form hpv
  simp only [go_sem, simprocAttr]
  refine row_ok 57 7 ?_
  refine loop_ok (N := 3000) (ι := Nat × (Option Addr × Nat)) (fun x => match x with | (m, (A, c)) => ⟨[(1, .c (.v (.int .i64 n))), (9, .c (.p 0 g1 0)), (11, .c (.v (.int .i64 (N : Int)))), (12, .c (.v (.string ⟨#[]⟩))), (13, .c (.v (.slice Ar U.length cr))), (15, .c (.v (.int .i64 0))), (16, .c (.v (.slice A (U.take (m * N)).length c))), (17, .c (.v (.string (aft U (m * N))))), (18, .c (.v (.int .i64 (m : Int))))],
    [⟨0, g1, 30, [.v (.int .i64 s.next), .v (.int .i64 s.clock), .v (.slice A1 s.bkts.length c1), .v (.slice A2 s.vers.length c2), .v (.slice A3 s.upls.length c3), .v (.slice A4 s.queue.length c4), .v (.slice A5 s.gone.length c5)]⟩], [rowRow (.slice A (U.take (m * N)).length c) (U.take (m * N))], [], [G3, G1, ⟨Non, w⟩], 1⟩)
   (fun x => x.1 = 0 ∨ x.1 * N < U.length) (fun x => 20 - x.1) (QOk_body _ _ _) (0, (none, 0)) (.inl rfl) (by simp only [go_sem, simprocAttr, rowRow]; simp [aft]) ?_
  rintro ⟨m, ⟨A, c⟩⟩ hm
  simp only at hm ⊢
  have hmN : m ≤ m * N := Nat.le_mul_of_pos_right _ hN1
  have hm20 : m < 20 := by rcases hm with h | h <;> omega
  have hmU : m * N ≤ U.length := hm.elim (fun h => by rw [h, Nat.zero_mul]; omega) (fun h => by omega)
  have q1 : decide ((m : Int) < 20) = true := decide_eq_true (by omega)
  simp only [go_sem, simprocAttr, q1]
  refine draw_ok (N := 3000) (.take 0 (.take 1 (.take 3 (.take 4 (.take 5 (.alt 2 (.alt 6 (.take 7 (.take 8 (.take 9 (.take 10 (.take 11 (.take 12 (.take 13 .done))))))) .last) .last)))))) [] (QOk_body _ _ _) follows_mixed (by kernel_rfl) (by kernel_rfl) ?_
  simp only [go_sem, simprocAttr]
  refine anyc_ok (N := 3000) (call_does (fun v _ => v = .string nm) rfl rfl (by kernel_rfl) rfl (dk rfl) (fun G hG => hna G hG.wf)) (QOk_body _ _ _) rfl (by first | exact .inl rfl | exact .inr ⟨_, _, rfl, rfl⟩) ?_
  rintro _ ⟨_, G4, rfl, hn4, rfl⟩
  clear hn4
  simp only [go_sem, simprocAttr]
  refine anyc_ok (N := 3000) (call_does (fun v G => ∃ l : List Ver, l.Perm (s.vers.filter (selB nm ⟨#[]⟩)) ∧ (l.Pairwise fun a b => vLt b a = false) ∧ ∃ pv, v = .tuple #[pv, .bool (decide ((N : Int) < ((keysRows none ⟨#[]⟩ (aft U (m * N)) (grpS l)).length : Int))), .int .i64 0] ∧ RowsG G pv ((keysRows none ⟨#[]⟩ (aft U (m * N)) (grpS l)).take N)) rfl rfl (by kernel_rfl) rfl (dk rfl) (fun G hG => lKeys_does (d := none) (most := N) hG.wf (hP.mono (hG.le G1 (by simp))).g hok (Nat.zero_le _) hckN (by omega) (by omega))) (QOk_body _ _ _) rfl (by first | exact .inl rfl | exact .inr ⟨_, _, rfl, rfl⟩) ?_
  rintro _ ⟨_, G5, ⟨e, he1, he2, qv, rfl, hqv⟩, hn5, rfl⟩
  clear hn5
  rw [hpage e he1 he2 (m * N) hmU] at hqv ⊢
  have hUs : U.take ((m + 1) * N) = U.take (m * N) ++ (U.drop (m * N)).take N := by rw [Nat.succ_mul, List.take_add]
  have hdl : (U.drop (m * N)).length = U.length - m * N := List.length_drop
  have htl : (U.take (m * N)).length = m * N := List.length_take_of_le hmU
  obtain ⟨rows, hrw⟩ : ∃ rows, rows = (U.drop (m * N)).take N := ⟨_, rfl⟩
  have hrl : rows.length = min N (U.length - m * N) := by rw [hrw, List.length_take, hdl]
  rw [← hrw] at hqv hUs
  rw [hdl]
  obtain ⟨Aq, cq, rfl, _⟩ := Sq.form hqv
  have q2 : decide ((N : Int) < (rows.length : Int)) = false := decide_eq_false (by omega)
  have q3 : decide ((0 : Int) = 0) = true := rfl
  by_cases hmore : N < U.length - m * N
  ·have qm : decide ((N : Int) < ((U.length - m * N : Nat) : Int)) = true := decide_eq_true (by omega)
   have q4 : decide ((rows.length : Int) = (N : Int)) = true := decide_eq_true (by omega)
   rw [qm]
   simp only [go_sem, simprocAttr, q2, q3, q4, Bool.not_true, Bool.not_false]
   refine pk (append_does (R1 := []) (news := rows.flatMap rowC) rfl tySlice52 tyApp57 rfl rfl rfl rfl (dk rfl) (fun u hu => by obtain ⟨x, _, hx⟩ := List.mem_flatMap.1 hu; exact rowC_one x u hx) (by unfold maxLen; omega) (by omega) (fun G hG => (sq_flat (f := rowC) (fun _ _ _ h => h) (Sq.mono hqv rowMG_mono (hG.le G5 (by simp)))).tsl)) ?_
   rintro _ ⟨A', c', rfl⟩
   have hlt : m * N + N < U.length := by omega
   obtain ⟨x, hx⟩ : ∃ x, rows[N - 1]? = some x := ⟨_, List.getElem?_eq_getElem (by omega)⟩
   have hxU : U[(m + 1) * N - 1]? = some x := by
    rw [hrw, List.getElem?_take_of_lt (by omega), List.getElem?_drop] at hx
    rw [← hx, Nat.succ_mul]
    congr 1
    omega
   have hax := aft_at (k := (m + 1) * N) (by rw [Nat.succ_mul]; omega) hxU
   have hcast : (rows.length : Int) - 1 = ((N - 1 : Nat) : Int) := by omega
   simp only [go_sem, simprocAttr]
   refine ⟨by omega, ?_⟩
   refine pk (elem_does (R := RowMG) (l := rows) (m := N - 1) rfl tySlice52 tySize57 rfl rfl (dk rfl) hcast hx (fun G hG => Sq.mono hqv rowMG_mono (hG.le G5 (by simp)))) ?_
   rintro _ ⟨g4, o', cs, G6, hcl6, hcs, rfl⟩
   obtain rfl := hcs
   simp only [go_sem, simprocAttr, rowC]
   refine ⟨by omega, ?_⟩
   refine again_ok (m + 1, (A', c')) (.inr (by rw [Nat.succ_mul]; exact hlt)) (by show 20 - (m + 1) < 20 - m; omega) (by rw [hUs, List.length_append, hax]; simp only [go_sem, simprocAttr, rowRow]; simp)
  ·have qm : decide ((N : Int) < ((U.length - m * N : Nat) : Int)) = false := decide_eq_false (by omega)
   rw [qm]
   simp only [go_sem, simprocAttr, q2, q3, Bool.not_true, Bool.not_false]
   refine pk (append_does (R1 := []) (news := rows.flatMap rowC) rfl tySlice52 tyApp57 rfl rfl rfl rfl (dk rfl) (fun u hu => by obtain ⟨x, _, hx⟩ := List.mem_flatMap.1 hu; exact rowC_one x u hx) (by unfold maxLen; omega) (by omega) (fun G hG => (sq_flat (f := rowC) (fun _ _ _ h => h) (Sq.mono hqv rowMG_mono (hG.le G5 (by simp)))).tsl)) ?_
   rintro _ ⟨A', c', rfl⟩
   have hlast : U.take ((m + 1) * N) = U := List.take_of_length_le (by rw [Nat.succ_mul]; omega)
   rw [hlast] at hUs
   have hUl : (U.take (m * N)).length + rows.length = U.length := by omega
   have hUx : (U.take (m * N)).flatMap rowC ++ rows.flatMap rowC = U.flatMap rowC := by rw [← List.flatMap_append, ← hUs]
   rw [hUl, hUx]
   have q5 : decide ((U.length : Int) = (U.length : Int)) = true := decide_eq_true rfl
   simp only [go_sem, simprocAttr, q3, q5, Bool.not_true, Bool.not_false]
   refine read_ok (R1 := []) (R2 := []) rfl (fun G8 hle8 hsl8 => ?_) (fun _ _ q => q) (by show (7 : Nat) ≠ 0; decide)
   have hgot : RowsG G8 (.slice A' U.length c') U := rows_of hsl8
   refine loop_ok (N := 3000) (ι := Nat) (fun i => ⟨[(13, .c (.v (.slice Ar U.length cr))), (16, .c (.v (.slice A' U.length c'))), (97, .c (.v (.int .i64 (U.length : Int)))), (98, .c (.v (.int .i64 (i : Int))))], [], [], [], [G8, G3, ⟨Non, w⟩], 1⟩)
    (fun i => i ≤ U.length) (fun i => U.length - i) (QOk_body _ _ _) 0 (Nat.zero_le _) (by simp only [go_sem, simprocAttr]; simp) ?_
   rintro i hi
   by_cases hlt : i < U.length
   ·have q6 : decide ((i : Int) < (U.length : Int)) = true := decide_eq_true (by omega)
    obtain ⟨x, hx⟩ : ∃ x, U[i]? = some x := ⟨_, List.getElem?_eq_getElem hlt⟩
    simp only [go_sem, simprocAttr, q6]
    refine preview_ok (R := RowMG) (kc := 7) hx (fun G hG => (Sq.mono hpv rowMG_mono (hG G3 (by simp))).sc) fun ga oa csa Ga hAa hcla hcsa hlea => ?_
    subst hAa
    obtain rfl := hcsa
    clear hlea
    simp only [go_sem, simprocAttr]
    refine preview_ok (R := RowMG) (kc := 7) hx (fun G hG => (Sq.mono hgot rowMG_mono (hG G8 (by simp))).sc) fun gb ob csb Gb hAb hclb hcsb hleb => ?_
    subst hAb
    obtain rfl := hcsb
    clear hleb
    simp only [go_sem, simprocAttr, rowC]
    refine draw_ok (N := 3000) (.take 0 (.take 1 (.take 2 (.take 3 (.take 4 (.take 5 (.take 6 (.take 7 (.take 8 .done))))))))) [] (QOk_body _ _ _) follows_mixed (by kernel_rfl) (by kernel_rfl) ?_
    simp only [go_sem, simprocAttr]
    refine take_elem 1 (m := i) rfl tySlice52 tySize57 rfl rfl (dk rfl) rfl hlt ?_
    simp only [go_sem, simprocAttr]
    refine take_elem 2 (m := i) rfl tySlice52 tySize57 rfl rfl (dk rfl) rfl hlt ?_
    simp only [go_sem, simprocAttr]
    refine take_bop (vx := .a ((rowC x).map .v)) (vy := .a ((rowC x).map .v)) (r := false) rfl rfl rfl (fun w => row_guard _ _ _ x x w) (fun w => by have h := row_neq x x w; rw [rowSame_self] at h; exact h) (dk rfl) ?_
    simp only [go_sem, simprocAttr]
    refine ⟨by omega, ?_⟩
    refine again_ok (i + 1) hlt (by omega) (by simp only [go_sem, simprocAttr]; simp)
   ·have hil : i = U.length := by omega
    subst hil
    have q6 : decide ((U.length : Int) < (U.length : Int)) = false := decide_eq_false (by omega)
    simp only [go_sem, simprocAttr, q6]
    refine fin_ret (G := ⟨Non, w⟩) Tryz.results6 ?_
    simp only [go_sem, simprocAttr]
    intro aa w' _ hle
    rfl
theorem keysPages_walk {w : World} (v0 : Value) (l0 : List Raw) (h0 : RawsG ⟨Non, w⟩ v0 l0) (n : Int) (hn : i64 n) (a : Int) (ha : i64 a) (b : Bool) : Calls Tryz.prog 6 #[v0, .int .i64 n, .int .i64 a, .bool b] w fun e w' => e = .returned (.bool true) ∧ Below w.heap.size w w' := ret_walk (keysPages_ret v0 l0 h0 n hn a ha b)
end Go.Proofs.YtohdfcnjcpjdcaaGreat
