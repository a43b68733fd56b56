/- 'icehousekeep.KeysOrder' returns true for all raw things. Conditions: none. -/
import Derived.Test.YtohdfcnjcpjdcaaGreatVEw
namespace Go.Proofs.YtohdfcnjcpjdcaaGreat
open Go.RowKit
set_option linter.unusedSimpArgs false
set_option maxRecDepth 100000 in
set_option maxHeartbeats 16000000 in
theorem keysOrder_ret {w : World} (v0 : Value) (l0 : List Raw) (h0 : RawsG ⟨Non, w⟩ v0 l0) (n : Int) (hn : i64 n) (p : Int) (hp : i64 p) :
  Calls Tryz.prog 8 #[v0, .int .i64 n, .int .i64 p] w (Ret ⟨Non, w⟩ fun v _ => v = .bool true) := by
 have hml := max_le
 have hok := stateS_ok l0 40
 have hnm := stateS_names l0 40
 have hke := stateS_keys l0 40
 obtain ⟨A0, c0, rfl, _, _⟩ := ScR.form h0
 obtain ⟨k3, hk3, hlt3⟩ := pickN p 3 (by omega)
 have hlt3' : k3 < 3 := by omega
 refine enterS (G := ⟨Non, w⟩) (n := 184) 3000 (wf_nonL w) Tryz.func8 rfl Tryz.ntmps8 (by simp) ?_
 simp only [go_sem, simprocAttr]
 refine pk (call_does (fun v G => ∃ sv ov, v = .tuple #[sv, ov] ∧ StaG G sv (stateS l0 40).1 ∧ RecsG G ov (stateS l0 40).2) rfl rfl (by kernel_rfl) rfl (dk rfl) (fun G hG => state_does (most := 40) hG.wf (ScR.mono h0 rawG_mono (hG.le ⟨Non, w⟩ (by simp))) (by omega))) ?_
 rintro _ ⟨_, G1, ⟨sv, ov, rfl, hs, ho⟩, hn1, rfl⟩
 clear hn1
 obtain ⟨A1, c1, A2, c2, A3, c3, A4, c4, A5, c5, rfl, hP⟩ := hs.form
 obtain ⟨Ao, co, rfl, _⟩ := Sq.form ho
 obtain ⟨s, hsd⟩ : ∃ s, s = (stateS l0 40).1 := ⟨_, rfl⟩
 obtain ⟨rs, hrd⟩ : ∃ rs, rs = (stateS l0 40).2 := ⟨_, rfl⟩
 rw [← hsd] at hok hnm hke hP hs ⊢
 rw [← hrd] at ho ⊢
 clear hsd hrd ho
 have hgd := okSt_good.1 hok
 have hvl := hgd.vlen
 have hck := chk_pre hnm n p
 have hps := pref_size p
 have hckc := chk_c hnm (prefS p)
 obtain ⟨nm, hnmd⟩ : ∃ nm, nm = nameS n := ⟨_, rfl⟩
 rw [← hnmd] at hck
 have hna : ∀ (G : GW), G.Wf → Calls Tryz.prog 18 #[.int .i64 n] G.w (Ret G fun v _ => v = .string nm) := fun G hW => by rw [hnmd]; exact name_does hW hn
 clear hnmd
 simp only [go_sem, simprocAttr]
 intro g1 g2
 refine pk (call_does (fun v _ => v = .int .i64 (k3 : Int)) rfl rfl (by kernel_rfl) rfl (dk rfl) (fun G hG => by rw [← hk3]; exact picked_does hG.wf hp (by omega) (by omega))) ?_
 rintro _ ⟨_, G2, rfl, hn2, rfl⟩
 clear hn2
 simp only [go_sem, simprocAttr]
 refine pk (lit_elem_does (m := k3) rfl tySlice61 tySize9 rfl rfl (dk rfl) rfl hlt3') ?_
 rintro _ rfl
 have hget : ([.v (.string ⟨#[]⟩), .v (.string ⟨#[121]⟩), .v (.string ⟨#[122, 47]⟩)] : List SC)[k3]? = some (.v (.string (prefS p))) := by
  obtain rfl | rfl | rfl : k3 = 0 ∨ k3 = 1 ∨ k3 = 2 := by omega
  ·unfold prefS; rw [hk3]; rfl
  ·unfold prefS; rw [hk3]; rfl
  ·unfold prefS; rw [hk3]; rfl
 obtain ⟨pre, hpd⟩ : ∃ pre, pre = prefS p := ⟨_, rfl⟩
 rw [← hpd] at hget hck hps hckc
 simp only [go_sem, simprocAttr, Nat.mul_one, hget]
 refine draw_ok (N := 3000) (.take 0 (.take 1 (.take 3 (.alt 2 (.alt 4 (.take 5 (.take 6 (.take 7 (.take 8 (.take 9 (.take 10 (.take 11 .done))))))) .last) .last)))) [] (QOk_body _ _ _) follows_mixed (by kernel_rfl) (by kernel_rfl) ?_
 simp only [go_sem, simprocAttr]
 refine anyc_ok (N := 3000) (call_does (fun v _ => v = .string nm) rfl rfl (by kernel_rfl) rfl (dk rfl) (fun G hG => hna G hG.wf)) (QOk_body _ _ _) rfl (by first | exact .inl rfl | exact .inr ⟨_, _, rfl, rfl⟩) ?_
 rintro _ ⟨_, G2, rfl, hn2, rfl⟩
 clear hn2
 simp only [go_sem, simprocAttr]
 refine anyc_ok (N := 3000) (call_does (fun v G => ∃ l : List Ver, l.Perm (s.vers.filter (selB nm pre)) ∧ (l.Pairwise fun a b => vLt b a = false) ∧ ∃ pv, v = .tuple #[pv, .bool (decide (((50 : Nat) : Int) < ((keysRows none pre ⟨#[]⟩ (grpS l)).length : Int))), .int .i64 0] ∧ RowsG G pv ((keysRows none pre ⟨#[]⟩ (grpS l)).take 50)) rfl rfl (by kernel_rfl) rfl (dk rfl) (fun G hG => lKeys_does (d := none) (most := 50) hG.wf (hP.mono (hG.le G1 (by simp))).g hok (by unfold maxLen; omega) hck (by omega) (by omega))) (QOk_body _ _ _) rfl (by first | exact .inl rfl | exact .inr ⟨_, _, rfl, rfl⟩) ?_
 rintro _ ⟨_, G3, ⟨d, hd1, hd2, pv, rfl, hpv⟩, hn3, rfl⟩
 clear hn3
 rw [keysRows_plain hgd hke hd1 hd2] at hpv ⊢
 clear hd1 hd2
 obtain ⟨L, hL⟩ : ∃ L, L = livL s nm pre := ⟨_, rfl⟩
 have hL5 : L.length ≤ 5 := by rw [hL]; exact List.length_filterMap_le _ _
 have hLr : L.Pairwise fun a b => kLt a.key b.key = true := by rw [hL]; exact livL_rise s nm pre
 have hLa : ∀ v ∈ L, prefB v.key pre = true ∧ lastV (keyIs nm v.key) s.vers = some v ∧ v.marker = false := fun v hv => live_at (by rw [← hL]; exact hv)
 have hwa : wantC s nm pre 5 = L.length := by rw [hL]; exact want_all s nm pre
 rw [← hL] at hpv ⊢
 obtain ⟨D, hD⟩ : ∃ D, D = L.map (fun v => rowV v true) := ⟨_, rfl⟩
 have hDl : D.length = L.length := by rw [hD, List.length_map]
 rw [← hD] at hpv ⊢
 rw [List.take_of_length_le (by omega)] at hpv
 obtain ⟨Ar, cr, rfl, _⟩ := Sq.form hpv
 have hb50 : decide (((50 : Nat) : Int) < (D.length : Int)) = false := decide_eq_false (by omega)
 rw [hb50]
 simp only [go_sem, simprocAttr]
 refine loop_ok (N := 3000) (ι := Nat) (fun i => ⟨[(1, .c (.v (.int .i64 n))), (7, .c (.p 0 g1 0)), (9, .c (.v (.string pre))), (10, .c (.v (.slice Ar D.length cr))), (11, .c (.v (.bool false))), (12, .c (.v (.int .i64 0))), (45, .c (.v (.slice Ar D.length cr))), (46, .c (.v (.int .i64 (D.length : Int)))), (47, .c (.v (.int .i64 (i : Int))))], [⟨0, g1, 30, [.v (.int .i64 s.next), .v (.int .i64 s.clock), .v (.slice A1 s.bkts.length c1), .v (.slice A2 s.vers.length c2), .v (.slice A3 s.upls.length c3), .v (.slice A4 s.queue.length c4), .v (.slice A5 s.gone.length c5)]⟩], [], [], [G3, G1, ⟨Non, w⟩], 1⟩)
  (fun i => i ≤ D.length) (fun i => D.length - i) (QOk_body _ _ _) 0 (Nat.zero_le _) (by simp only [go_sem, simprocAttr]; simp) ?_
 rintro i hi
 by_cases hlt : i < D.length
 ·have q1 : decide ((i : Int) < (D.length : Int)) = true := decide_eq_true (by omega)
  obtain ⟨v, hv⟩ : ∃ v, L[i]? = some v := ⟨_, List.getElem?_eq_getElem (by omega)⟩
  have hx : D[i]? = some (rowV v true) := by rw [hD, List.getElem?_map, hv]; rfl
  obtain ⟨hpr, hlv, hmk⟩ := hLa v (List.mem_of_getElem? hv)
  simp only [go_sem, simprocAttr, q1]
  refine pk (elem_does (R := RowMG) (l := D) (m := i) rfl tySlice52 tySize57 rfl rfl (dk rfl) rfl hx (fun G hG => Sq.mono hpv rowMG_mono (hG.le G3 (by simp)))) ?_
  rintro _ ⟨g4, o', cs, G6, hcl6, hcs, rfl⟩
  obtain rfl := hcs
  simp only [go_sem, simprocAttr, rowC, rowV]
  intro g5
  refine cut_code2 (N := 3000) (ι := Nat × (Option Addr × Nat)) (fun x => match x with | (g15, (A, c)) => ⟨[(13, .c (.v (.int .i64 (i : Int)))), (14, .c (.p 2 g5 0)), (15, .c (.p 3 g15 0)), (16, .c (.v (.bool true))), (17, .c (.v (.int .i64 0))), (1, .c (.v (.int .i64 n))), (7, .c (.p 0 g1 0)), (9, .c (.v (.string pre))), (10, .c (.v (.slice Ar D.length cr))), (11, .c (.v (.bool false))), (12, .c (.v (.int .i64 0))), (45, .c (.v (.slice Ar D.length cr))), (46, .c (.v (.int .i64 (D.length : Int)))), (47, .c (.v (.int .i64 (i : Int))))],
    [⟨3, g15, 38, (verV v (.slice A v.secs.length c)).map .v⟩, ⟨2, g5, 57, (rowC (rowV v true)).map .v⟩, ⟨0, g1, 30, [.v (.int .i64 s.next), .v (.int .i64 s.clock), .v (.slice A1 s.bkts.length c1), .v (.slice A2 s.vers.length c2), .v (.slice A3 s.upls.length c3), .v (.slice A4 s.queue.length c4), .v (.slice A5 s.gone.length c5)]⟩], [], [], [G3, G1, ⟨Non, w⟩], 4⟩)
   (fun _ => True) (QOk_body _ _ _) ?_ ?_
  rotate_left
  ·intro k' J hk' hJ
   refine draw_ok (N := 3000) (.take 0 (.take 1 (.take 3 (.take 4 (.alt 2 (.alt 5 (.take 6 (.take 7 (.take 8 (.take 9 (.alt 10 (.alt 11 (.take 12 (.take 13 .done)) .last) .last))))) (.alt 10 (.alt 5 (.take 6 (.take 7 (.take 8 (.take 9 (.alt 11 (.take 12 (.take 13 .done)) .last))))) .last) .last)) (.alt 10 (.alt 2 (.alt 5 (.take 6 (.take 7 (.take 8 (.take 9 (.alt 11 (.take 12 (.take 13 .done)) .last))))) .last) .last) .last)))))) [1] hk' follows_mixed (by kernel_rfl) (by kernel_rfl) ?_
   simp only [go_sem, simprocAttr]
   refine ⟨?_, ?_⟩
   ·refine anyc_ok (N := 3000) (call_does (fun v _ => v = .string nm) rfl rfl (by kernel_rfl) rfl (dk rfl) (fun G hG => hna G hG.wf)) hk' rfl (by first | exact .inl rfl | exact .inr ⟨_, _, rfl, rfl⟩) ?_
    rintro _ ⟨_, G7, rfl, hn7, rfl⟩
    clear hn7
    simp only [go_sem, simprocAttr]
    refine ⟨?_, ?_⟩
    ·refine anyc_ok (N := 3000) (call_does (fun y G => LatG G y (some v)) rfl rfl (by kernel_rfl) rfl (dk rfl) (fun G hG => by rw [← hlv]; exact latest_does hG.wf (hP.mono (hG.le G1 (by simp))).g hok)) hk' rfl (by first | exact .inl rfl | exact .inr ⟨_, _, rfl, rfl⟩) ?_
     rintro _ ⟨_, G8, ⟨svv, rfl, hsvv⟩, hn8, rfl⟩
     clear hn8
     obtain ⟨A, c, rfl, _⟩ := Sq.form hsvv
     simp only [go_sem, simprocAttr, verV]
     intro g15
     exact hJ (g15, (A, c)) _ trivial (by simp only [go_sem, simprocAttr, verV, rowC, rowV]; simp)
    ·intro g15
     refine anyc_ok (N := 3000) (call_does (fun y G => LatG G y (some v)) rfl rfl (by kernel_rfl) rfl (dk rfl) (fun G hG => by rw [← hlv]; exact latest_does hG.wf (hP.mono (hG.le G1 (by simp))).g hok)) hk' rfl (by first | exact .inl rfl | exact .inr ⟨_, _, rfl, rfl⟩) ?_
     rintro _ ⟨_, G8, ⟨svv, rfl, hsvv⟩, hn8, rfl⟩
     clear hn8
     obtain ⟨A, c, rfl, _⟩ := Sq.form hsvv
     simp only [go_sem, simprocAttr, verV]
     exact hJ (g15, (A, c)) _ trivial (by simp only [go_sem, simprocAttr, verV, rowC, rowV]; simp)
   ·intro g15
    refine anyc_ok (N := 3000) (call_does (fun v _ => v = .string nm) rfl rfl (by kernel_rfl) rfl (dk rfl) (fun G hG => hna G hG.wf)) hk' rfl (by first | exact .inl rfl | exact .inr ⟨_, _, rfl, rfl⟩) ?_
    rintro _ ⟨_, G7, rfl, hn7, rfl⟩
    clear hn7
    simp only [go_sem, simprocAttr]
    refine anyc_ok (N := 3000) (call_does (fun y G => LatG G y (some v)) rfl rfl (by kernel_rfl) rfl (dk rfl) (fun G hG => by rw [← hlv]; exact latest_does hG.wf (hP.mono (hG.le G1 (by simp))).g hok)) hk' rfl (by first | exact .inl rfl | exact .inr ⟨_, _, rfl, rfl⟩) ?_
    rintro _ ⟨_, G8, ⟨svv, rfl, hsvv⟩, hn8, rfl⟩
    clear hn8
    obtain ⟨A, c, rfl, _⟩ := Sq.form hsvv
    simp only [go_sem, simprocAttr, verV]
    exact hJ (g15, (A, c)) _ trivial (by simp only [go_sem, simprocAttr, verV, rowC, rowV]; simp)
  rintro ⟨g15, ⟨A, c⟩⟩ _
  simp only [verV, rowC, rowV, List.map_cons, List.map_nil]
  unfold prefB at hpr
  obtain ⟨hpz, hpe⟩ := (Bool.and_eq_true_iff.1 hpr)
  have hpz := of_decide_eq_true hpz
  have qe : ((v.key.extract 0 pre.size).toList == pre.toList) = true := (strEq _ _).trans hpe
  have q0 : decide ((0 : Int) = 0) = true := rfl
  have qi : decide (v.id = v.id) = true := decide_eq_true rfl
  have qs : decide (v.size = v.size) = true := decide_eq_true rfl
  by_cases hi0 : i = 0
  ·have q2 : decide (0 < (i : Int)) = false := decide_eq_false (by omega)
   refine draw_ok (N := 3000) (.take 0 (.take 1 (.take 2 (.take 3 (.take 4 (.take 5 (.take 6 (.take 7 (.take 8 (.take 9 (.take 10 (.take 11 (.take 12 (.take 13 (.take 14 (.take 15 (.take 16 (.take 17 (.take 18 (.take 19 (.take 20 (.take 21 (.take 22 (.take 23 (.take 24 (.take 25 (.take 26 (.take 27 (.take 28 (.take 29 (.take 30 (.take 31 (.take 32 (.take 33 (.take 34 (.take 35 (.take 36 (.take 37 (.take 38 (.take 39 (.take 40 (.take 41 (.take 42 (.take 43 (.take 44 (.take 45 (.take 46 (.take 47 (.take 48 (.take 49 (.take 50 (.take 51 (.take 52 (.take 53 (.take 54 (.take 55 (.take 56 .done))))))))))))))))))))))))))))))))))))))))))))))))))))))))) [] (QOk_body _ _ _) follows_mixed (by kernel_rfl) (by kernel_rfl) ?_
   simp only [go_sem, simprocAttr, q0, hmk, qi, qs, q2, qe, Bool.not_true, Bool.not_false, Int.toNat_natCast]
   refine ⟨⟨by omega, by omega⟩, by omega, ?_⟩
   refine again_ok (i + 1) hlt (by omega) (by simp only [go_sem, simprocAttr]; simp)
  ·obtain ⟨y, hy⟩ : ∃ y, L[i - 1]? = some y := ⟨_, List.getElem?_eq_getElem (by omega)⟩
   have hrp : D[i - 1]? = some (rowV y true) := by rw [hD, List.getElem?_map, hy]; rfl
   have hyv : kLt y.key v.key = true := by
    obtain ⟨h1, e1⟩ := List.getElem?_eq_some_iff.1 hy
    obtain ⟨h2, e2⟩ := List.getElem?_eq_some_iff.1 hv
    have := List.pairwise_iff_getElem.1 hLr (i - 1) i h1 h2 (by omega)
    rw [e1, e2] at this
    exact this
   have q2 : decide (0 < (i : Int)) = true := decide_eq_true (by omega)
   have hcast : (i : Int) - 1 = ((i - 1 : Nat) : Int) := by omega
   refine preview_ok (R := RowMG) (kc := 7) hrp (fun G hG => (Sq.mono hpv rowMG_mono (hG G3 (by simp))).sc) fun gy oy csy Gy hA hcly hcsy hley => ?_
   subst hA
   obtain rfl := hcsy
   clear hley
   simp only [go_sem, simprocAttr, rowC, rowV]
   refine draw_ok (N := 3000) (.take 0 (.take 1 (.take 2 (.take 3 (.take 4 (.take 5 (.take 6 (.take 7 (.take 8 (.take 9 (.take 10 (.take 11 (.take 12 (.take 13 (.take 14 (.take 15 (.take 16 (.take 17 (.take 18 (.take 19 (.take 20 (.take 21 (.take 22 (.take 23 (.take 24 (.take 25 (.take 26 (.take 27 (.take 28 (.take 29 (.take 30 (.take 31 (.take 32 (.take 33 (.take 34 (.take 35 (.take 36 (.take 37 (.take 38 (.take 39 (.take 40 (.take 41 (.take 42 (.take 43 (.take 44 (.take 45 (.take 46 (.take 47 (.take 48 (.take 49 (.take 50 (.take 51 (.take 52 (.take 53 (.take 54 (.take 55 (.take 56 .done))))))))))))))))))))))))))))))))))))))))))))))))))))))))) [] (QOk_body _ _ _) follows_mixed (by kernel_rfl) (by kernel_rfl) ?_
   simp only [go_sem, simprocAttr, q0, hmk, qi, qs, q2, qe, Bool.not_true, Bool.not_false, Int.toNat_natCast]
   refine ⟨by omega, ?_⟩
   refine take_elem 4 (m := i - 1) rfl tySlice52 tySize57 rfl rfl (dk rfl) hcast (by omega) ?_
   have hl1 : Op.bytesLess y.key.toList v.key.toList = true := hyv
   have hl2 : Op.bytesLess v.key.toList y.key.toList = false := kLt_asym hyv
   have hl3 : (y.key.toList == v.key.toList) = false := (strEq _ _).trans (decide_eq_false fun e => by rw [e, kLt_irr] at hyv; cases hyv)
   have hl4 : (v.key.toList == y.key.toList) = false := (strEq _ _).trans (decide_eq_false fun e => by rw [e, kLt_irr] at hyv; cases hyv)
   simp only [go_sem, simprocAttr, q0, hl1, hl2, hl3, hl4, qe, Bool.or_false, Bool.or_true, Bool.true_or, Bool.not_true, Bool.not_false, Int.toNat_natCast]
   refine ⟨⟨by omega, by omega⟩, by omega, ?_⟩
   refine again_ok (i + 1) hlt (by omega) (by simp only [go_sem, simprocAttr]; simp)
 ·have hil : i = D.length := by omega
  subst hil
  have q1 : decide ((D.length : Int) < (D.length : Int)) = false := decide_eq_false (by omega)
  simp only [go_sem, simprocAttr, q1]
  have q0 : decide ((0 : Int) = 0) = true := rfl
  obtain ⟨wn, hwn⟩ : ∃ wn : Nat → Nat, ∀ j, wn j = wantC s nm pre j := ⟨_, fun _ => rfl⟩
  have hw0 : wn 0 = 0 := by rw [hwn]; rfl
  have hws : ∀ j, wn (j + 1) = wn j + if isK s nm pre (keyS (j : Int)) = true then 1 else 0 := fun j => by rw [hwn, hwn]; rfl
  have hw5 : wn 5 = D.length := by rw [hwn, hwa, hDl]
  have hwb : ∀ j, wn j ≤ j := fun j => by rw [hwn]; exact wantC_le _ _ _ j
  clear hwn hwa
  refine loop_ok (N := 3000) (ι := Nat) (fun j => ⟨[(1, .c (.v (.int .i64 n))), (7, .c (.p 0 g1 0)), (9, .c (.v (.string pre))), (10, .c (.v (.slice Ar D.length cr))), (11, .c (.v (.bool false))), (12, .c (.v (.int .i64 0))), (18, .c (.v (.int .i64 (wn j : Int)))), (19, .c (.v (.int .i64 (j : Int))))], [⟨0, g1, 30, [.v (.int .i64 s.next), .v (.int .i64 s.clock), .v (.slice A1 s.bkts.length c1), .v (.slice A2 s.vers.length c2), .v (.slice A3 s.upls.length c3), .v (.slice A4 s.queue.length c4), .v (.slice A5 s.gone.length c5)]⟩], [], [], [G3, G1, ⟨Non, w⟩], 1⟩)
   (fun j => j ≤ 5) (fun j => 5 - j) (QOk_body _ _ _) 0 (Nat.zero_le _) (by simp only [go_sem, simprocAttr]; simp [hw0]) ?_
  rintro j hj
  by_cases hlt2 : j < 5
  ·have q2 : decide ((j : Int) < 5) = true := decide_eq_true (by omega)
   have hwj := hwb j
   have hwj1 := hws j
   obtain ⟨ky, hky⟩ : ∃ ky, ky = keyS (j : Int) := ⟨_, rfl⟩
   have hkc : ∀ (G : GW), G.Wf → Calls Tryz.prog 22 #[.int .i64 (j : Int)] G.w (Ret G fun v _ => v = .string ky) := fun G hW => by rw [hky]; exact key_does hW ⟨by omega, by omega⟩
   rw [← hky] at hwj1
   clear hky
   simp only [go_sem, simprocAttr, q2]
   cases hlv : lastV (keyIs nm ky) s.vers with
   | none =>
    have hit := isK_none (pre := pre) hlv
    rw [hit, if_neg (by simp), Nat.add_zero] at hwj1
    refine cut_code2 (N := 3000) (ι := Nat) (fun g15 => ⟨[(20, .c (.p 1 g15 0)), (21, .c (.v (.bool false))), (22, .c (.v (.int .i64 0))), (1, .c (.v (.int .i64 n))), (7, .c (.p 0 g1 0)), (9, .c (.v (.string pre))), (10, .c (.v (.slice Ar D.length cr))), (11, .c (.v (.bool false))), (12, .c (.v (.int .i64 0))), (18, .c (.v (.int .i64 (wn j : Int)))), (19, .c (.v (.int .i64 (j : Int))))],
      [⟨1, g15, 38, [.v (.int .i64 0), .v (.string ⟨#[]⟩), .v (.string ⟨#[]⟩), .v (.bool false), .v (.bool false), .v (.int .i64 0), .v (.int .i64 0), .v (.int .i64 0), .v (.slice none 0 0), .v (.int .i64 0), .v (.int .i64 0), .v (.int .i64 0)]⟩, ⟨0, g1, 30, [.v (.int .i64 s.next), .v (.int .i64 s.clock), .v (.slice A1 s.bkts.length c1), .v (.slice A2 s.vers.length c2), .v (.slice A3 s.upls.length c3), .v (.slice A4 s.queue.length c4), .v (.slice A5 s.gone.length c5)]⟩], [], [], [G3, G1, ⟨Non, w⟩], 2⟩)
     (fun _ => True) (QOk_body _ _ _) ?_ ?_
    rotate_left
    ·intro k' J hk' hJ
     refine draw_ok (N := 3000) (.take 0 (.take 1 (.take 3 (.alt 2 (.alt 4 (.alt 5 (.take 6 (.take 7 (.take 8 (.take 9 (.alt 10 (.alt 11 (.take 12 (.take 13 .done)) .last) .last))))) (.alt 10 (.alt 5 (.take 6 (.take 7 (.take 8 (.take 9 (.alt 11 (.take 12 (.take 13 .done)) .last))))) .last) .last)) (.alt 10 (.alt 4 (.alt 5 (.take 6 (.take 7 (.take 8 (.take 9 (.alt 11 (.take 12 (.take 13 .done)) .last))))) .last) .last) .last)) (.alt 10 (.alt 2 (.alt 4 (.alt 5 (.take 6 (.take 7 (.take 8 (.take 9 (.alt 11 (.take 12 (.take 13 .done)) .last))))) .last) .last) .last) .last))))) [1] hk' follows_mixed (by kernel_rfl) (by kernel_rfl) ?_
     simp only [go_sem, simprocAttr]
     refine ⟨?_, ?_⟩
     ·refine anyc_ok (N := 3000) (call_does (fun v _ => v = .string nm) rfl rfl (by kernel_rfl) rfl (dk rfl) (fun G hG => hna G hG.wf)) hk' rfl (by first | exact .inl rfl | exact .inr ⟨_, _, rfl, rfl⟩) ?_
      rintro _ ⟨_, G7, rfl, hn7, rfl⟩
      clear hn7
      simp only [go_sem, simprocAttr]
      refine ⟨?_, ?_⟩
      ·refine anyc_ok (N := 3000) (call_does (fun v _ => v = .string ky) rfl rfl (by kernel_rfl) rfl (dk rfl) (fun G hG => hkc G hG.wf)) hk' rfl (by first | exact .inl rfl | exact .inr ⟨_, _, rfl, rfl⟩) ?_
       rintro _ ⟨_, G9, rfl, hn9, rfl⟩
       clear hn9
       simp only [go_sem, simprocAttr]
       refine ⟨?_, ?_⟩
       ·refine anyc_ok (N := 3000) (call_does (fun y G => LatG G y none) rfl rfl (by kernel_rfl) rfl (dk rfl) (fun G hG => by rw [← hlv]; exact latest_does hG.wf (hP.mono (hG.le G1 (by simp))).g hok)) hk' rfl (by first | exact .inl rfl | exact .inr ⟨_, _, rfl, rfl⟩) ?_
        rintro _ ⟨_, G8, rfl, hn8, rfl⟩
        clear hn8
        simp only [go_sem, simprocAttr]
        intro g15
        exact hJ g15 _ trivial (by simp only [go_sem, simprocAttr]; simp)
       ·intro g15
        refine anyc_ok (N := 3000) (call_does (fun y G => LatG G y none) rfl rfl (by kernel_rfl) rfl (dk rfl) (fun G hG => by rw [← hlv]; exact latest_does hG.wf (hP.mono (hG.le G1 (by simp))).g hok)) hk' rfl (by first | exact .inl rfl | exact .inr ⟨_, _, rfl, rfl⟩) ?_
        rintro _ ⟨_, G8, rfl, hn8, rfl⟩
        clear hn8
        simp only [go_sem, simprocAttr]
        exact hJ g15 _ trivial (by simp only [go_sem, simprocAttr]; simp)
      ·intro g15
       refine anyc_ok (N := 3000) (call_does (fun v _ => v = .string ky) rfl rfl (by kernel_rfl) rfl (dk rfl) (fun G hG => hkc G hG.wf)) hk' rfl (by first | exact .inl rfl | exact .inr ⟨_, _, rfl, rfl⟩) ?_
       rintro _ ⟨_, G9, rfl, hn9, rfl⟩
       clear hn9
       simp only [go_sem, simprocAttr]
       refine anyc_ok (N := 3000) (call_does (fun y G => LatG G y none) rfl rfl (by kernel_rfl) rfl (dk rfl) (fun G hG => by rw [← hlv]; exact latest_does hG.wf (hP.mono (hG.le G1 (by simp))).g hok)) hk' rfl (by first | exact .inl rfl | exact .inr ⟨_, _, rfl, rfl⟩) ?_
       rintro _ ⟨_, G8, rfl, hn8, rfl⟩
       clear hn8
       simp only [go_sem, simprocAttr]
       exact hJ g15 _ trivial (by simp only [go_sem, simprocAttr]; simp)
     ·intro g15
      refine anyc_ok (N := 3000) (call_does (fun v _ => v = .string nm) rfl rfl (by kernel_rfl) rfl (dk rfl) (fun G hG => hna G hG.wf)) hk' rfl (by first | exact .inl rfl | exact .inr ⟨_, _, rfl, rfl⟩) ?_
      rintro _ ⟨_, G7, rfl, hn7, rfl⟩
      clear hn7
      simp only [go_sem, simprocAttr]
      refine anyc_ok (N := 3000) (call_does (fun v _ => v = .string ky) rfl rfl (by kernel_rfl) rfl (dk rfl) (fun G hG => hkc G hG.wf)) hk' rfl (by first | exact .inl rfl | exact .inr ⟨_, _, rfl, rfl⟩) ?_
      rintro _ ⟨_, G9, rfl, hn9, rfl⟩
      clear hn9
      simp only [go_sem, simprocAttr]
      refine anyc_ok (N := 3000) (call_does (fun y G => LatG G y none) rfl rfl (by kernel_rfl) rfl (dk rfl) (fun G hG => by rw [← hlv]; exact latest_does hG.wf (hP.mono (hG.le G1 (by simp))).g hok)) hk' rfl (by first | exact .inl rfl | exact .inr ⟨_, _, rfl, rfl⟩) ?_
      rintro _ ⟨_, G8, rfl, hn8, rfl⟩
      clear hn8
      simp only [go_sem, simprocAttr]
      exact hJ g15 _ trivial (by simp only [go_sem, simprocAttr]; simp)
    rintro g15 _
    simp only [go_sem, simprocAttr, q0, Bool.not_true, Bool.not_false]
    refine ⟨by omega, ?_⟩
    refine again_ok (j + 1) hlt2 (by omega) (by rw [hwj1]; simp only [go_sem, simprocAttr]; simp)
   | some v =>
    have hit := isK_some (pre := pre) hlv
    refine cut_code2 (N := 3000) (ι := Nat × (Option Addr × Nat)) (fun x => match x with | (g15, (A, c)) => ⟨[(20, .c (.p 1 g15 0)), (21, .c (.v (.bool true))), (22, .c (.v (.int .i64 0))), (1, .c (.v (.int .i64 n))), (7, .c (.p 0 g1 0)), (9, .c (.v (.string pre))), (10, .c (.v (.slice Ar D.length cr))), (11, .c (.v (.bool false))), (12, .c (.v (.int .i64 0))), (18, .c (.v (.int .i64 (wn j : Int)))), (19, .c (.v (.int .i64 (j : Int))))],
      [⟨1, g15, 38, (verV v (.slice A v.secs.length c)).map .v⟩, ⟨0, g1, 30, [.v (.int .i64 s.next), .v (.int .i64 s.clock), .v (.slice A1 s.bkts.length c1), .v (.slice A2 s.vers.length c2), .v (.slice A3 s.upls.length c3), .v (.slice A4 s.queue.length c4), .v (.slice A5 s.gone.length c5)]⟩], [], [], [G3, G1, ⟨Non, w⟩], 2⟩)
     (fun _ => True) (QOk_body _ _ _) ?_ ?_
    rotate_left
    ·intro k' J hk' hJ
     refine draw_ok (N := 3000) (.take 0 (.take 1 (.take 3 (.alt 2 (.alt 4 (.alt 5 (.take 6 (.take 7 (.take 8 (.take 9 (.alt 10 (.alt 11 (.take 12 (.take 13 .done)) .last) .last))))) (.alt 10 (.alt 5 (.take 6 (.take 7 (.take 8 (.take 9 (.alt 11 (.take 12 (.take 13 .done)) .last))))) .last) .last)) (.alt 10 (.alt 4 (.alt 5 (.take 6 (.take 7 (.take 8 (.take 9 (.alt 11 (.take 12 (.take 13 .done)) .last))))) .last) .last) .last)) (.alt 10 (.alt 2 (.alt 4 (.alt 5 (.take 6 (.take 7 (.take 8 (.take 9 (.alt 11 (.take 12 (.take 13 .done)) .last))))) .last) .last) .last) .last))))) [1] hk' follows_mixed (by kernel_rfl) (by kernel_rfl) ?_
     simp only [go_sem, simprocAttr]
     refine ⟨?_, ?_⟩
     ·refine anyc_ok (N := 3000) (call_does (fun v _ => v = .string nm) rfl rfl (by kernel_rfl) rfl (dk rfl) (fun G hG => hna G hG.wf)) hk' rfl (by first | exact .inl rfl | exact .inr ⟨_, _, rfl, rfl⟩) ?_
      rintro _ ⟨_, G7, rfl, hn7, rfl⟩
      clear hn7
      simp only [go_sem, simprocAttr]
      refine ⟨?_, ?_⟩
      ·refine anyc_ok (N := 3000) (call_does (fun v _ => v = .string ky) rfl rfl (by kernel_rfl) rfl (dk rfl) (fun G hG => hkc G hG.wf)) hk' rfl (by first | exact .inl rfl | exact .inr ⟨_, _, rfl, rfl⟩) ?_
       rintro _ ⟨_, G9, rfl, hn9, rfl⟩
       clear hn9
       simp only [go_sem, simprocAttr]
       refine ⟨?_, ?_⟩
       ·refine anyc_ok (N := 3000) (call_does (fun y G => LatG G y (some v)) rfl rfl (by kernel_rfl) rfl (dk rfl) (fun G hG => by rw [← hlv]; exact latest_does hG.wf (hP.mono (hG.le G1 (by simp))).g hok)) hk' rfl (by first | exact .inl rfl | exact .inr ⟨_, _, rfl, rfl⟩) ?_
        rintro _ ⟨_, G8, ⟨svv, rfl, hsvv⟩, hn8, rfl⟩
        clear hn8
        obtain ⟨A, c, rfl, _⟩ := Sq.form hsvv
        simp only [go_sem, simprocAttr, verV]
        intro g15
        exact hJ (g15, (A, c)) _ trivial (by simp only [go_sem, simprocAttr, verV]; simp)
       ·intro g15
        refine anyc_ok (N := 3000) (call_does (fun y G => LatG G y (some v)) rfl rfl (by kernel_rfl) rfl (dk rfl) (fun G hG => by rw [← hlv]; exact latest_does hG.wf (hP.mono (hG.le G1 (by simp))).g hok)) hk' rfl (by first | exact .inl rfl | exact .inr ⟨_, _, rfl, rfl⟩) ?_
        rintro _ ⟨_, G8, ⟨svv, rfl, hsvv⟩, hn8, rfl⟩
        clear hn8
        obtain ⟨A, c, rfl, _⟩ := Sq.form hsvv
        simp only [go_sem, simprocAttr, verV]
        exact hJ (g15, (A, c)) _ trivial (by simp only [go_sem, simprocAttr, verV]; simp)
      ·intro g15
       refine anyc_ok (N := 3000) (call_does (fun v _ => v = .string ky) rfl rfl (by kernel_rfl) rfl (dk rfl) (fun G hG => hkc G hG.wf)) hk' rfl (by first | exact .inl rfl | exact .inr ⟨_, _, rfl, rfl⟩) ?_
       rintro _ ⟨_, G9, rfl, hn9, rfl⟩
       clear hn9
       simp only [go_sem, simprocAttr]
       refine anyc_ok (N := 3000) (call_does (fun y G => LatG G y (some v)) rfl rfl (by kernel_rfl) rfl (dk rfl) (fun G hG => by rw [← hlv]; exact latest_does hG.wf (hP.mono (hG.le G1 (by simp))).g hok)) hk' rfl (by first | exact .inl rfl | exact .inr ⟨_, _, rfl, rfl⟩) ?_
       rintro _ ⟨_, G8, ⟨svv, rfl, hsvv⟩, hn8, rfl⟩
       clear hn8
       obtain ⟨A, c, rfl, _⟩ := Sq.form hsvv
       simp only [go_sem, simprocAttr, verV]
       exact hJ (g15, (A, c)) _ trivial (by simp only [go_sem, simprocAttr, verV]; simp)
     ·intro g15
      refine anyc_ok (N := 3000) (call_does (fun v _ => v = .string nm) rfl rfl (by kernel_rfl) rfl (dk rfl) (fun G hG => hna G hG.wf)) hk' rfl (by first | exact .inl rfl | exact .inr ⟨_, _, rfl, rfl⟩) ?_
      rintro _ ⟨_, G7, rfl, hn7, rfl⟩
      clear hn7
      simp only [go_sem, simprocAttr]
      refine anyc_ok (N := 3000) (call_does (fun v _ => v = .string ky) rfl rfl (by kernel_rfl) rfl (dk rfl) (fun G hG => hkc G hG.wf)) hk' rfl (by first | exact .inl rfl | exact .inr ⟨_, _, rfl, rfl⟩) ?_
      rintro _ ⟨_, G9, rfl, hn9, rfl⟩
      clear hn9
      simp only [go_sem, simprocAttr]
      refine anyc_ok (N := 3000) (call_does (fun y G => LatG G y (some v)) rfl rfl (by kernel_rfl) rfl (dk rfl) (fun G hG => by rw [← hlv]; exact latest_does hG.wf (hP.mono (hG.le G1 (by simp))).g hok)) hk' rfl (by first | exact .inl rfl | exact .inr ⟨_, _, rfl, rfl⟩) ?_
      rintro _ ⟨_, G8, ⟨svv, rfl, hsvv⟩, hn8, rfl⟩
      clear hn8
      obtain ⟨A, c, rfl, _⟩ := Sq.form hsvv
      simp only [go_sem, simprocAttr, verV]
      exact hJ (g15, (A, c)) _ trivial (by simp only [go_sem, simprocAttr, verV]; simp)
    rintro ⟨g15, ⟨A, c⟩⟩ _
    simp only [verV, List.map_cons, List.map_nil]
    by_cases hmk : v.marker = true
    ·rw [hit, hmk, Bool.not_true, Bool.false_and, if_neg (by simp), Nat.add_zero] at hwj1
     simp only [go_sem, simprocAttr, q0, hmk, Bool.not_true, Bool.not_false]
     refine ⟨by omega, ?_⟩
     refine again_ok (j + 1) hlt2 (by omega) (by rw [hwj1]; simp only [go_sem, simprocAttr]; simp)
    ·have hmk := bool_no hmk
     rw [hit, hmk, Bool.not_false, Bool.true_and] at hwj1
     simp only [go_sem, simprocAttr, q0, hmk, Bool.not_true, Bool.not_false]
     refine pk (call_does (fun v _ => v = .string ky) rfl rfl (by kernel_rfl) rfl (dk rfl) (fun G hG => hkc G hG.wf)) ?_
     rintro _ ⟨_, G9, rfl, hn9, rfl⟩
     clear hn9
     unfold prefB at hwj1
     by_cases hz : (pre.size : Int) ≤ (ky.size : Int)
     ·have qz : decide ((pre.size : Int) ≤ (ky.size : Int)) = true := decide_eq_true hz
      rw [qz, Bool.true_and, ← strEq] at hwj1
      simp only [go_sem, simprocAttr, qz]
      refine pk (call_does (fun v _ => v = .string ky) rfl rfl (by kernel_rfl) rfl (dk rfl) (fun G hG => hkc G hG.wf)) ?_
      rintro _ ⟨_, G9, rfl, hn9, rfl⟩
      clear hn9
      simp only [go_sem, simprocAttr, Int.toNat_natCast]
      refine ⟨⟨by omega, by omega⟩, ?_⟩
      refine Wb_mk (fun hb => ?_) (fun hb => ?_)
      ·rw [if_pos hb] at hwj1
       refine ⟨by omega, by omega, ?_⟩
       refine again_ok (j + 1) hlt2 (by omega) (by rw [hwj1]; simp only [go_sem, simprocAttr]; simp)
      ·rw [if_neg (by rw [hb]; exact Bool.false_ne_true)] at hwj1
       rw [Nat.add_zero] at hwj1
       refine ⟨by omega, ?_⟩
       refine again_ok (j + 1) hlt2 (by omega) (by rw [hwj1]; simp only [go_sem, simprocAttr]; simp)
     ·have qz : decide ((pre.size : Int) ≤ (ky.size : Int)) = false := decide_eq_false hz
      rw [qz, Bool.false_and, if_neg (by simp), Nat.add_zero] at hwj1
      simp only [go_sem, simprocAttr, qz]
      refine ⟨by omega, ?_⟩
      refine again_ok (j + 1) hlt2 (by omega) (by rw [hwj1]; simp only [go_sem, simprocAttr]; simp)
  ·have hil : j = 5 := by omega
   subst hil
   have q2 : decide (((5 : Nat) : Int) < 5) = false := decide_eq_false (by omega)
   rw [hw5]
   simp only [go_sem, simprocAttr, q2]
   refine pk (call_does (fun v _ => v = .tuple #[.slice none 0 0, .bool false, .int .i64 6]) rfl rfl (by kernel_rfl) rfl (dk rfl) (fun G hG => by have h := lKeys_bad (sv := .agg #[.int .i64 s.next, .int .i64 s.clock, .slice A1 s.bkts.length c1, .slice A2 s.vers.length c2, .slice A3 s.upls.length c3, .slice A4 s.queue.length c4, .slice A5 s.gone.length c5]) (nm := ⟨#[99]⟩) (pre := pre) (dl := ⟨#[]⟩) (after := ⟨#[]⟩) (most := 1) hG.wf (hP.mono (hG.le G1 (by simp))).g hok (by unfold maxLen; omega) (by rw [hckc]; decide); rw [hckc] at h; exact h)) ?_
   rintro _ ⟨_, G9, rfl, hn9, rfl⟩
   clear hn9
   have z6 : decide ((6 : Int) = 6) = true := rfl
   have zl : decide ((D.length : Int) = (D.length : Int)) = true := decide_eq_true rfl
   simp only [go_sem, simprocAttr, q0, z6, zl, Bool.not_true, Bool.not_false]
   refine fin_ret (G := ⟨Non, w⟩) Tryz.results8 ?_
   simp only [go_sem, simprocAttr]
   intro aa w' _ hle
   rfl
theorem keysOrder_walk {w : World} (v0 : Value) (l0 : List Raw) (h0 : RawsG ⟨Non, w⟩ v0 l0) (n : Int) (hn : i64 n) (p : Int) (hp : i64 p) : Calls Tryz.prog 8 #[v0, .int .i64 n, .int .i64 p] w fun e w' => e = .returned (.bool true) ∧ Below w.heap.size w w' := ret_walk (keysOrder_ret v0 l0 h0 n hn p hp)
end Go.Proofs.YtohdfcnjcpjdcaaGreat
