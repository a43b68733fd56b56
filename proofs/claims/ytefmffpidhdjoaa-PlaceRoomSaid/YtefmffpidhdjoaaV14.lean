/- tier.Place; 'icehousekeep.PlaceRoom' returns true for all raw things and numbers. Conditions: none. -/
import Derived.Test.YtefmffpidhdjoaaV1
import Derived.Test.YtefmffpidhdjoaaP11
namespace Go.Proofs.Ytefmffpidhdjoaa
open Go.RowKit
set_option linter.unusedSimpArgs false
def badN (n : Int) : Bool := decide (n < 0) || decide (4000 < n)
def geoV (a b h v n : Int) : Value := .agg #[.int .i64 a, .int .i64 b, .int .i64 h, .int .i64 v, .int .i64 n]
def lastI (m : List Int) : Int := (m[m.length - 1]?).getD 0
def lastOk (s : Sta) (vol : Int) (m : List Int) (size without : Int) : Bool := decide (0 ≤ (m.length : Int) - 1) && (!decide ((m.length : Int) - 1 = without) && (!decide ((m.length : Int) - 1 ∈ s.gone) && decide (lastI m + size ≤ vol)))
def placeS (s : Sta) (vol vols : Int) (m : List Int) (size without : Int) : Int × Int := if lastOk s vol m size without = true then ((m.length : Int) - 1, 0) else if (m.length : Int) < vols then ((m.length : Int), 0) else (0, 8)
set_option maxRecDepth 100000 in
set_option maxHeartbeats 4000000 in
theorem geometry_does {a b c : Int} {G0 : GW} (hW : G0.Wf) (ha : i64 a) (hb : i64 b) (hc : i64 c) :
    Calls Try.prog 27 #[.int .i64 a, .int .i64 b, .int .i64 c] G0.w (Ret G0 fun v _ => v = geoV (8 + pick a 30) (30 + pick a 40) (10 + pick b 60) (700 + pick c 2000) (2 + pick c 7)) := by
  have p1 := pick_bd a 30 (by omega)
  have p2 := pick_bd a 40 (by omega)
  have p3 := pick_bd b 60 (by omega)
  have p4 := pick_bd c 2000 (by omega)
  have p5 := pick_bd c 7 (by omega)
  refine enterS (G := G0) (n := 23) 3000 hW Try.func27 rfl Try.ntmps27 (by simp) ?_
  simp only [go_sem, simprocAttr]
  intro g1
  refine plain_ok (N := 3000) (call_does (fun v _ => v = .int .i64 (pick a 30)) rfl rfl (by kernel_rfl) rfl (dk rfl) (fun G hG => picked_does hG.wf ha (by omega) (by omega))) (QOk_body _ _ _) (by first | exact .inl rfl | exact .inr ⟨_, _, rfl, rfl⟩) ?_
  rintro _ ⟨_, G1, rfl, hn1, rfl⟩
  clear hn1
  simp only [go_sem, simprocAttr]
  refine ⟨by omega, ?_⟩
  refine plain_ok (N := 3000) (call_does (fun v _ => v = .int .i64 (pick a 40)) rfl rfl (by kernel_rfl) rfl (dk rfl) (fun G hG => picked_does hG.wf ha (by omega) (by omega))) (QOk_body _ _ _) (by first | exact .inl rfl | exact .inr ⟨_, _, rfl, rfl⟩) ?_
  rintro _ ⟨_, G2, rfl, hn2, rfl⟩
  clear hn2
  simp only [go_sem, simprocAttr]
  refine ⟨by omega, ?_⟩
  refine plain_ok (N := 3000) (call_does (fun v _ => v = .int .i64 (pick b 60)) rfl rfl (by kernel_rfl) rfl (dk rfl) (fun G hG => picked_does hG.wf hb (by omega) (by omega))) (QOk_body _ _ _) (by first | exact .inl rfl | exact .inr ⟨_, _, rfl, rfl⟩) ?_
  rintro _ ⟨_, G3, rfl, hn3, rfl⟩
  clear hn3
  simp only [go_sem, simprocAttr]
  refine ⟨by omega, ?_⟩
  refine plain_ok (N := 3000) (call_does (fun v _ => v = .int .i64 (pick c 2000)) rfl rfl (by kernel_rfl) rfl (dk rfl) (fun G hG => picked_does hG.wf hc (by omega) (by omega))) (QOk_body _ _ _) (by first | exact .inl rfl | exact .inr ⟨_, _, rfl, rfl⟩) ?_
  rintro _ ⟨_, G4, rfl, hn4, rfl⟩
  clear hn4
  simp only [go_sem, simprocAttr]
  refine ⟨by omega, ?_⟩
  refine plain_ok (N := 3000) (call_does (fun v _ => v = .int .i64 (pick c 7)) rfl rfl (by kernel_rfl) rfl (dk rfl) (fun G hG => picked_does hG.wf hc (by omega) (by omega))) (QOk_body _ _ _) (by first | exact .inl rfl | exact .inr ⟨_, _, rfl, rfl⟩) ?_
  rintro _ ⟨_, G5, rfl, hn5, rfl⟩
  clear hn5
  simp only [go_sem, simprocAttr]
  refine ⟨by omega, ?_⟩
  refine fin_ret (G := G0) Try.results27 ?_
  simp only [go_sem, simprocAttr]
  intro aa w' _ _
  rfl
set_option maxRecDepth 100000 in
set_option maxHeartbeats 4000000 in
theorem place1_does {n : Int} {G0 : GW} (hW : G0.Wf) : Calls Try.prog 70 #[.int .i64 n] G0.w (Ret G0 fun v _ => v = .bool (badN n)) := by
  refine enterS (G := G0) (n := 9) 3000 hW Try.func70 rfl Try.ntmps70 (by simp) ?_
  simp only [go_sem, simprocAttr]
  refine fin_ret (G := G0) Try.results70 ?_
  simp only [go_sem, simprocAttr]
  intro aa w' _ _
  rfl
set_option maxRecDepth 100000 in
set_option maxHeartbeats 8000000 in
theorem place_does {s : Sta} {sv mv : Value} {m : List Int} {x1 x2 x3 vol vols size without : Int} {G0 : GW} (hW : G0.Wf) (hs : StaG G0 sv s) (hok : okSt s = true) (hm : IntsG G0 mv m)
    (hl : (m.length : Int) ≤ vols) (hv8 : vols ≤ 8) (hbad : m.any badN = false) (hz0 : 0 ≤ size) (hz1 : size ≤ 4000) (hzv : size ≤ vol) (hvb : vol ≤ 4000) :
    Calls Try.prog 28 #[geoV x1 x2 x3 vol vols, sv, mv, .int .i64 size, .int .i64 without] G0.w (Ret G0 fun v _ => v = .tuple #[.int .i64 (placeS s vol vols m size without).1, .int .i64 (placeS s vol vols m size without).2]) := by
  obtain ⟨A1, c1, A2, c2, A3, c3, A4, c4, A5, c5, rfl, hP⟩ := hs.form
  obtain ⟨Am, cm, rfl, hm1, hm2⟩ := Sq.form hm
  have hml := max_le
  unfold geoV
  refine enterS (G := G0) (n := 83) 3000 hW Try.func28 rfl Try.ntmps28 (by simp) ?_
  simp only [go_sem, simprocAttr]
  intro g0 g1
  refine plain_ok (N := 3000) (call_does (fun v _ => v = .int .i64 0) rfl rfl (by kernel_rfl) rfl (dk rfl) (fun G hG => by rw [← errSt_ok hok]; exact check_does hG.wf (hP.mono (hG.le G0 (by simp))).g)) (QOk_body _ _ _) (by first | exact .inl rfl | exact .inr ⟨_, _, rfl, rfl⟩) ?_
  rintro _ ⟨_, G1, rfl, hn1, rfl⟩
  clear hn1
  have q1 : decide (vols < (m.length : Int)) = false := decide_eq_false (by omega)
  have q2 : decide (8 < vols) = false := decide_eq_false (by omega)
  simp only [go_sem, simprocAttr, q1, q2]
  refine plain_ok (N := 3000) (call_does (fun v _ => v = .bool false) rfl rfl (by kernel_rfl) rfl (dk rfl) (fun G hG => by rw [← hbad]; exact containsInt_does hG.wf (hm.mono (hG.le G0 (by simp))) (by kernel_rfl) (fun G x _ _ hw => place1_does hw))) (QOk_body _ _ _) (by first | exact .inl rfl | exact .inr ⟨_, _, rfl, rfl⟩) ?_
  rintro _ ⟨_, G2, rfl, hn2, rfl⟩
  clear hn2
  have q3 : decide (size < 0) = false := decide_eq_false (by omega)
  have q4 : decide (4000 < size) = false := decide_eq_false (by omega)
  simp only [go_sem, simprocAttr, q3, q4]
  refine ⟨by omega, ?_⟩
  by_cases h0 : 0 ≤ (m.length : Int) - 1
  · have q0 : decide (0 ≤ (m.length : Int) - 1) = true := decide_eq_true h0
    by_cases hw : (m.length : Int) - 1 = without
    · have qw : decide ((m.length : Int) - 1 = without) = true := decide_eq_true hw
      have hno : lastOk s vol m size without = false := by unfold lastOk; rw [q0, qw]; rfl
      refine draw_ok (N := 3000) (.take 0 (.take 1 (.take 2 (.take 3 (.take 4 (.take 5 (.take 6 (.take 7 (.take 8 (.take 9 (.take 10 (.alt 11 (.take 12 (.take 13 (.take 14 (.take 15 (.take 16 (.take 19 (.take 21 (.take 22 (.alt 17 (.alt 18 (.take 20 (.take 23 (.take 24 .done))) .last) .last))))))))) .last)))))))))))) [] (QOk_body _ _ _) follows_mixed (by kernel_rfl) (by kernel_rfl) ?_
      simp only [go_sem, simprocAttr, q0, qw, Bool.not_true]
      by_cases hlv : (m.length : Int) < vols
      · have q7 : decide ((m.length : Int) < vols) = true := decide_eq_true hlv
        have q8 : decide (size ≤ vol) = true := decide_eq_true hzv
        have hpl : placeS s vol vols m size without = ((m.length : Int), 0) := by unfold placeS; rw [if_neg (by rw [hno]; simp), if_pos hlv]
        rw [hpl]
        simp only [go_sem, simprocAttr, q7, q8]
        refine fin_ret (G := G0) Try.results28 ?_
        simp only [go_sem, simprocAttr]
        intro aa w' _ _
        rfl
      · have q7 : decide ((m.length : Int) < vols) = false := decide_eq_false hlv
        have hpl : placeS s vol vols m size without = (0, 8) := by unfold placeS; rw [if_neg (by rw [hno]; simp), if_neg hlv]
        rw [hpl]
        simp only [go_sem, simprocAttr, q7]
        refine fin_ret (G := G0) Try.results28 ?_
        simp only [go_sem, simprocAttr]
        intro aa w' _ _
        rfl
    have qw : decide ((m.length : Int) - 1 = without) = false := decide_eq_false hw
    obtain ⟨n, hn⟩ : ∃ n : Nat, m.length = n + 1 := ⟨m.length - 1, by omega⟩
    obtain ⟨y, hy⟩ : ∃ y, m[n]? = some y := ⟨_, List.getElem?_eq_getElem (by omega)⟩
    have hli : lastI m = y := by unfold lastI; rw [hn, show n + 1 - 1 = n from rfl, hy]; rfl
    have hyb : badN y = false := by
      rw [List.any_eq_false] at hbad
      exact bool_no (hbad y (List.mem_of_getElem? hy))
    unfold badN at hyb
    simp only [Bool.or_eq_false_iff, decide_eq_false_iff_not] at hyb
    have hjn : (m.length : Int) - 1 = (n : Int) := by omega
    refine draw_ok (N := 3000) (.take 0 (.take 1 (.take 2 (.take 3 (.take 4 (.take 5 (.take 6 (.take 7 (.take 8 (.take 9 (.take 10 (.alt 11 (.take 12 (.take 13 (.take 14 (.take 15 (.take 16 (.take 19 (.take 21 (.take 22 (.alt 17 (.alt 18 (.take 20 (.take 23 (.take 24 .done))) .last) .last))))))))) .last)))))))))))) [] (QOk_body _ _ _) follows_mixed (by kernel_rfl) (by kernel_rfl) ?_
    simp only [go_sem, simprocAttr, q0, qw, Bool.not_false]
    refine anyc_ok (N := 3000) (call_does (fun v _ => v = .bool (decide ((m.length : Int) - 1 ∈ s.gone))) rfl rfl (by kernel_rfl) rfl (dk rfl) (fun G hG => contains_does hG.wf ((hP.mono (hG.le G0 (by simp))).gone))) (QOk_body _ _ _) rfl (by first | exact .inl rfl | exact .inr ⟨_, _, rfl, rfl⟩) ?_
    rintro _ ⟨_, G4, rfl, hn4, rfl⟩
    clear hn4
    by_cases hgo : (m.length : Int) - 1 ∈ s.gone
    · have qg : decide ((m.length : Int) - 1 ∈ s.gone) = true := decide_eq_true hgo
      have hno : lastOk s vol m size without = false := by unfold lastOk; rw [qg]; simp
      simp only [go_sem, simprocAttr, qg, Bool.not_true]
      by_cases hlv : (m.length : Int) < vols
      · have q7 : decide ((m.length : Int) < vols) = true := decide_eq_true hlv
        have q8 : decide (size ≤ vol) = true := decide_eq_true hzv
        have hpl : placeS s vol vols m size without = ((m.length : Int), 0) := by unfold placeS; rw [if_neg (by rw [hno]; simp), if_pos hlv]
        rw [hpl]
        simp only [go_sem, simprocAttr, q7, q8]
        refine fin_ret (G := G0) Try.results28 ?_
        simp only [go_sem, simprocAttr]
        intro aa w' _ _
        rfl
      · have q7 : decide ((m.length : Int) < vols) = false := decide_eq_false hlv
        have hpl : placeS s vol vols m size without = (0, 8) := by unfold placeS; rw [if_neg (by rw [hno]; simp), if_neg hlv]
        rw [hpl]
        simp only [go_sem, simprocAttr, q7]
        refine fin_ret (G := G0) Try.results28 ?_
        simp only [go_sem, simprocAttr]
        intro aa w' _ _
        rfl
    have qg : decide ((m.length : Int) - 1 ∈ s.gone) = false := decide_eq_false hgo
    simp only [go_sem, simprocAttr, qg, Bool.not_false]
    refine any_ok2 (N := 3000) (elem_does (R := IntG) (l := m) (m := n) rfl tySlice27 tySize3 rfl rfl (dk rfl) hjn hy (fun G hG => hm.mono (hG.le G0 (by simp)))) (QOk_body _ _ _) rfl (by first | exact .inl rfl | exact .inr ⟨_, _, rfl, rfl⟩) (by intro _ hK; first | (obtain ⟨_, _, _, _, rfl⟩ := hK; exact ⟨rfl, fun _ h => h⟩) | (obtain ⟨_, _, rfl⟩ := hK; exact ⟨rfl, fun _ h => h⟩) | (obtain ⟨_, _, _, _, _, _, rfl⟩ := hK; exact ⟨rfl, fun _ h => List.mem_cons_of_mem _ h⟩) | (obtain ⟨_, _, _, _, _, _, _, rfl⟩ := hK; exact ⟨rfl, fun _ h => List.mem_cons_of_mem _ h⟩) | (obtain rfl := hK; exact ⟨rfl, fun _ h => h⟩)) ?_
    rintro _ ⟨g6, o6, cs, G3, hcl3, hcs, rfl⟩
    obtain rfl := hcs
    by_cases hf : y + size ≤ vol
    · have qf : decide (y + size ≤ vol) = true := decide_eq_true hf
      have hyes : lastOk s vol m size without = true := by unfold lastOk; rw [q0, qw, qg, hli, qf]; rfl
      have hpl : placeS s vol vols m size without = ((m.length : Int) - 1, 0) := by unfold placeS; rw [if_pos hyes]
      rw [hpl]
      simp only [go_sem, simprocAttr, qf]
      refine ⟨by omega, ?_⟩
      refine fin_ret (G := G0) Try.results28 ?_
      simp only [go_sem, simprocAttr]
      intro aa w' _ _
      rfl
    · have qf : decide (y + size ≤ vol) = false := decide_eq_false hf
      have hno : lastOk s vol m size without = false := by unfold lastOk; rw [hli, qf]; simp
      simp only [go_sem, simprocAttr, qf]
      refine ⟨by omega, ?_⟩
      by_cases hlv : (m.length : Int) < vols
      · have q7 : decide ((m.length : Int) < vols) = true := decide_eq_true hlv
        have q8 : decide (size ≤ vol) = true := decide_eq_true hzv
        have hpl : placeS s vol vols m size without = ((m.length : Int), 0) := by unfold placeS; rw [if_neg (by rw [hno]; simp), if_pos hlv]
        rw [hpl]
        simp only [go_sem, simprocAttr, q7, q8]
        refine fin_ret (G := G0) Try.results28 ?_
        simp only [go_sem, simprocAttr]
        intro aa w' _ _
        rfl
      · have q7 : decide ((m.length : Int) < vols) = false := decide_eq_false hlv
        have hpl : placeS s vol vols m size without = (0, 8) := by unfold placeS; rw [if_neg (by rw [hno]; simp), if_neg hlv]
        rw [hpl]
        simp only [go_sem, simprocAttr, q7]
        refine fin_ret (G := G0) Try.results28 ?_
        simp only [go_sem, simprocAttr]
        intro aa w' _ _
        rfl
  · have q0 : decide (0 ≤ (m.length : Int) - 1) = false := decide_eq_false h0
    have hno : lastOk s vol m size without = false := by unfold lastOk; rw [q0]; rfl
    refine draw_ok (N := 3000) (.take 0 (.take 1 (.take 2 (.take 3 (.take 4 (.take 5 (.take 6 (.take 7 (.take 8 (.take 9 (.take 10 (.alt 11 (.take 12 (.take 13 (.take 14 (.take 15 (.take 16 (.take 19 (.take 21 (.take 22 (.alt 17 (.alt 18 (.take 20 (.take 23 (.take 24 .done))) .last) .last))))))))) .last)))))))))))) [] (QOk_body _ _ _) follows_mixed (by kernel_rfl) (by kernel_rfl) ?_
    simp only [go_sem, simprocAttr, q0]
    by_cases hlv : (m.length : Int) < vols
    · have q7 : decide ((m.length : Int) < vols) = true := decide_eq_true hlv
      have q8 : decide (size ≤ vol) = true := decide_eq_true hzv
      have hpl : placeS s vol vols m size without = ((m.length : Int), 0) := by unfold placeS; rw [if_neg (by rw [hno]; simp), if_pos hlv]
      rw [hpl]
      simp only [go_sem, simprocAttr, q7, q8]
      refine fin_ret (G := G0) Try.results28 ?_
      simp only [go_sem, simprocAttr]
      intro aa w' _ _
      rfl
    · have q7 : decide ((m.length : Int) < vols) = false := decide_eq_false hlv
      have hpl : placeS s vol vols m size without = (0, 8) := by unfold placeS; rw [if_neg (by rw [hno]; simp), if_neg hlv]
      rw [hpl]
      simp only [go_sem, simprocAttr, q7]
      refine fin_ret (G := G0) Try.results28 ?_
      simp only [go_sem, simprocAttr]
      intro aa w' _ _
      rfl
set_option maxRecDepth 100000 in
set_option maxHeartbeats 8000000 in
theorem placeRoom_ret {w : World} (v0 : Value) (l0 : List Raw) (h0 : RawsG ⟨Non, w⟩ v0 l0) (a : Int) (ha : i64 a) (v1 : Value) (l1 : List Int) (h1 : ScR (fun (_ : GW) (x : Int) cs => cs = [.int .i64 x] ∧ i64 x) 1 ⟨Non, w⟩ v1 l1) (b : Int) (hb : i64 b) (c : Int) (hc : i64 c) :
    Calls Try.prog 11 #[v0, .int .i64 a, v1, .int .i64 b, .int .i64 c] w (Ret ⟨Non, w⟩ fun v _ => v = .bool true) := by
  have hml := max_le
  have hok := stateS_ok l0 25
  obtain ⟨A0, c0, rfl, _, _⟩ := ScR.form h0
  obtain ⟨B0, d0, rfl, hn1, hn2⟩ := ScR.form h1
  refine enterS (G := ⟨Non, w⟩) (n := 122) 3000 (wf_nonL w) Try.func11 rfl Try.ntmps11 (by simp) ?_
  simp only [go_sem, simprocAttr]
  refine plain_ok (N := 3000) (call_does (fun v G => ∃ sv ov, v = .tuple #[sv, ov] ∧ StaG G sv (stateS l0 25).1 ∧ RecsG G ov (stateS l0 25).2) rfl rfl (by kernel_rfl) rfl (dk rfl) (fun G hG => state_does (most := 25) hG.wf (ScR.mono h0 rawG_mono (hG.le ⟨Non, w⟩ (by simp))) (by omega))) (QOk_body _ _ _) (by first | exact .inl rfl | exact .inr ⟨_, _, rfl, rfl⟩) ?_
  rintro _ ⟨_, G1, ⟨sv, ov, rfl, hs, ho⟩, hn1, rfl⟩
  clear hn1
  obtain ⟨A1, c1, A2, c2, A3, c3, A4, c4, A5, c5, rfl, hP⟩ := hs.form
  obtain ⟨Ao, co, rfl, _⟩ := Sq.form ho
  obtain ⟨s, hsd⟩ : ∃ s, s = (stateS l0 25).1 := ⟨_, rfl⟩
  obtain ⟨rs, hrd⟩ : ∃ rs, rs = (stateS l0 25).2 := ⟨_, rfl⟩
  rw [← hsd] at hok hP hs ⊢
  rw [← hrd] at ho ⊢
  clear hsd hrd
  have hgd := okSt_good.1 hok
  obtain ⟨_, _, eg, hg1, hg2⟩ := Sq.form hP.gone
  cases eg
  simp only [go_sem, simprocAttr]
  intro g1
  refine plain_ok (N := 3000) (call_does (fun v _ => v = geoV (8 + pick a 30) (30 + pick a 40) (10 + pick a 60) (700 + pick a 2000) (2 + pick a 7)) rfl rfl (by kernel_rfl) rfl (dk rfl) (fun G hG => geometry_does hG.wf ha ha ha)) (QOk_body _ _ _) (by first | exact .inl rfl | exact .inr ⟨_, _, rfl, rfl⟩) ?_
  rintro _ ⟨_, G2, rfl, hn2, rfl⟩
  clear hn2
  have p4 := pick_bd a 2000 (by omega)
  have p5 := pick_bd a 7 (by omega)
  obtain ⟨x1, x2, x3, hx⟩ : ∃ x1 x2 x3, (8 + pick a 30, 30 + pick a 40, 10 + pick a 60) = (x1, x2, x3) := ⟨_, _, _, rfl⟩
  simp only [Prod.mk.injEq] at hx
  obtain ⟨hx1, hx2, hx3⟩ := hx
  obtain ⟨vol, hvol⟩ : ∃ vol, vol = 700 + pick a 2000 := ⟨_, rfl⟩
  obtain ⟨vols, hvols⟩ : ∃ vols, vols = 2 + pick a 7 := ⟨_, rfl⟩
  rw [hx1, hx2, hx3, ← hvol, ← hvols]
  unfold geoV
  have hv1 : 700 ≤ vol ∧ vol < 2700 := by omega
  have hv2 : 2 ≤ vols ∧ vols ≤ 8 := by omega
  clear hx1 hx2 hx3 hvol hvols p4 p5
  simp only [go_sem, simprocAttr]
  intro g2
  refine row_ok 3 1 ?_
  refine loop_ok (N := 3000) (ι := List Int × Option Addr × Nat) (fun i => match i with | (m, A, cc) => ⟨[(2, .c (.v (.slice B0 l1.length d0))), (3, .c (.v (.int .i64 b))), (4, .c (.v (.int .i64 c))), (11, .c (.p 0 g1 0)), (13, .c (.p 1 g2 0)), (14, .c (.v (.slice A m.length cc))), (15, .c (.v (.int .i64 (m.length : Int))))],
      [⟨1, g2, 69, [.v (.int .i64 x1), .v (.int .i64 x2), .v (.int .i64 x3), .v (.int .i64 vol), .v (.int .i64 vols)]⟩, ⟨0, g1, 29, [.v (.int .i64 s.next), .v (.int .i64 s.clock), .v (.slice A1 s.bkts.length c1), .v (.slice A2 s.vers.length c2), .v (.slice A3 s.upls.length c3), .v (.slice A4 s.queue.length c4), .v (.slice A5 s.gone.length c5)]⟩], [intRow (.slice A m.length cc) m], [], [G1, ⟨Non, w⟩], 2⟩)
    (fun i => match i with | (m, A, cc) => (m.length : Int) ≤ vols ∧ m.length ≤ l1.length ∧ ∀ x ∈ m, 0 ≤ x ∧ x ≤ vol)
    (fun i => 8 - i.1.length) (QOk_body _ _ _) ([], none, 0) ⟨by show ((0 : Nat) : Int) ≤ vols; omega, by simp, fun x hx => by cases hx⟩ (by simp only [go_sem, simprocAttr]; simp [intRow]) ?_
  rintro ⟨m, A, cc⟩ ⟨hm5, hml1, hmx⟩
  simp only at hm5 hml1 hmx ⊢
  by_cases hlt : m.length < l1.length ∧ (m.length : Int) < vols
  · have q : decide ((m.length : Int) < (l1.length : Int)) = true := decide_eq_true (by omega)
    have q2 : decide ((m.length : Int) < vols) = true := decide_eq_true hlt.2
    obtain ⟨y, hy⟩ : ∃ y, l1[m.length]? = some y := ⟨_, List.getElem?_eq_getElem hlt.1⟩
    have hpb := pick_bd y (vol + 1) (by omega)
    have hl5 : (m ++ [pick y (vol + 1)]).length = m.length + 1 := by simp
    simp only [go_sem, simprocAttr, q, q2]
    refine draw_ok (N := 3000) (.take 0 (.take 1 (.take 2 (.take 5 (.take 6 (.take 7 (.alt 3 (.alt 4 (.alt 8 (.alt 9 (.alt 10 (.take 11 .done) .last) .last) .last) .last) .last))))))) [] (QOk_body _ _ _) follows_mixed (by kernel_rfl) (by kernel_rfl) ?_
    simp only [go_sem, simprocAttr]
    refine ⟨by omega, ?_⟩
    refine any_ok2 (N := 3000) (elemC_does (R := fun (_ : GW) (x : Int) cs => cs = [.int .i64 x] ∧ i64 x) (l := l1) (m := m.length) rfl tySlice27 tySize3 rfl rfl (dk rfl) rfl hy (fun G hG => ScR.mono h1 (fun _ _ _ _ _ h => h) (hG.le ⟨Non, w⟩ (by simp)))) (QOk_body _ _ _) rfl (by first | exact .inl rfl | exact .inr ⟨_, _, rfl, rfl⟩) (by intro _ hK; first | (obtain ⟨_, _, _, _, rfl⟩ := hK; exact ⟨rfl, fun _ h => h⟩) | (obtain ⟨_, _, rfl⟩ := hK; exact ⟨rfl, fun _ h => h⟩) | (obtain ⟨_, _, _, _, _, _, rfl⟩ := hK; exact ⟨rfl, fun _ h => List.mem_cons_of_mem _ h⟩) | (obtain ⟨_, _, _, _, _, _, _, rfl⟩ := hK; exact ⟨rfl, fun _ h => List.mem_cons_of_mem _ h⟩) | (obtain rfl := hK; exact ⟨rfl, fun _ h => h⟩)) ?_
    rintro _ ⟨g6, o6, cs, G6, hcl6, ⟨rfl, hyi⟩, _, rfl⟩
    simp only [go_sem, simprocAttr]
    refine anyc_ok (N := 3000) (call_does (fun v _ => v = .int .i64 (pick y (vol + 1))) rfl rfl (by kernel_rfl) rfl (dk rfl) (fun G hG => picked_does hG.wf hyi (by omega) (by omega))) (QOk_body _ _ _) rfl (by first | exact .inl rfl | exact .inr ⟨_, _, rfl, rfl⟩) ?_
    rintro _ ⟨_, G7, rfl, hn7, rfl⟩
    clear hn7
    simp only [go_sem, simprocAttr]
    intro g4
    refine any_ok2 (N := 3000) (append_does (R1 := []) (R2 := []) (n := m.length) (v := .slice A m.length cc) (xs := m.flatMap intC) (news := [.int .i64 (pick y (vol + 1))]) rfl tySlice27 tyApp3 rfl rfl rfl rfl (dk rfl) (fun u hu => by rw [List.mem_singleton.1 hu]; rfl) (by unfold maxLen; omega) (by omega) (fun G hG => tsl_blk hG (b := ⟨3, g4, 3, [.v (.int .i64 (pick y (vol + 1)))]⟩) (by simp) rfl (by unfold maxLen; omega))) (QOk_body _ _ _) rfl (by first | exact .inl rfl | exact .inr ⟨_, _, rfl, rfl⟩) (by intro _ hK; first | (obtain ⟨_, _, _, _, rfl⟩ := hK; exact ⟨rfl, fun _ h => h⟩) | (obtain ⟨_, _, rfl⟩ := hK; exact ⟨rfl, fun _ h => h⟩) | (obtain ⟨_, _, _, _, _, _, rfl⟩ := hK; exact ⟨rfl, fun _ h => List.mem_cons_of_mem _ h⟩) | (obtain ⟨_, _, _, _, _, _, _, rfl⟩ := hK; exact ⟨rfl, fun _ h => List.mem_cons_of_mem _ h⟩) | (obtain rfl := hK; exact ⟨rfl, fun _ h => h⟩)) ?_
    rintro _ ⟨A', c', rfl⟩
    simp only [go_sem, simprocAttr]
    refine ⟨by omega, ?_⟩
    refine again_ok (m ++ [pick y (vol + 1)], A', c') ⟨by show ((m ++ [pick y (vol + 1)]).length : Int) ≤ vols; omega, by show (m ++ [pick y (vol + 1)]).length ≤ l1.length; omega, fun x hx => by
      rcases List.mem_append.1 hx with hx | hx
      · exact hmx x hx
      · rw [List.mem_singleton.1 hx]; omega⟩ (by show 8 - (m ++ [pick y (vol + 1)]).length < 8 - m.length; omega) (by rw [hl5]; simp only [go_sem, simprocAttr]; simp [intRow, intC])
  have hout : (decide ((m.length : Int) < (l1.length : Int)) = true ∧ decide ((m.length : Int) < vols) = false) ∨ decide ((m.length : Int) < (l1.length : Int)) = false := by
    by_cases z : m.length < l1.length
    · exact .inl ⟨decide_eq_true (by omega), decide_eq_false (by omega)⟩
    · exact .inr (decide_eq_false (by omega))
  clear hlt
  have pb := pick_bd b 606 (by omega)
  have pc := pick_bd c 9 (by omega)
  obtain ⟨n, hnd⟩ : ∃ n, n = pick b 606 := ⟨_, rfl⟩
  obtain ⟨k, hkd⟩ : ∃ k, k = pick c 9 := ⟨_, rfl⟩
  rw [← hnd] at pb
  rw [← hkd] at pc
  have hbm : m.any badN = false := by
    rw [List.any_eq_false]
    intro x hx
    have := hmx x hx
    unfold badN
    simp
    omega
  rcases hout with ⟨q1, q2⟩ | q1
  · simp only [go_sem, simprocAttr, q1, q2]
    refine read_ok (R1 := []) rfl (fun GM hleM hslM => ?_) (fun _ _ q => q) (by show (1 : Nat) ≠ 0; decide)
    have hM : IntsG GM (.slice A m.length cc) m := ints_of hslM
    simp only [St.seen, St.rowsTo, List.append_nil]
    refine plain_ok (N := 3000) (call_does (fun v _ => v = .int .i64 n) rfl rfl (by kernel_rfl) rfl (dk rfl) (fun G hG => by rw [hnd]; exact picked_does hG.wf hb (by omega) (by omega))) (QOk_body _ _ _) (by first | exact .inl rfl | exact .inr ⟨_, _, rfl, rfl⟩) ?_
    rintro _ ⟨_, G4, rfl, hn4, rfl⟩
    clear hn4
    simp only [go_sem, simprocAttr]
    refine plain_ok (N := 3000) (call_does (fun v _ => v = .int .i64 k) rfl rfl (by kernel_rfl) rfl (dk rfl) (fun G hG => by rw [hkd]; exact picked_does hG.wf hc (by omega) (by omega))) (QOk_body _ _ _) (by first | exact .inl rfl | exact .inr ⟨_, _, rfl, rfl⟩) ?_
    rintro _ ⟨_, G5, rfl, hn5, rfl⟩
    clear hn5
    simp only [go_sem, simprocAttr]
    refine ⟨by omega, ?_⟩
    refine plain_ok (N := 3000) (call_does (fun y _ => y = .tuple #[.int .i64 (placeS s vol vols m n (k - 1)).1, .int .i64 (placeS s vol vols m n (k - 1)).2]) rfl rfl (by kernel_rfl) rfl (dk rfl) (fun G hG => place_does hG.wf (hP.mono (hG.le G1 (by simp))).g hok (hM.mono (hG.le GM (by simp))) hm5 hv2.2 hbm (by omega) (by omega) (by omega) (by omega))) (QOk_body _ _ _) (by first | exact .inl rfl | exact .inr ⟨_, _, rfl, rfl⟩) ?_
    rintro _ ⟨_, G6, rfl, hn6, rfl⟩
    clear hn6
    simp only [go_sem, simprocAttr]
    refine plain_ok (N := 3000) (call_does (fun v _ => v = .int .i64 0) rfl rfl (by kernel_rfl) rfl (dk rfl) (fun G hG => by rw [← errSt_ok hok]; exact check_does hG.wf (hP.mono (hG.le G1 (by simp))).g)) (QOk_body _ _ _) (by first | exact .inl rfl | exact .inr ⟨_, _, rfl, rfl⟩) ?_
    rintro _ ⟨_, G8, rfl, hn8, rfl⟩
    clear hn8
    by_cases hlo : lastOk s vol m n (k - 1) = true
    · have hpl : placeS s vol vols m n (k - 1) = ((m.length : Int) - 1, 0) := by unfold placeS; rw [if_pos hlo]
      rw [hpl]
      unfold lastOk at hlo
      simp only [Bool.and_eq_true, Bool.not_eq_true', decide_eq_true_eq, decide_eq_false_iff_not] at hlo
      obtain ⟨y1, y2, y3, y4⟩ := hlo
      obtain ⟨j, hj⟩ : ∃ j : Nat, m.length = j + 1 := ⟨m.length - 1, by omega⟩
      obtain ⟨y, hy⟩ : ∃ y, m[j]? = some y := ⟨_, List.getElem?_eq_getElem (by omega)⟩
      have hyb := hmx y (List.mem_of_getElem? hy)
      have hli : lastI m = y := by unfold lastI; rw [hj, show j + 1 - 1 = j from rfl, hy]; rfl
      rw [hli] at y4
      have q1 : decide ((m.length : Int) - 1 = (m.length : Int)) = false := decide_eq_false (by omega)
      have q2 : decide ((m.length : Int) - 1 = (m.length : Int) - 1) = true := decide_eq_true rfl
      have q3 : decide ((m.length : Int) - 1 = k - 1) = false := decide_eq_false y2
      have q4 : decide (y + n ≤ vol) = true := decide_eq_true y4
      simp only [go_sem, simprocAttr, q1]
      refine loop_ok (N := 3000) (ι := Nat) (fun i => ⟨[(11, .c (.p 0 g1 0)), (13, .c (.p 1 g2 0)), (14, .c (.v (.slice A m.length cc))), (16, .c (.v (.int .i64 n))), (17, .c (.v (.int .i64 (k - 1)))), (18, .c (.v (.int .i64 ((m.length : Int) - 1)))), (91, .c (.v (.slice A5 s.gone.length c5))), (92, .c (.v (.int .i64 (s.gone.length : Int)))), (93, .c (.v (.int .i64 (i : Int))))],
          [⟨1, g2, 69, [.v (.int .i64 x1), .v (.int .i64 x2), .v (.int .i64 x3), .v (.int .i64 vol), .v (.int .i64 vols)]⟩, ⟨0, g1, 29, [.v (.int .i64 s.next), .v (.int .i64 s.clock), .v (.slice A1 s.bkts.length c1), .v (.slice A2 s.vers.length c2), .v (.slice A3 s.upls.length c3), .v (.slice A4 s.queue.length c4), .v (.slice A5 s.gone.length c5)]⟩], [], [], [GM, G1, ⟨Non, w⟩], 2⟩)
        (fun i => i ≤ s.gone.length)
        (fun i => s.gone.length - i) (QOk_body _ _ _) 0 (Nat.zero_le _) (by simp only [go_sem, simprocAttr]; simp) ?_
      rintro i hi
      by_cases hlti : i < s.gone.length
      · have qi : decide ((i : Int) < (s.gone.length : Int)) = true := decide_eq_true (by omega)
        obtain ⟨z, hz⟩ : ∃ z, s.gone[i]? = some z := ⟨_, List.getElem?_eq_getElem hlti⟩
        have q5 : decide (z = (m.length : Int) - 1) = false := decide_eq_false fun e => y3 (e ▸ List.mem_of_getElem? hz)
        simp only [go_sem, simprocAttr, qi]
        refine plain_ok (N := 3000) (elem_does (R := IntG) (l := s.gone) (m := i) rfl tySlice27 tySize3 rfl rfl (dk rfl) rfl hz (fun G hG => (hP.mono (hG.le G1 (by simp))).gone)) (QOk_body _ _ _) (by first | exact .inl rfl | exact .inr ⟨_, _, rfl, rfl⟩) ?_
        rintro _ ⟨g7, o7, cs, G7, hcl7, hcs, rfl⟩
        obtain rfl := hcs
        simp only [go_sem, simprocAttr, q5]
        refine ⟨by omega, ?_⟩
        refine again_ok (i + 1) hlti (by omega) (by simp only [go_sem, simprocAttr]; simp)
      have hil : i = s.gone.length := by omega
      subst hil
      have qi : decide ((s.gone.length : Int) < (s.gone.length : Int)) = false := decide_eq_false (by omega)
      simp only [go_sem, simprocAttr, qi]
      refine draw_ok (N := 3000) (.take 0 (.take 1 (.take 2 (.take 3 (.take 4 (.take 5 (.take 6 (.take 7 (.take 8 (.take 9 (.take 10 (.take 11 (.take 12 (.take 15 (.take 17 (.take 18 (.alt 13 (.alt 14 (.take 16 (.take 19 (.take 20 (.take 21 .done)))) .last) .last))))))))))))))))) [] (QOk_body _ _ _) follows_mixed (by kernel_rfl) (by kernel_rfl) ?_
      simp only [go_sem, simprocAttr, q2, q3, Bool.not_false]
      refine ⟨by omega, ?_⟩
      refine any_ok2 (N := 3000) (elem_does (R := IntG) (l := m) (m := j) rfl tySlice27 tySize3 rfl rfl (dk rfl) (show (m.length : Int) - 1 = (j : Int) by omega) hy (fun G hG => hM.mono (hG.le GM (by simp)))) (QOk_body _ _ _) rfl (by first | exact .inl rfl | exact .inr ⟨_, _, rfl, rfl⟩) (by intro _ hK; first | (obtain ⟨_, _, _, _, rfl⟩ := hK; exact ⟨rfl, fun _ h => h⟩) | (obtain ⟨_, _, rfl⟩ := hK; exact ⟨rfl, fun _ h => h⟩) | (obtain ⟨_, _, _, _, _, _, rfl⟩ := hK; exact ⟨rfl, fun _ h => List.mem_cons_of_mem _ h⟩) | (obtain ⟨_, _, _, _, _, _, _, rfl⟩ := hK; exact ⟨rfl, fun _ h => List.mem_cons_of_mem _ h⟩) | (obtain rfl := hK; exact ⟨rfl, fun _ h => h⟩)) ?_
      rintro _ ⟨g7, o7, cs, G7, hcl7, hcs, rfl⟩
      obtain rfl := hcs
      simp only [go_sem, simprocAttr, q4]
      refine ⟨by omega, ?_⟩
      refine fin_ret (G := ⟨Non, w⟩) Try.results11 ?_
      simp only [go_sem, simprocAttr]
      intro aa w' _ hle
      rfl
    · by_cases hlv : (m.length : Int) < vols
      · have hpl : placeS s vol vols m n (k - 1) = ((m.length : Int), 0) := by unfold placeS; rw [if_neg hlo, if_pos hlv]
        rw [hpl]
        have q1 : decide ((m.length : Int) = (m.length : Int)) = true := decide_eq_true rfl
        have q2 : decide ((m.length : Int) < vols) = true := decide_eq_true hlv
        simp only [go_sem, simprocAttr, q1, q2]
        refine fin_ret (G := ⟨Non, w⟩) Try.results11 ?_
        simp only [go_sem, simprocAttr, q2]
        intro aa w' _ hle
        rfl
      · have hpl : placeS s vol vols m n (k - 1) = (0, 8) := by unfold placeS; rw [if_neg hlo, if_neg hlv]
        rw [hpl]
        have q1 : decide ((m.length : Int) = vols) = true := decide_eq_true (by omega)
        simp only [go_sem, simprocAttr, q1]
        refine fin_ret (G := ⟨Non, w⟩) Try.results11 ?_
        simp only [go_sem, simprocAttr, q1]
        intro aa w' _ hle
        rfl
  · simp only [go_sem, simprocAttr, q1]
    refine read_ok (R1 := []) rfl (fun GM hleM hslM => ?_) (fun _ _ q => q) (by show (1 : Nat) ≠ 0; decide)
    have hM : IntsG GM (.slice A m.length cc) m := ints_of hslM
    simp only [St.seen, St.rowsTo, List.append_nil]
    refine plain_ok (N := 3000) (call_does (fun v _ => v = .int .i64 n) rfl rfl (by kernel_rfl) rfl (dk rfl) (fun G hG => by rw [hnd]; exact picked_does hG.wf hb (by omega) (by omega))) (QOk_body _ _ _) (by first | exact .inl rfl | exact .inr ⟨_, _, rfl, rfl⟩) ?_
    rintro _ ⟨_, G4, rfl, hn4, rfl⟩
    clear hn4
    simp only [go_sem, simprocAttr]
    refine plain_ok (N := 3000) (call_does (fun v _ => v = .int .i64 k) rfl rfl (by kernel_rfl) rfl (dk rfl) (fun G hG => by rw [hkd]; exact picked_does hG.wf hc (by omega) (by omega))) (QOk_body _ _ _) (by first | exact .inl rfl | exact .inr ⟨_, _, rfl, rfl⟩) ?_
    rintro _ ⟨_, G5, rfl, hn5, rfl⟩
    clear hn5
    simp only [go_sem, simprocAttr]
    refine ⟨by omega, ?_⟩
    refine plain_ok (N := 3000) (call_does (fun y _ => y = .tuple #[.int .i64 (placeS s vol vols m n (k - 1)).1, .int .i64 (placeS s vol vols m n (k - 1)).2]) rfl rfl (by kernel_rfl) rfl (dk rfl) (fun G hG => place_does hG.wf (hP.mono (hG.le G1 (by simp))).g hok (hM.mono (hG.le GM (by simp))) hm5 hv2.2 hbm (by omega) (by omega) (by omega) (by omega))) (QOk_body _ _ _) (by first | exact .inl rfl | exact .inr ⟨_, _, rfl, rfl⟩) ?_
    rintro _ ⟨_, G6, rfl, hn6, rfl⟩
    clear hn6
    simp only [go_sem, simprocAttr]
    refine plain_ok (N := 3000) (call_does (fun v _ => v = .int .i64 0) rfl rfl (by kernel_rfl) rfl (dk rfl) (fun G hG => by rw [← errSt_ok hok]; exact check_does hG.wf (hP.mono (hG.le G1 (by simp))).g)) (QOk_body _ _ _) (by first | exact .inl rfl | exact .inr ⟨_, _, rfl, rfl⟩) ?_
    rintro _ ⟨_, G8, rfl, hn8, rfl⟩
    clear hn8
    by_cases hlo : lastOk s vol m n (k - 1) = true
    · have hpl : placeS s vol vols m n (k - 1) = ((m.length : Int) - 1, 0) := by unfold placeS; rw [if_pos hlo]
      rw [hpl]
      unfold lastOk at hlo
      simp only [Bool.and_eq_true, Bool.not_eq_true', decide_eq_true_eq, decide_eq_false_iff_not] at hlo
      obtain ⟨y1, y2, y3, y4⟩ := hlo
      obtain ⟨j, hj⟩ : ∃ j : Nat, m.length = j + 1 := ⟨m.length - 1, by omega⟩
      obtain ⟨y, hy⟩ : ∃ y, m[j]? = some y := ⟨_, List.getElem?_eq_getElem (by omega)⟩
      have hyb := hmx y (List.mem_of_getElem? hy)
      have hli : lastI m = y := by unfold lastI; rw [hj, show j + 1 - 1 = j from rfl, hy]; rfl
      rw [hli] at y4
      have q1 : decide ((m.length : Int) - 1 = (m.length : Int)) = false := decide_eq_false (by omega)
      have q2 : decide ((m.length : Int) - 1 = (m.length : Int) - 1) = true := decide_eq_true rfl
      have q3 : decide ((m.length : Int) - 1 = k - 1) = false := decide_eq_false y2
      have q4 : decide (y + n ≤ vol) = true := decide_eq_true y4
      simp only [go_sem, simprocAttr, q1]
      refine loop_ok (N := 3000) (ι := Nat) (fun i => ⟨[(11, .c (.p 0 g1 0)), (13, .c (.p 1 g2 0)), (14, .c (.v (.slice A m.length cc))), (16, .c (.v (.int .i64 n))), (17, .c (.v (.int .i64 (k - 1)))), (18, .c (.v (.int .i64 ((m.length : Int) - 1)))), (91, .c (.v (.slice A5 s.gone.length c5))), (92, .c (.v (.int .i64 (s.gone.length : Int)))), (93, .c (.v (.int .i64 (i : Int))))],
          [⟨1, g2, 69, [.v (.int .i64 x1), .v (.int .i64 x2), .v (.int .i64 x3), .v (.int .i64 vol), .v (.int .i64 vols)]⟩, ⟨0, g1, 29, [.v (.int .i64 s.next), .v (.int .i64 s.clock), .v (.slice A1 s.bkts.length c1), .v (.slice A2 s.vers.length c2), .v (.slice A3 s.upls.length c3), .v (.slice A4 s.queue.length c4), .v (.slice A5 s.gone.length c5)]⟩], [], [], [GM, G1, ⟨Non, w⟩], 2⟩)
        (fun i => i ≤ s.gone.length)
        (fun i => s.gone.length - i) (QOk_body _ _ _) 0 (Nat.zero_le _) (by simp only [go_sem, simprocAttr]; simp) ?_
      rintro i hi
      by_cases hlti : i < s.gone.length
      · have qi : decide ((i : Int) < (s.gone.length : Int)) = true := decide_eq_true (by omega)
        obtain ⟨z, hz⟩ : ∃ z, s.gone[i]? = some z := ⟨_, List.getElem?_eq_getElem hlti⟩
        have q5 : decide (z = (m.length : Int) - 1) = false := decide_eq_false fun e => y3 (e ▸ List.mem_of_getElem? hz)
        simp only [go_sem, simprocAttr, qi]
        refine plain_ok (N := 3000) (elem_does (R := IntG) (l := s.gone) (m := i) rfl tySlice27 tySize3 rfl rfl (dk rfl) rfl hz (fun G hG => (hP.mono (hG.le G1 (by simp))).gone)) (QOk_body _ _ _) (by first | exact .inl rfl | exact .inr ⟨_, _, rfl, rfl⟩) ?_
        rintro _ ⟨g7, o7, cs, G7, hcl7, hcs, rfl⟩
        obtain rfl := hcs
        simp only [go_sem, simprocAttr, q5]
        refine ⟨by omega, ?_⟩
        refine again_ok (i + 1) hlti (by omega) (by simp only [go_sem, simprocAttr]; simp)
      have hil : i = s.gone.length := by omega
      subst hil
      have qi : decide ((s.gone.length : Int) < (s.gone.length : Int)) = false := decide_eq_false (by omega)
      simp only [go_sem, simprocAttr, qi]
      refine draw_ok (N := 3000) (.take 0 (.take 1 (.take 2 (.take 3 (.take 4 (.take 5 (.take 6 (.take 7 (.take 8 (.take 9 (.take 10 (.take 11 (.take 12 (.take 15 (.take 17 (.take 18 (.alt 13 (.alt 14 (.take 16 (.take 19 (.take 20 (.take 21 .done)))) .last) .last))))))))))))))))) [] (QOk_body _ _ _) follows_mixed (by kernel_rfl) (by kernel_rfl) ?_
      simp only [go_sem, simprocAttr, q2, q3, Bool.not_false]
      refine ⟨by omega, ?_⟩
      refine any_ok2 (N := 3000) (elem_does (R := IntG) (l := m) (m := j) rfl tySlice27 tySize3 rfl rfl (dk rfl) (show (m.length : Int) - 1 = (j : Int) by omega) hy (fun G hG => hM.mono (hG.le GM (by simp)))) (QOk_body _ _ _) rfl (by first | exact .inl rfl | exact .inr ⟨_, _, rfl, rfl⟩) (by intro _ hK; first | (obtain ⟨_, _, _, _, rfl⟩ := hK; exact ⟨rfl, fun _ h => h⟩) | (obtain ⟨_, _, rfl⟩ := hK; exact ⟨rfl, fun _ h => h⟩) | (obtain ⟨_, _, _, _, _, _, rfl⟩ := hK; exact ⟨rfl, fun _ h => List.mem_cons_of_mem _ h⟩) | (obtain ⟨_, _, _, _, _, _, _, rfl⟩ := hK; exact ⟨rfl, fun _ h => List.mem_cons_of_mem _ h⟩) | (obtain rfl := hK; exact ⟨rfl, fun _ h => h⟩)) ?_
      rintro _ ⟨g7, o7, cs, G7, hcl7, hcs, rfl⟩
      obtain rfl := hcs
      simp only [go_sem, simprocAttr, q4]
      refine ⟨by omega, ?_⟩
      refine fin_ret (G := ⟨Non, w⟩) Try.results11 ?_
      simp only [go_sem, simprocAttr]
      intro aa w' _ hle
      rfl
    · by_cases hlv : (m.length : Int) < vols
      · have hpl : placeS s vol vols m n (k - 1) = ((m.length : Int), 0) := by unfold placeS; rw [if_neg hlo, if_pos hlv]
        rw [hpl]
        have q1 : decide ((m.length : Int) = (m.length : Int)) = true := decide_eq_true rfl
        have q2 : decide ((m.length : Int) < vols) = true := decide_eq_true hlv
        simp only [go_sem, simprocAttr, q1, q2]
        refine fin_ret (G := ⟨Non, w⟩) Try.results11 ?_
        simp only [go_sem, simprocAttr, q2]
        intro aa w' _ hle
        rfl
      · have hpl : placeS s vol vols m n (k - 1) = (0, 8) := by unfold placeS; rw [if_neg hlo, if_neg hlv]
        rw [hpl]
        have q1 : decide ((m.length : Int) = vols) = true := decide_eq_true (by omega)
        simp only [go_sem, simprocAttr, q1]
        refine fin_ret (G := ⟨Non, w⟩) Try.results11 ?_
        simp only [go_sem, simprocAttr, q1]
        intro aa w' _ hle
        rfl
theorem placeRoom_walk {w : World} (v0 : Value) (l0 : List Raw) (h0 : RawsG ⟨Non, w⟩ v0 l0) (a : Int) (ha : i64 a) (v1 : Value) (l1 : List Int) (h1 : ScR (fun (_ : GW) (x : Int) cs => cs = [.int .i64 x] ∧ i64 x) 1 ⟨Non, w⟩ v1 l1) (b : Int) (hb : i64 b) (c : Int) (hc : i64 c) : Calls Try.prog 11 #[v0, .int .i64 a, v1, .int .i64 b, .int .i64 c] w fun e w' => e = .returned (.bool true) ∧ Below w.heap.size w w' := ret_walk (placeRoom_ret v0 l0 h0 a ha v1 l1 h1 b hb c hc)
end Go.Proofs.Ytefmffpidhdjoaa
