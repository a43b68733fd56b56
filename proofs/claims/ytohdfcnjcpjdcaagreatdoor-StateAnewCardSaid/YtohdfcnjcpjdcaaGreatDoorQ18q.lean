/- 'icehousekeep.StateAnew' returns true for whatever raw numbers. Conditions: none. -/
import Derived.Test.YtohdfcnjcpjdcaaGreatDoorQ15q
import Derived.Test.YtohdfcnjcpjdcaaGreatDoorW19q
namespace Go.Proofs.YtohdfcnjcpjdcaaGreatDoor
open Go.RowKit
set_option linter.unusedSimpArgs false
set_option maxRecDepth 100000 in
set_option maxHeartbeats 16000000 in
theorem stateAnew_ret {w : World} (v0 : Value) (l0 : List Raw) (h0 : RawsG ⟨Non, w⟩ v0 l0) (hK : KindsG ⟨Non, w⟩) :
  Calls Tryz.prog 4 #[v0] w (Ret ⟨Non, w⟩ fun v _ => v = .bool true) := by
 have hml := max_le
 obtain ⟨hok, hall, hlen⟩ := stateS_recs l0 30
 obtain ⟨A0, c0, rfl, _, _⟩ := ScR.form h0
 refine enterS (G := ⟨Non, w⟩) (n := 57) 3000 (fun _ h => h.elim) Tryz.func4 rfl Tryz.ntmps4 (by simp) ?_
 simp only [go_sem, simprocAttr]
 refine pk (call_does (fun v G => ∃ sv ov, v = .tuple #[sv, ov] ∧ StaG G sv (stateS l0 30).1 ∧ RecsG G ov (stateS l0 30).2) rfl rfl (by kernel_rfl) rfl (dk rfl) (fun G hG => state_does (most := 30) hG.wf (ScR.mono h0 rawG_mono (hG.le ⟨Non, w⟩ (by simp))) (by omega))) ?_
 rintro _ ⟨_, G1, ⟨sv, ov, rfl, hs, ho⟩, hn1, rfl⟩
 clear hn1
 obtain ⟨A1, c1, A2, c2, A3, c3, A4, c4, A5, c5, rfl, hP⟩ := hs.form
 obtain ⟨s, hsd⟩ : ∃ s, s = (stateS l0 30).1 := ⟨_, rfl⟩
 obtain ⟨rs, hrd⟩ : ∃ rs, rs = (stateS l0 30).2 := ⟨_, rfl⟩
 rw [← hsd] at hP hs hall ⊢
 rw [← hrd] at ho hok hlen hall
 clear hsd hrd
 have hrx := ho.rx hok
 clear ho
 obtain ⟨Ao, co, rfl, hco1, hco2⟩ := Sq.form hrx
 have hln : rs.length < 256 := by omega
 obtain ⟨hel1, hel2⟩ := encR_len hok hln
 have hbk := decR_back hok hln
 have hen : (encR rs).2 = 0 := by rw [encR_B hok hln]
 simp only [go_sem, simprocAttr]
 intro g1
 refine pk (call_does (fun y G => ∃ bv, y = .tuple #[bv, .int .i64 (encR rs).2] ∧ ByG G bv (encR rs).1) rfl rfl (by kernel_rfl) rfl (dk rfl) (fun G hG => enc_does hG.wf (Sq.mono hrx rxCs_mono (hG.le G1 (by simp))) (BlkG.mono hK (hG.le ⟨Non, w⟩ (by simp))))) ?_
 rintro _ ⟨_, G2, ⟨bv, rfl, hbv⟩, hn2, rfl⟩
 clear hn2
 rw [hen]
 obtain ⟨l, hl⟩ : ∃ l, l = (encR rs).1 := ⟨_, rfl⟩
 rw [← hl] at hel1 hel2 hbk hbv
 clear hl hen
 obtain ⟨Ab, cb, rfl, hcb1, hcb2⟩ := hbv.form
 simp only [go_sem, simprocAttr]
 refine pk (call_does (fun y G => ∃ ov, y = .tuple #[ov, .int .i64 (decR l).2] ∧ RxsG G ov (decR l).1) rfl rfl (by kernel_rfl) rfl (dk rfl) (fun G hG => dec_does hG.wf (hbv.mono (hG.le G2 (by simp))) (by omega) (BlkG.mono hK (hG.le ⟨Non, w⟩ (by simp))))) ?_
 rintro _ ⟨_, G3, ⟨ov3, rfl, ht⟩, hn3, rfl⟩
 clear hn3
 rw [hbk] at ht ⊢
 obtain ⟨Ag, cg, rfl, hcg1, hcg2⟩ := Sq.form ht
 simp only [go_sem, simprocAttr]
 intro g2
 refine loop_ok (N := 3000) (ι := Nat × Sta × ((Option Addr × Nat) × (Option Addr × Nat) × (Option Addr × Nat) × (Option Addr × Nat) × (Option Addr × Nat)) × GW)
  (fun i => match i with | (j, t, ((B1, d1), (B2, d2), (B3, d3), (B4, d4), (B5, d5)), G) => ⟨[(3, .c (.p 0 g1 0)), (6, .c (.v (.int .i64 0))), (8, .c (.v (.int .i64 0))), (9, .c (.p 1 g2 0)), (30, .c (.v (.slice Ag rs.length cg))), (31, .c (.v (.int .i64 (rs.length : Int)))), (32, .c (.v (.int .i64 (j : Int))))],
   [⟨1, g2, 29, [.v (.int .i64 t.next), .v (.int .i64 t.clock), .v (.slice B1 t.bkts.length d1), .v (.slice B2 t.vers.length d2), .v (.slice B3 t.upls.length d3), .v (.slice B4 t.queue.length d4), .v (.slice B5 t.gone.length d5)]⟩, ⟨0, g1, 29, [.v (.int .i64 s.next), .v (.int .i64 s.clock), .v (.slice A1 s.bkts.length c1), .v (.slice A2 s.vers.length c2), .v (.slice A3 s.upls.length c3), .v (.slice A4 s.queue.length c4), .v (.slice A5 s.gone.length c5)]⟩], [], [], [G, G3, G1, ⟨Non, w⟩], 2⟩)
  (fun i => match i with | (j, t, ((B1, d1), (B2, d2), (B3, d3), (B4, d4), (B5, d5)), G) => j ≤ rs.length ∧ appAll t (rs.drop j) = some s ∧ StaP G t B1 d1 B2 d2 B3 d3 B4 d4 B5 d5)
  (fun i => rs.length - i.1) (QOk_body _ _ _) (0, startS, ((none, 0), (none, 0), (none, 0), (none, 0), (none, 0)), G3) ⟨Nat.zero_le _, hall, ⟨Sq.nil, Sq.nil, Sq.nil, Sq.nil, Sq.nil⟩⟩ (by simp only [go_sem, simprocAttr]; simp [startS]) ?_
 rintro ⟨j, t, ⟨⟨B1, d1⟩, ⟨B2, d2⟩, ⟨B3, d3⟩, ⟨B4, d4⟩, ⟨B5, d5⟩⟩, GA⟩ ⟨hj, hT, hQ⟩
 simp only
 by_cases hlt : j < rs.length
 ·have q : decide ((j : Int) < (rs.length : Int)) = true := decide_eq_true (by omega)
  obtain ⟨r, hr⟩ : ∃ r, rs[j]? = some r := ⟨_, List.getElem?_eq_getElem hlt⟩
  have hrk := hok r (List.mem_of_getElem? hr)
  rw [drop_getq hr] at hT
  have ha0 : (applyS t r).2 = 0 := by
   by_cases h : (applyS t r).2 = 0
   ·exact h
   ·rw [appAll, if_neg h] at hT
    cases hT
  rw [appAll, if_pos ha0] at hT
  simp only [go_sem, simprocAttr, q]
  refine pk (elem_does (R := RxCs) (l := rs) (m := j) rfl tySlice30 tySize50 rfl rfl (dk rfl) rfl hr (fun G hG => Sq.mono ht rxCs_mono (hG.le G3 (by simp)))) ?_
  rintro _ ⟨gx, ox, cs, GE, hcl, hcs, rfl⟩
  obtain ⟨vs, ps, ss, rfl, hx, _, _⟩ := hcs
  obtain ⟨X1, y1, rfl, _, _⟩ := Sq.form hx.v
  obtain ⟨X2, y2, rfl, _, _⟩ := Sq.form hx.p
  obtain ⟨X3, y3, rfl, _, _⟩ := Sq.form hx.s
  simp only [go_sem, simprocAttr, recV]
  intro gv
  refine pk (call_does (fun y G => ∃ sv', y = .tuple #[sv', .int .i64 (applyS t r).2] ∧ StaG G sv' (applyS t r).1) rfl rfl (by kernel_rfl) rfl (dk rfl) (fun G hG => apply_does (r := r) hG.wf (hQ.mono (hG.le GA (by simp))).g ⟨_, _, _, rfl, hx.v.mono (hG.le GE (by simp)), hx.p.mono (hG.le GE (by simp)), hx.s.mono (hG.le GE (by simp)), recOk_of hrk⟩)) ?_
  rintro _ ⟨_, H2, ⟨sv', rfl, hsv'⟩, hn4, rfl⟩
  clear hn4
  rw [ha0]
  obtain ⟨a, ha⟩ : ∃ a, a = (applyS t r).1 := ⟨_, rfl⟩
  rw [← ha] at hsv' hT
  clear ha ha0
  obtain ⟨D1, f1, D2, f2, D3, f3, D4, f4, D5, f5, rfl, hP2⟩ := hsv'.form
  simp only [go_sem, simprocAttr]
  intro g6
  refine ⟨by omega, ?_⟩
  exact again_ok (j + 1, a, ((D1, f1), (D2, f2), (D3, f3), (D4, f4), (D5, f5)), H2) ⟨hlt, hT, hP2⟩ (by show rs.length - (j + 1) < rs.length - j; omega) (by simp only [go_sem, simprocAttr]; simp)
 have hge : rs.length ≤ j := by omega
 have q1 : decide ((j : Int) < (rs.length : Int)) = false := decide_eq_false (by omega)
 rw [List.drop_eq_nil_of_le hge, appAll] at hT
 obtain rfl := Option.some.inj hT
 simp only [go_sem, simprocAttr, q1]
 refine pk (call_does (fun y _ => y = .bool true) rfl rfl (by kernel_rfl) rfl (dk rfl) (fun G hG => sameState_does hG.wf (hs.mono (hG.le G1 (by simp))) (hQ.mono (hG.le GA (by simp))).g)) ?_
 rintro _ ⟨_, G7, rfl, hn7, rfl⟩
 clear hn7
 simp only [go_sem, simprocAttr]
 refine fin_ret (G := ⟨Non, w⟩) Tryz.results4 ?_
 simp only [go_sem, simprocAttr]
 intro aa w' _ hle
 rfl
theorem stateAnew_walk {w : World} (v0 : Value) (l0 : List Raw) (h0 : RawsG ⟨Non, w⟩ v0 l0) (hK : KindsG ⟨Non, w⟩) : Calls Tryz.prog 4 #[v0] w fun e w' => e = .returned (.bool true) ∧ Below w.heap.size w w' :=
 (stateAnew_ret v0 l0 h0 hK).mono fun e w' ⟨v, he, hv, hc⟩ => ⟨by rw [he, hv], hc.below⟩
end Go.Proofs.YtohdfcnjcpjdcaaGreatDoor
