/- 'icehousekeep.StateGood' returns true for every slice of raw things. Conditions: none. -/
import Derived.Test.YtefmffpidhdjoaaO3
import Derived.Test.YtefmffpidhdjoaaL2
namespace Go.Proofs.Ytefmffpidhdjoaa
open Go.RowKit
set_option linter.unusedSimpArgs false
theorem errSt_ok {s : Sta} (h : okSt s = true) : errSt s = 0 := by unfold errSt; rw [if_pos h]
theorem fold_len : ∀ (l : List Raw) (p : Sta × List Rec), p.2.length ≤ (l.foldl stepS p).2.length
  | [], p => Nat.le_refl _
  | r :: l, p => by
    refine Nat.le_trans ?_ (fold_len l _)
    unfold stepS stepA
    split
    · simp
    · exact Nat.le_refl _
set_option maxRecDepth 100000 in
theorem two_recs : (stepS (stepS (startS, []) (rawA 0)) (rawA 1)).2.length = 2 := by kernel_rfl
theorem stateS_two (l : List Raw) (most : Nat) : 2 ≤ (stateS l most).2.length := by
  have := fold_len (l.take most) (stepS (stepS (startS, []) (rawA 0)) (rawA 1))
  rw [two_recs] at this
  exact this
theorem applyS_of {s : Sta} (h : okSt s = true) (r : Rec) : applyS s r = applyC (changeS s r) := by unfold applyS; rw [if_pos h]
theorem apply15 {s : Sta} (h : okSt s = true) : applyS s (rec0 15) = (zeroS, 3) := by
  rw [applyS_of h]
  rfl
theorem err_zero : errSt zeroS = 9 := by rfl
theorem ret_walk {P : Program} {f : FuncId} {args : Array Value} {w : World} (h : Calls P f args w (Ret ⟨Non, w⟩ fun v _ => v = .bool true)) : Calls P f args w fun e w' => e = .returned (.bool true) ∧ Below w.heap.size w w' :=
  h.mono fun e w' ⟨v, he, hv, hc⟩ => ⟨by rw [he, hv], hc.below⟩
set_option maxRecDepth 100000 in
set_option maxHeartbeats 8000000 in
theorem stateGood_ret {w : World} (v0 : Value) (l0 : List Raw) (h0 : RawsG ⟨Non, w⟩ v0 l0) :
    Calls Try.prog 4 #[v0] w (Ret ⟨Non, w⟩ fun v _ => v = .bool true) := by
  have hml := max_le
  have hok := stateS_ok l0 40
  have h2 := stateS_two l0 40
  obtain ⟨A0, c0, rfl, _, _⟩ := ScR.form h0
  refine enterS (G := ⟨Non, w⟩) (n := 35) 3000 (wf_nonL w) Try.func4 rfl Try.ntmps4 (by simp) ?_
  simp only [go_sem, simprocAttr]
  refine plain_ok (N := 3000) (call_does (fun v G => ∃ sv ov, v = .tuple #[sv, ov] ∧ StaG G sv (stateS l0 40).1 ∧ RecsG G ov (stateS l0 40).2) rfl rfl (by kernel_rfl) rfl (dk rfl) (fun G hG => state_does (most := 40) hG.wf (ScR.mono h0 rawG_mono (hG.le ⟨Non, w⟩ (by simp))) (by omega))) (QOk_body _ _ _) (by first | exact .inl rfl | exact .inr ⟨_, _, rfl, rfl⟩) ?_
  rintro _ ⟨_, G1, ⟨sv, ov, rfl, hs, ho⟩, hn1, rfl⟩
  clear hn1
  obtain ⟨A1, c1, A2, c2, A3, c3, A4, c4, A5, c5, rfl, hP⟩ := hs.form
  obtain ⟨Ao, co, rfl, _⟩ := Sq.form ho
  obtain ⟨s, hsd⟩ : ∃ s, s = (stateS l0 40).1 := ⟨_, rfl⟩
  obtain ⟨rs, hrd⟩ : ∃ rs, rs = (stateS l0 40).2 := ⟨_, rfl⟩
  rw [← hsd] at hok hP hs ⊢
  rw [← hrd] at h2 ho ⊢
  clear hsd hrd
  have e15 := apply15 hok
  simp only [go_sem, simprocAttr]
  intro g1
  refine plain_ok (N := 3000) (call_does (fun y G => ∃ sv', y = .tuple #[sv', .int .i64 (applyS s (rec0 15)).2] ∧ StaG G sv' (applyS s (rec0 15)).1) rfl rfl (by kernel_rfl) rfl (dk rfl) (fun G hG => apply_does hG.wf (hP.mono (hG.le G1 (by simp))).g ⟨_, _, _, rfl, Sq.nil, Sq.nil, Sq.nil, rec0_ok 15⟩)) (QOk_body _ _ _) (by first | exact .inl rfl | exact .inr ⟨_, _, rfl, rfl⟩) ?_
  rintro _ ⟨_, G2, ⟨sv2, rfl, hs2⟩, hn2, rfl⟩
  clear hn2
  
  rw [e15] at hs2 ⊢
  obtain ⟨B1, d1, B2, d2, B3, d3, B4, d4, B5, d5, rfl, hP2⟩ := hs2.form
  have q2 : decide (1 < (rs.length : Int)) = true := decide_eq_true (by omega)
  simp only [go_sem, simprocAttr]
  intro g2
  refine plain_ok (N := 3000) (call_does (fun v _ => v = .int .i64 0) rfl rfl (by kernel_rfl) rfl (dk rfl) (fun G hG => by rw [← errSt_ok hok]; exact check_does hG.wf (hP.mono (hG.le G1 (by simp))).g)) (QOk_body _ _ _) (by first | exact .inl rfl | exact .inr ⟨_, _, rfl, rfl⟩) ?_
  rintro _ ⟨_, G3, rfl, hn3, rfl⟩
  clear hn3
  simp only [go_sem, simprocAttr, q2]
  refine plain_ok (N := 3000) (call_does (fun v _ => v = .int .i64 9) rfl rfl (by kernel_rfl) rfl (dk rfl) (fun G hG => by rw [← err_zero]; exact check_does hG.wf (staG_zero _))) (QOk_body _ _ _) (by first | exact .inl rfl | exact .inr ⟨_, _, rfl, rfl⟩) ?_
  rintro _ ⟨_, G4, rfl, hn4, rfl⟩
  clear hn4
  simp only [go_sem, simprocAttr, q2]
  refine fin_ret (G := ⟨Non, w⟩) Try.results4 ?_
  simp only [go_sem, simprocAttr]
  intro aa w' _ hle
  rfl
theorem stateGood_walk {w : World} (v0 : Value) (l0 : List Raw) (h0 : RawsG ⟨Non, w⟩ v0 l0) : Calls Try.prog 4 #[v0] w fun e w' => e = .returned (.bool true) ∧ Below w.heap.size w w' := ret_walk (stateGood_ret v0 l0 h0)
end Go.Proofs.Ytefmffpidhdjoaa
