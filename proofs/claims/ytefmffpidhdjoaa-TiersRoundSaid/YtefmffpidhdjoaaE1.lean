/- picked, name, key, id, upload. Conditions: as each law states them. -/
import Derived.Test.YtefmffpidhdjoaaS30
import Derived.Test.YtefmffpidhdjoaaE0
namespace Go.Proofs.Ytefmffpidhdjoaa
open Go.RowKit
set_option linter.unusedSimpArgs false
section
variable {P : Program} {E : Env} {σ : St} {o : Oper}
/-- an element of a literal's row of the call's own -/
theorem lit_elem_does {t e kc : Nat} {x i : Operand} {g n c m id : Nat} {kk : IntKind} {j : Int} (ho : o.op = .indexAddr t x i) (ht : tSlice P t = some e) (hk : tSize P e = some kc)
    (hx : ev σ x = some (.c (.s id g 0 n c))) (hi : ev σ i = some (.c (.v (.int kk j)))) (hd : dOk E o.dst) (hj : j = (m : Int)) (hm : m < n) :
    Does P E σ o (fun σ' => σ' = σ.put o.dst (.c (.p id g (m * kc)))) := by
  intro a w Q next hr hn
  have hx' : a.eval x = .slice (some ⟨g, 0, none⟩) n c := ev_den hr.see hx
  have hi' : a.eval i = .int kk j := ev_den hr.see hi
  obtain ⟨inf, hinf, hsz⟩ := tSize_spec hk
  have hrun : (execOp a.eval o).run P w = .ok (.value (.pointer (some ⟨g, m * kc, none⟩))) w := by
    unfold execOp
    subst hj
    have hc1 : 0 ≤ (m : Int) ∧ (m : Int) < (n : Int) := ⟨by omega, by omega⟩
    simp only [ho, hx', hi', Instr.indexAt, Sem.run_bind, asIntOf, Sem.run_pure, Result.andThen_ok, run_underlying (tSlice_spec ht), hc1, and_self, if_true, sizeOf, typeInfo, run_program, hinf, hsz, Int.toNat_natCast, Addr.add_mid, Nat.zero_add]
  exact wp_of_value hrun (hn _ _ _ rfl (hr.put o.dst (.c (.p id g (m * kc))) (dOk_lt hd)))
end
theorem pickN (n m : Int) (hm : 0 < m) : ∃ k : Nat, pick n m = (k : Int) ∧ (k : Int) < m := by
  obtain ⟨h1, h2⟩ := pick_bd n m hm
  exact ⟨(pick n m).toNat, by omega, by omega⟩
set_option maxRecDepth 100000 in
set_option maxHeartbeats 4000000 in
theorem picked_does {n m : Int} {G0 : GW} (hW : G0.Wf) (hn : i64 n) (hm : 1 ≤ m) (hm2 : m ≤ 9223372036854775807) :
    Calls Try.prog 25 #[.int .i64 n, .int .i64 m] G0.w (Ret G0 fun v _ => v = .int .i64 (pick n m)) := by
  obtain ⟨n1, n2⟩ := hn
  refine enterS (G := G0) (n := 13) 3000 hW Try.func25 rfl Try.ntmps25 (by simp) ?_
  simp only [go_sem, simprocAttr]
  refine Wb_mk (fun h => ?_) (fun h => ?_)
  · have h' := of_decide_eq_true h
    refine ⟨by omega, by omega, by omega, ?_⟩
    refine fin_ret (G := G0) Try.results25 ?_
    simp only [go_sem, simprocAttr]
    intro aa w' _ _
    unfold pick
    rw [if_pos h', ← Int.zero_sub]
    rfl
  · have h' := of_decide_eq_false h
    refine ⟨by omega, ?_⟩
    refine fin_ret (G := G0) Try.results25 ?_
    simp only [go_sem, simprocAttr]
    intro aa w' _ _
    unfold pick
    rw [if_neg h']
    rfl
set_option maxRecDepth 100000 in
set_option maxHeartbeats 8000000 in
theorem name_does {n : Int} {G0 : GW} (hW : G0.Wf) (hn : i64 n) :
    Calls Try.prog 30 #[.int .i64 n] G0.w (Ret G0 fun v _ => v = .string (nameS n)) := by
  obtain ⟨k, hk, hlt⟩ := pickN n 2 (by omega)
  have hlt' : k < 2 := by omega
  refine enterS (G := G0) (n := 8) 3000 hW Try.func30 rfl Try.ntmps30 (by simp) ?_
  simp only [go_sem, simprocAttr]
  intro g1
  refine plain_ok (N := 3000) (call_does (fun v _ => v = .int .i64 (k : Int)) rfl rfl (by kernel_rfl) rfl (dk rfl) (fun G hG => by rw [← hk]; exact picked_does hG.wf hn (by omega) (by omega))) (QOk_body _ _ _) (by first | exact .inl rfl | exact .inr ⟨_, _, rfl, rfl⟩) ?_
  rintro _ ⟨_, G1, rfl, hn1, rfl⟩
  clear hn1
  simp only [go_sem, simprocAttr]
  refine plain_ok (N := 3000) (lit_elem_does (m := k) rfl tySlice119 tySize9 rfl rfl (dk rfl) rfl hlt') (QOk_body _ _ _) (by first | exact .inl rfl | exact .inr ⟨_, _, rfl, rfl⟩) ?_
  rintro _ rfl
  obtain rfl | rfl : k = 0 ∨ k = 1 := by omega
  · simp only [go_sem, simprocAttr, Nat.mul_one, Nat.zero_mul, Nat.one_mul]
    refine fin_ret (G := G0) Try.results30 ?_
    simp only [go_sem, simprocAttr]
    intro aa w' _ _
    unfold nameS
    rw [hk]
    rfl
  · simp only [go_sem, simprocAttr, Nat.mul_one, Nat.zero_mul, Nat.one_mul]
    refine fin_ret (G := G0) Try.results30 ?_
    simp only [go_sem, simprocAttr]
    intro aa w' _ _
    unfold nameS
    rw [hk]
    rfl
set_option maxRecDepth 100000 in
set_option maxHeartbeats 8000000 in
theorem key_does {n : Int} {G0 : GW} (hW : G0.Wf) (hn : i64 n) :
    Calls Try.prog 31 #[.int .i64 n] G0.w (Ret G0 fun v _ => v = .string (keyS n)) := by
  obtain ⟨k, hk, hlt⟩ := pickN n 5 (by omega)
  have hlt' : k < 5 := by omega
  refine enterS (G := G0) (n := 8) 3000 hW Try.func31 rfl Try.ntmps31 (by simp) ?_
  simp only [go_sem, simprocAttr]
  intro g1
  refine plain_ok (N := 3000) (call_does (fun v _ => v = .int .i64 (k : Int)) rfl rfl (by kernel_rfl) rfl (dk rfl) (fun G hG => by rw [← hk]; exact picked_does hG.wf hn (by omega) (by omega))) (QOk_body _ _ _) (by first | exact .inl rfl | exact .inr ⟨_, _, rfl, rfl⟩) ?_
  rintro _ ⟨_, G1, rfl, hn1, rfl⟩
  clear hn1
  simp only [go_sem, simprocAttr]
  refine plain_ok (N := 3000) (lit_elem_does (m := k) rfl tySlice119 tySize9 rfl rfl (dk rfl) rfl hlt') (QOk_body _ _ _) (by first | exact .inl rfl | exact .inr ⟨_, _, rfl, rfl⟩) ?_
  rintro _ rfl
  obtain rfl | rfl | rfl | rfl | rfl : k = 0 ∨ k = 1 ∨ k = 2 ∨ k = 3 ∨ k = 4 := by omega
  · simp only [go_sem, simprocAttr, Nat.mul_one, Nat.zero_mul, Nat.one_mul]
    refine fin_ret (G := G0) Try.results31 ?_
    simp only [go_sem, simprocAttr]
    intro aa w' _ _
    unfold keyS
    rw [hk]
    rfl
  · simp only [go_sem, simprocAttr, Nat.mul_one, Nat.zero_mul, Nat.one_mul]
    refine fin_ret (G := G0) Try.results31 ?_
    simp only [go_sem, simprocAttr]
    intro aa w' _ _
    unfold keyS
    rw [hk]
    rfl
  · simp only [go_sem, simprocAttr, Nat.mul_one, Nat.zero_mul, Nat.one_mul]
    refine fin_ret (G := G0) Try.results31 ?_
    simp only [go_sem, simprocAttr]
    intro aa w' _ _
    unfold keyS
    rw [hk]
    rfl
  · simp only [go_sem, simprocAttr, Nat.mul_one, Nat.zero_mul, Nat.one_mul]
    refine fin_ret (G := G0) Try.results31 ?_
    simp only [go_sem, simprocAttr]
    intro aa w' _ _
    unfold keyS
    rw [hk]
    rfl
  · simp only [go_sem, simprocAttr, Nat.mul_one, Nat.zero_mul, Nat.one_mul]
    refine fin_ret (G := G0) Try.results31 ?_
    simp only [go_sem, simprocAttr]
    intro aa w' _ _
    unfold keyS
    rw [hk]
    rfl
set_option maxRecDepth 100000 in
set_option maxHeartbeats 8000000 in
theorem id_does {s : Sta} {sv : Value} {n : Int} {G0 : GW} (hW : G0.Wf) (hs : StaG G0 sv s) (hn : i64 n) :
    Calls Try.prog 24 #[sv, .int .i64 n] G0.w (Ret G0 fun v _ => v = .int .i64 (idS s n)) := by
  obtain ⟨A1, c1, A2, c2, A3, c3, A4, c4, A5, c5, rfl, hP⟩ := hs.form
  have hml := max_le
  obtain ⟨_, _, eq0, hc1, hc2⟩ := Sq.form hP.vers
  cases eq0
  by_cases h0 : s.vers.length = 0
  · have q0 : decide (0 < (s.vers.length : Int)) = false := decide_eq_false (by omega)
    have hnil : s.vers = [] := List.eq_nil_of_length_eq_zero h0
    have e : idS s n = 1 + pick n 9 := by unfold idS; rw [hnil]; rfl
    rw [e]
    refine enterS (G := G0) (n := 22) 3000 hW Try.func24 rfl Try.ntmps24 (by simp) ?_
    simp only [go_sem, simprocAttr, q0]
    intro g1
    refine plain_ok (N := 3000) (call_does (fun v _ => v = .int .i64 (pick n 9)) rfl rfl (by kernel_rfl) rfl (dk rfl) (fun G hG => picked_does hG.wf hn (by omega) (by omega))) (QOk_body _ _ _) (by first | exact .inl rfl | exact .inr ⟨_, _, rfl, rfl⟩) ?_
    rintro _ ⟨_, G1, rfl, hn1, rfl⟩
    clear hn1
    have := pick_bd n 9 (by omega)
    simp only [go_sem, simprocAttr]
    refine ⟨by omega, ?_⟩
    refine fin_ret (G := G0) Try.results24 ?_
    simp only [go_sem, simprocAttr]
    intro aa w' _ _
    rfl
  · have q0 : decide (0 < (s.vers.length : Int)) = true := decide_eq_true (by omega)
    obtain ⟨k, hk, hlt⟩ := pickN n s.vers.length (by omega)
    obtain ⟨x, hx⟩ : ∃ x, s.vers[k]? = some x := ⟨_, List.getElem?_eq_getElem (by omega)⟩
    have e : idS s n = x.id := by unfold idS; rw [hk, Int.toNat_natCast, hx]; rfl
    rw [e]
    refine enterS (G := G0) (n := 22) 3000 hW Try.func24 rfl Try.ntmps24 (by simp) ?_
    simp only [go_sem, simprocAttr, q0]
    intro g1
    refine preview_ok (R := VerG) (kc := 12) hx (fun G hG => (Sq.mono hP.vers verG_mono (hG G0 (by simp))).sc) fun g2 o2 cs2 G5 hA hcl2 hcs2 hle2 => ?_
    subst hA
    obtain ⟨svx, rfl, hsv, hb1, hb2⟩ := hcs2
    simp only [go_sem, simprocAttr, verV]
    refine draw_ok (N := 3000) (.take 0 (.take 1 (.take 2 (.take 3 (.take 4 (.take 5 (.alt 6 (.take 7 (.take 8 (.take 9 (.take 10 .done)))) .last))))))) [] (QOk_body _ _ _) follows_mixed (by kernel_rfl) (by kernel_rfl) ?_
    simp only [go_sem, simprocAttr]
    refine anyc_ok (N := 3000) (call_does (fun v _ => v = .int .i64 (k : Int)) rfl rfl (by kernel_rfl) rfl (dk rfl) (fun G hG => by rw [← hk]; exact picked_does hG.wf hn (by omega) (by omega))) (QOk_body _ _ _) rfl (by first | exact .inl rfl | exact .inr ⟨_, _, rfl, rfl⟩) ?_
    rintro _ ⟨_, G1, rfl, hn1, rfl⟩
    clear hn1
    simp only [go_sem, simprocAttr]
    refine take_elem 1 (m := k) rfl tySlice24 tySize44 rfl rfl (dk rfl) rfl (by omega) ?_
    simp only [go_sem, simprocAttr, verV]
    refine fin_ret (G := G0) Try.results24 ?_
    simp only [go_sem, simprocAttr]
    intro aa w' _ _
    rfl
set_option maxRecDepth 100000 in
set_option maxHeartbeats 8000000 in
theorem upid_does {s : Sta} {sv : Value} {n : Int} {G0 : GW} (hW : G0.Wf) (hs : StaG G0 sv s) (hn : i64 n) :
    Calls Try.prog 67 #[sv, .int .i64 n] G0.w (Ret G0 fun v _ => v = .int .i64 (upidS s n)) := by
  obtain ⟨A1, c1, A2, c2, A3, c3, A4, c4, A5, c5, rfl, hP⟩ := hs.form
  have hml := max_le
  obtain ⟨_, _, eq0, hc1, hc2⟩ := Sq.form hP.upls
  cases eq0
  by_cases h0 : s.upls.length = 0
  · have q0 : decide (0 < (s.upls.length : Int)) = false := decide_eq_false (by omega)
    have hnil : s.upls = [] := List.eq_nil_of_length_eq_zero h0
    have e : upidS s n = 1 := by unfold upidS; rw [hnil]; rfl
    rw [e]
    refine enterS (G := G0) (n := 19) 3000 hW Try.func67 rfl Try.ntmps67 (by simp) ?_
    simp only [go_sem, simprocAttr, q0]
    intro g1
    refine fin_ret (G := G0) Try.results67 ?_
    simp only [go_sem, simprocAttr]
    intro aa w' _ _
    rfl
  · have q0 : decide (0 < (s.upls.length : Int)) = true := decide_eq_true (by omega)
    obtain ⟨k, hk, hlt⟩ := pickN n s.upls.length (by omega)
    obtain ⟨x, hx⟩ : ∃ x, s.upls[k]? = some x := ⟨_, List.getElem?_eq_getElem (by omega)⟩
    have e : upidS s n = x.id := by unfold upidS; rw [hk, Int.toNat_natCast, hx]; rfl
    rw [e]
    refine enterS (G := G0) (n := 19) 3000 hW Try.func67 rfl Try.ntmps67 (by simp) ?_
    simp only [go_sem, simprocAttr, q0]
    intro g1
    refine preview_ok (R := UplG) (kc := 4) hx (fun G hG => (Sq.mono hP.upls uplG_mono (hG G0 (by simp))).sc) fun g2 o2 cs2 G5 hA hcl2 hcs2 hle2 => ?_
    subst hA
    obtain ⟨pv, rfl, hpv, hb1, hb2⟩ := hcs2
    simp only [go_sem, simprocAttr, List.map_cons]
    refine draw_ok (N := 3000) (.take 0 (.take 1 (.take 2 (.take 3 (.take 4 (.take 5 (.alt 6 (.take 7 (.take 8 (.take 9 (.take 10 .done)))) .last))))))) [] (QOk_body _ _ _) follows_mixed (by kernel_rfl) (by kernel_rfl) ?_
    simp only [go_sem, simprocAttr]
    refine anyc_ok (N := 3000) (call_does (fun v _ => v = .int .i64 (k : Int)) rfl rfl (by kernel_rfl) rfl (dk rfl) (fun G hG => by rw [← hk]; exact picked_does hG.wf hn (by omega) (by omega))) (QOk_body _ _ _) rfl (by first | exact .inl rfl | exact .inr ⟨_, _, rfl, rfl⟩) ?_
    rintro _ ⟨_, G1, rfl, hn1, rfl⟩
    clear hn1
    simp only [go_sem, simprocAttr]
    refine take_elem 1 (m := k) rfl tySlice25 tySize65 rfl rfl (dk rfl) rfl (by omega) ?_
    simp only [go_sem, simprocAttr, List.map_cons]
    refine fin_ret (G := G0) Try.results67 ?_
    simp only [go_sem, simprocAttr]
    intro aa w' _ _
    rfl
end Go.Proofs.Ytefmffpidhdjoaa
