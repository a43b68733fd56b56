/- 'icehousekeep.NextClass' returns true for all raw things. Conditions: none. -/
import Derived.Test.YtefmffpidhdjoaaV1
namespace Go.Proofs.Ytefmffpidhdjoaa
open Go.RowKit
open Nat (reduceAdd reduceSub reduceMul reduceEqDiff reduceLT reduceLeDiff)
set_option linter.unusedSimpArgs false
def askA (a : Ask) : Value := .agg #[.int .i64 a.ver, .int .i64 a.days, .int .i64 a.cls]
theorem ask_fields : (Try.prog.fieldsOf 46).toList.map (fun f => (f.type, f.offset, decide (f.name = "_"))) = [(3, 0, false), (3, 1, false), (3, 2, false)] := by kernel_rfl
theorem eqF_cons {P : Program} {w : World} (d : Nat) (xs ys : Array Value) (f : Field) (fs : List Field) {x y : Value} {b : Bool} (hn : f.name ≠ "_") (hx : ∀ w, (part f.type xs f.offset).run P w = .ok x w) (hy : ∀ w, (part f.type ys f.offset).run P w = .ok y w) (he : ∀ w, (Op.equalIn d f.type x y).run P w = .ok b w) :
    (Op.eqFields d xs ys (f :: fs)).run P w = if b then (Op.eqFields d xs ys fs).run P w else .ok false w := by
  simp only [Op.eqFields, Sem.run_bind, Sem.run_ite, if_pos hn, hx, hy, he, Result.andThen_ok]
  cases b <;> simp
theorem ask_eq_run (a b : Ask) (w : World) : (Op.equalIn 10000 46 (askA a) (askA b)).run Try.prog w = .ok ((a.ver == b.ver) && ((a.days == b.days) && (a.cls == b.cls))) w := by
  unfold askA
  rw [run_equalIn_agg w 9999 46 _ _ (by kernel_rfl) (by kernel_rfl)]
  have hi : ∀ (x y : Int) w, (Op.equalIn 9999 3 (.int .i64 x) (.int .i64 y)).run Try.prog w = .ok (x == y) w := fun x y w => run_equalIn_int w 9998 3 .i64 .i64 x y (by kernel_rfl)
  have hm := ask_fields
  generalize (Try.prog.fieldsOf 46).toList = L at hm ⊢
  obtain ⟨f0, f1, f2, rfl⟩ : ∃ f0 f1 f2, L = [f0, f1, f2] := by
    rcases L with _ | ⟨f0, _ | ⟨f1, _ | ⟨f2, _ | ⟨f3, L⟩⟩⟩⟩
    · cases hm
    · simp at hm
    · simp at hm
    · exact ⟨_, _, _, rfl⟩
    · simp at hm
  simp only [List.map_cons, List.map_nil, List.cons.injEq, Prod.mk.injEq, decide_eq_false_iff_not, and_true] at hm
  obtain ⟨⟨t0, o0, n0⟩, ⟨t1, o1, n1⟩, ⟨t2, o2, n2⟩⟩ := hm
  rw [eqF_cons 9999 _ _ f0 _ (x := .int .i64 a.ver) (y := .int .i64 b.ver) (b := a.ver == b.ver) n0 (fun w => by rw [t0, o0]; kernel_rfl) (fun w => by rw [t0, o0]; kernel_rfl) (fun w => by rw [t0]; exact hi _ _ w)]
  rw [eqF_cons 9999 _ _ f1 _ (x := .int .i64 a.days) (y := .int .i64 b.days) (b := a.days == b.days) n1 (fun w => by rw [t1, o1]; kernel_rfl) (fun w => by rw [t1, o1]; kernel_rfl) (fun w => by rw [t1]; exact hi _ _ w)]
  rw [eqF_cons 9999 _ _ f2 _ (x := .int .i64 a.cls) (y := .int .i64 b.cls) (b := a.cls == b.cls) n2 (fun w => by rw [t2, o2]; kernel_rfl) (fun w => by rw [t2, o2]; kernel_rfl) (fun w => by rw [t2]; exact hi _ _ w)]
  cases a.ver == b.ver <;> cases a.days == b.days <;> cases a.cls == b.cls <;> simp [Op.eqFields]
section
variable {P : Program} {E : Env} {σ : St} {o : Oper}
theorem cmpop_does {bo : BinOp} {ty t2 : TypeId} {x y : Operand} {vx vy : SV} {r : Bool} (ho : o.op = .binOp bo ty x y t2) (hx : ev σ x = some vx) (hy : ev σ y = some vy)
    (hg : ∀ w, (eqGuard bo ty x y vx.den vy.den).run P w = .ok () w) (hb : ∀ w, (binOp bo ty vx.den vy.den).run P w = .ok (.bool r) w) (hd : dOk E o.dst) :
    Does P E σ o (fun σ' => σ' = σ.put o.dst (.c (.v (.bool r)))) := by
  intro ac w Q next hr hn
  have hx' : ac.eval x = vx.den := ev_den hr.see hx
  have hy' : ac.eval y = vy.den := ev_den hr.see hy
  have hrun : (execOp ac.eval o).run P w = .ok (.value (.bool r)) w := by
    unfold execOp
    simp only [ho, hx', hy', hg, hb, Sem.run_bind, Sem.run_pure, Result.andThen_ok]
  exact wp_of_value hrun (hn _ _ _ rfl (hr.put o.dst (.c (.v _)) (dOk_lt hd)))
theorem wgX_do {rec_ : Cmd → St → Prop} {k : Cont} {ops : Array Oper} {rest : List Oper} {ctx : List Bool} {z : Option (Prop × SC)} (hz : z = none) (hs : stepO P o σ = .no) (hc : ctx.all id = true) (h : Ok E σ (wpList P ops (k.den P) (o :: rest))) : WgX P E rec_ k ops rest o σ ctx z := by
  rw [hz]
  refine ⟨fun _ => ?_, fun q => by rw [hc] at q; cases q⟩
  rw [hs]
  exact h
end
def askSame (a b : Ask) : Bool := (a.ver == b.ver) && ((a.days == b.days) && (a.cls == b.cls))
theorem ask_eql (a b : Ask) (w : World) : (binOp .eql 46 (askA a) (askA b)).run Try.prog w = .ok (.bool (askSame a b)) w := by
  rw [show askA a = .agg #[.int .i64 a.ver, .int .i64 a.days, .int .i64 a.cls] from rfl, show askA b = .agg #[.int .i64 b.ver, .int .i64 b.days, .int .i64 b.cls] from rfl, run_eql_struct]
  rw [show (Op.equalIn 10000 46 (.agg #[.int .i64 a.ver, .int .i64 a.days, .int .i64 a.cls]) (.agg #[.int .i64 b.ver, .int .i64 b.days, .int .i64 b.cls])).run Try.prog w = _ from ask_eq_run a b w]
  rfl
theorem ask_neq (a b : Ask) (w : World) : (binOp .neq 46 (askA a) (askA b)).run Try.prog w = .ok (.bool (!askSame a b)) w := by
  rw [show askA a = .agg #[.int .i64 a.ver, .int .i64 a.days, .int .i64 a.cls] from rfl, show askA b = .agg #[.int .i64 b.ver, .int .i64 b.days, .int .i64 b.cls] from rfl, run_neq_struct]
  rw [show (Op.equalIn 10000 46 (.agg #[.int .i64 a.ver, .int .i64 a.days, .int .i64 a.cls]) (.agg #[.int .i64 b.ver, .int .i64 b.days, .int .i64 b.cls])).run Try.prog w = _ from ask_eq_run a b w]
  rfl
theorem ask_guard (bo : BinOp) (x y : Operand) (a b : Ask) (w : World) : (eqGuard bo 46 x y (askA a) (askA b)).run Try.prog w = .ok () w := run_eqGuard_agg w bo _ x y _ _ (by kernel_rfl)
theorem askSame_self (a : Ask) : askSame a a = true := by simp [askSame]
theorem askSame_cls {a b : Ask} (h : a.cls ≠ b.cls) : askSame a b = false := by
  unfold askSame
  rw [beq_eq_false_iff_ne.2 h]
  simp
/-- the first of the least class of the first n -/
def MinAt (l : List Ask) (n k : Nat) (a : Ask) : Prop := k < n ∧ l[k]? = some a ∧ (∀ (i : Nat) x, i < k → l[i]? = some x → a.cls < x.cls) ∧ ∀ (i : Nat) x, i < n → l[i]? = some x → a.cls ≤ x.cls
theorem minAt_one {l : List Ask} {x : Ask} (h : l[0]? = some x) : MinAt l 1 0 x := ⟨by omega, h, fun i y hi => absurd hi (by omega), fun i y hi hy => by
  obtain rfl : i = 0 := by omega
  rw [h] at hy
  cases hy
  exact Int.le_refl _⟩
theorem minAt_new {l : List Ask} {n k : Nat} {a x : Ask} (h : MinAt l n k a) (hx : l[n]? = some x) (hc : x.cls < a.cls) : MinAt l (n + 1) n x := by
  refine ⟨by omega, hx, fun i y hi hy => ?_, fun i y hi hy => ?_⟩
  · have := h.2.2.2 i y hi hy
    omega
  · by_cases e : i = n
    · subst e
      rw [hx] at hy
      cases hy
      exact Int.le_refl _
    · have := h.2.2.2 i y (by omega) hy
      omega
theorem minAt_old {l : List Ask} {n k : Nat} {a x : Ask} (h : MinAt l n k a) (hx : l[n]? = some x) (hc : a.cls ≤ x.cls) : MinAt l (n + 1) k a := by
  obtain ⟨h1, h2, h3, h4⟩ := h
  refine ⟨by omega, h2, h3, fun i y hi hy => ?_⟩
  by_cases e : i = n
  · subst e
    rw [hx] at hy
    cases hy
    exact hc
  · exact h4 i y (by omega) hy
theorem cmpI_neg (a b : Int) : decide (cmpI a b < 0) = decide (a < b) := by
  unfold cmpI
  by_cases h : a < b
  · rw [if_pos h, decide_eq_true h]; rfl
  · rw [if_neg h, decide_eq_false h]
    by_cases h2 : b < a
    · rw [if_pos h2]; rfl
    · rw [if_neg h2]; rfl
set_option maxRecDepth 100000 in
set_option maxHeartbeats 8000000 in
theorem nextCmp_does {a b : Ask} {G0 : GW} (hW : G0.Wf) : Calls Try.prog 77 #[.agg #[.int .i64 a.ver, .int .i64 a.days, .int .i64 a.cls], .agg #[.int .i64 b.ver, .int .i64 b.days, .int .i64 b.cls]] G0.w (Ret G0 fun v _ => v = .int .i64 (cmpI a.cls b.cls)) := by
  refine enterS (G := G0) (n := 10) 3000 hW Try.func77 rfl Try.ntmps77 (by simp) ?_
  simp only [go_sem, reduceAdd, reduceSub, reduceMul, reduceEqDiff, reduceLT, reduceLeDiff, Nat.reduceBEq, Nat.reduceBNe, Int.reduceLT, Int.reduceLE, Int.reduceEq, Int.reduceAdd, Int.reduceSub, Int.reduceNeg, reduceCtorEq]
  intro g1 g2
  refine plain_ok (N := 3000) (call_does (fun v _ => v = .int .i64 (cmpI a.cls b.cls)) rfl rfl (by kernel_rfl) rfl (dk rfl) (fun G hG => cmpInt_does hG.wf)) (QOk_body _ _ _) (by first | exact .inl rfl | exact .inr ⟨_, _, rfl, rfl⟩) ?_
  rintro _ ⟨_, G1, rfl, hn1, rfl⟩
  clear hn1
  simp only [go_sem, reduceAdd, reduceSub, reduceMul, reduceEqDiff, reduceLT, reduceLeDiff, Nat.reduceBEq, Nat.reduceBNe, Int.reduceLT, Int.reduceLE, Int.reduceEq, Int.reduceAdd, Int.reduceSub, Int.reduceNeg, reduceCtorEq]
  refine fin_ret (G := G0) Try.results77 ?_
  simp only [go_sem, reduceAdd, reduceSub, reduceMul, reduceEqDiff, reduceLT, reduceLeDiff, Nat.reduceBEq, Nat.reduceBNe, Int.reduceLT, Int.reduceLE, Int.reduceEq, Int.reduceAdd, Int.reduceSub, Int.reduceNeg, reduceCtorEq]
  intro aa w' _ _
  rfl
set_option maxRecDepth 100000 in
set_option maxHeartbeats 8000000 in
theorem minAsk_does {l : List Ask} {lv : Value} {G0 : GW} (hW : G0.Wf) (h : AsksG G0 lv l) (h0 : 0 < l.length) (hn : l.length ≤ 1000000) :
    Calls Try.prog 76 #[lv, .func (.func 77) #[] #[]] G0.w (Ret G0 fun v _ => ∃ k a, MinAt l l.length k a ∧ v = .agg #[.int .i64 a.ver, .int .i64 a.days, .int .i64 a.cls]) := by
  obtain ⟨A, c, rfl, hc1, hc2⟩ := Sq.form h
  have hml := max_le
  obtain ⟨x0, hx0⟩ : ∃ x, l[0]? = some x := ⟨_, List.getElem?_eq_getElem h0⟩
  have q0 : decide ((l.length : Int) < 1) = false := decide_eq_false (by omega)
  refine enterS (G := G0) (n := 33) 3000 hW Try.func76 rfl Try.ntmps76 (by simp) ?_
  simp only [go_sem, reduceAdd, reduceSub, reduceMul, reduceEqDiff, reduceLT, reduceLeDiff, Nat.reduceBEq, Nat.reduceBNe, Int.reduceLT, Int.reduceLE, Int.reduceEq, Int.reduceAdd, Int.reduceSub, Int.reduceNeg, reduceCtorEq]
  intro g1
  simp only [go_sem, reduceAdd, reduceSub, reduceMul, reduceEqDiff, reduceLT, reduceLeDiff, Nat.reduceBEq, Nat.reduceBNe, Int.reduceLT, Int.reduceLE, Int.reduceEq, Int.reduceAdd, Int.reduceSub, Int.reduceNeg, reduceCtorEq, q0]
  refine plain_ok (N := 3000) (elem_does (R := AskG) (l := l) (m := 0) rfl tySlice26 tySize46 rfl rfl (dk rfl) rfl hx0 (fun G hG => Sq.mono h askG_mono (hG.le G0 (by simp)))) (QOk_body _ _ _) (by first | exact .inl rfl | exact .inr ⟨_, _, rfl, rfl⟩) ?_
  rintro _ ⟨g2, o', cs, G2, hcl, hcs, rfl⟩
  obtain rfl := hcs
  simp only [go_sem, reduceAdd, reduceSub, reduceMul, reduceEqDiff, reduceLT, reduceLeDiff, Nat.reduceBEq, Nat.reduceBNe, Int.reduceLT, Int.reduceLE, Int.reduceEq, Int.reduceAdd, Int.reduceSub, Int.reduceNeg, reduceCtorEq]
  intro g3
  refine loop_ok (N := 3000) (ι := Nat × Nat × Ask) (fun i => match i with | (i, k, a) => ⟨[(0, .c (.v (.slice A l.length c))), (1, .c (.v (.func (.func 77) #[] #[]))), (4, .c (.p 0 g1 0)), (5, .c (.p 2 g3 0)), (6, .c (.v (.int .i64 (i : Int))))],
      [⟨2, g3, 46, [.v (.int .i64 a.ver), .v (.int .i64 a.days), .v (.int .i64 a.cls)]⟩, ⟨0, g1, 46, [.v (.int .i64 0), .v (.int .i64 0), .v (.int .i64 0)]⟩], [], [], [G0], 3⟩)
    (fun i => match i with | (i, k, a) => 1 ≤ i ∧ i ≤ l.length ∧ MinAt l i k a)
    (fun i => l.length - i.1) (QOk_body _ _ _) (1, 0, x0) ⟨by omega, by omega, minAt_one hx0⟩ (by simp only [go_sem, reduceAdd, reduceSub, reduceMul, reduceEqDiff, reduceLT, reduceLeDiff, Nat.reduceBEq, Nat.reduceBNe, Int.reduceLT, Int.reduceLE, Int.reduceEq, Int.reduceAdd, Int.reduceSub, Int.reduceNeg, reduceCtorEq]; simp) ?_
  rintro ⟨i, k, a⟩ ⟨hi1, hi, hm⟩
  simp only
  by_cases hlt : i < l.length
  · have q : decide ((i : Int) < (l.length : Int)) = true := decide_eq_true (by omega)
    obtain ⟨x, hx⟩ : ∃ x, l[i]? = some x := ⟨_, List.getElem?_eq_getElem hlt⟩
    simp only [go_sem, reduceAdd, reduceSub, reduceMul, reduceEqDiff, reduceLT, reduceLeDiff, Nat.reduceBEq, Nat.reduceBNe, Int.reduceLT, Int.reduceLE, Int.reduceEq, Int.reduceAdd, Int.reduceSub, Int.reduceNeg, reduceCtorEq, q]
    refine draw_ok (N := 3000) (.take 0 (.take 1 (.take 2 (.take 5 (.alt 3 (.alt 4 (.alt 6 (.take 7 .done) .last) .last) .last))))) [] (QOk_body _ _ _) follows_mixed (by kernel_rfl) (by kernel_rfl) ?_
    simp only [go_sem, reduceAdd, reduceSub, reduceMul, reduceEqDiff, reduceLT, reduceLeDiff, Nat.reduceBEq, Nat.reduceBNe, Int.reduceLT, Int.reduceLE, Int.reduceEq, Int.reduceAdd, Int.reduceSub, Int.reduceNeg, reduceCtorEq]
    refine any_ok2 (N := 3000) (elem_does (R := AskG) (l := l) (m := i) rfl tySlice26 tySize46 rfl rfl (dk rfl) rfl hx (fun G hG => Sq.mono h askG_mono (hG.le G0 (by simp)))) (QOk_body _ _ _) rfl (by first | exact .inl rfl | exact .inr ⟨_, _, rfl, rfl⟩) (by intro _ hK; first | (obtain ⟨_, _, _, _, rfl⟩ := hK; exact ⟨rfl, fun _ h => h⟩) | (obtain ⟨_, _, rfl⟩ := hK; exact ⟨rfl, fun _ h => h⟩) | (obtain ⟨_, _, _, _, _, _, rfl⟩ := hK; exact ⟨rfl, fun _ h => List.mem_cons_of_mem _ h⟩) | (obtain ⟨_, _, _, _, _, _, _, rfl⟩ := hK; exact ⟨rfl, fun _ h => List.mem_cons_of_mem _ h⟩) | (obtain rfl := hK; exact ⟨rfl, fun _ h => h⟩)) ?_
    rintro _ ⟨g4, o4, cs, G4, hcl4, hcs, rfl⟩
    obtain rfl := hcs
    simp only [go_sem, reduceAdd, reduceSub, reduceMul, reduceEqDiff, reduceLT, reduceLeDiff, Nat.reduceBEq, Nat.reduceBNe, Int.reduceLT, Int.reduceLE, Int.reduceEq, Int.reduceAdd, Int.reduceSub, Int.reduceNeg, reduceCtorEq]
    refine anyc_ok (N := 3000) (callD_does (fun v _ => v = .int .i64 (cmpI x.cls a.cls)) rfl rfl rfl rfl (by kernel_rfl) rfl (dk rfl) (fun G hG => nextCmp_does hG.wf)) (QOk_body _ _ _) rfl (by first | exact .inl rfl | exact .inr ⟨_, _, rfl, rfl⟩) ?_
    rintro _ ⟨_, G5, rfl, hn5, rfl⟩
    clear hn5
    simp only [go_sem, reduceAdd, reduceSub, reduceMul, reduceEqDiff, reduceLT, reduceLeDiff, Nat.reduceBEq, Nat.reduceBNe, Int.reduceLT, Int.reduceLE, Int.reduceEq, Int.reduceAdd, Int.reduceSub, Int.reduceNeg, reduceCtorEq, cmpI_neg]
    refine Wb_mk (fun hc => ?_) (fun hc => ?_)
    · have hc' := of_decide_eq_true hc
      refine plain_ok (N := 3000) (elem_does (R := AskG) (l := l) (m := i) rfl tySlice26 tySize46 rfl rfl (dk rfl) rfl hx (fun G hG => Sq.mono h askG_mono (hG.le G0 (by simp)))) (QOk_body _ _ _) (by first | exact .inl rfl | exact .inr ⟨_, _, rfl, rfl⟩) ?_
      rintro _ ⟨g6, o6, cs, G6, hcl6, hcs, rfl⟩
      obtain rfl := hcs
      simp only [go_sem, reduceAdd, reduceSub, reduceMul, reduceEqDiff, reduceLT, reduceLeDiff, Nat.reduceBEq, Nat.reduceBNe, Int.reduceLT, Int.reduceLE, Int.reduceEq, Int.reduceAdd, Int.reduceSub, Int.reduceNeg, reduceCtorEq]
      refine ⟨by omega, ?_⟩
      refine again_ok (i + 1, i, x) ⟨by omega, hlt, minAt_new hm hx hc'⟩ (by show l.length - (i + 1) < l.length - i; omega) (by simp only [go_sem, reduceAdd, reduceSub, reduceMul, reduceEqDiff, reduceLT, reduceLeDiff, Nat.reduceBEq, Nat.reduceBNe, Int.reduceLT, Int.reduceLE, Int.reduceEq, Int.reduceAdd, Int.reduceSub, Int.reduceNeg, reduceCtorEq]; simp)
    · have hc' := of_decide_eq_false hc
      refine ⟨by omega, ?_⟩
      refine again_ok (i + 1, k, a) ⟨by omega, hlt, minAt_old hm hx (show a.cls ≤ x.cls by omega)⟩ (by show l.length - (i + 1) < l.length - i; omega) (by simp only [go_sem, reduceAdd, reduceSub, reduceMul, reduceEqDiff, reduceLT, reduceLeDiff, Nat.reduceBEq, Nat.reduceBNe, Int.reduceLT, Int.reduceLE, Int.reduceEq, Int.reduceAdd, Int.reduceSub, Int.reduceNeg, reduceCtorEq]; simp)
  have hil : i = l.length := by omega
  subst hil
  have q : decide ((l.length : Int) < (l.length : Int)) = false := decide_eq_false (by omega)
  simp only [go_sem, reduceAdd, reduceSub, reduceMul, reduceEqDiff, reduceLT, reduceLeDiff, Nat.reduceBEq, Nat.reduceBNe, Int.reduceLT, Int.reduceLE, Int.reduceEq, Int.reduceAdd, Int.reduceSub, Int.reduceNeg, reduceCtorEq, q]
  refine fin_ret (G := G0) Try.results76 ?_
  simp only [go_sem, reduceAdd, reduceSub, reduceMul, reduceEqDiff, reduceLT, reduceLeDiff, Nat.reduceBEq, Nat.reduceBNe, Int.reduceLT, Int.reduceLE, Int.reduceEq, Int.reduceAdd, Int.reduceSub, Int.reduceNeg, reduceCtorEq]
  intro aa w' _ _
  exact ⟨_, _, hm, rfl⟩
def NextP (s : Sta) (a : Ask) (e : Int) : Prop := (s.queue.length = 0 ∧ e = 14) ∨ (0 < s.queue.length ∧ e = 0 ∧ ∃ k, MinAt s.queue s.queue.length k a)
set_option maxRecDepth 100000 in
set_option maxHeartbeats 8000000 in
theorem next_does {s : Sta} {sv : Value} {G0 : GW} (hW : G0.Wf) (hs : StaG G0 sv s) (hok : okSt s = true) :
    Calls Try.prog 35 #[sv] G0.w (Ret G0 fun v _ => ∃ a e, v = .tuple #[.agg #[.int .i64 a.ver, .int .i64 a.days, .int .i64 a.cls], .int .i64 e] ∧ NextP s a e) := by
  obtain ⟨A1, c1, A2, c2, A3, c3, A4, c4, A5, c5, rfl, hP⟩ := hs.form
  have hml := max_le
  have b4 := (okSt_iff.1 hok).queue_len
  refine enterS (G := G0) (n := 19) 3000 hW Try.func35 rfl Try.ntmps35 (by simp) ?_
  simp only [go_sem, reduceAdd, reduceSub, reduceMul, reduceEqDiff, reduceLT, reduceLeDiff, Nat.reduceBEq, Nat.reduceBNe, Int.reduceLT, Int.reduceLE, Int.reduceEq, Int.reduceAdd, Int.reduceSub, Int.reduceNeg, reduceCtorEq]
  intro g1 g2
  refine plain_ok (N := 3000) (call_does (fun v _ => v = .int .i64 0) rfl rfl (by kernel_rfl) rfl (dk rfl) (fun G hG => by rw [← errSt_ok hok]; exact check_does hG.wf (hP.mono (hG.le G0 (by simp))).g)) (QOk_body _ _ _) (by first | exact .inl rfl | exact .inr ⟨_, _, rfl, rfl⟩) ?_
  rintro _ ⟨_, G1, rfl, hn1, rfl⟩
  clear hn1
  by_cases h0 : s.queue.length = 0
  · have q : decide ((s.queue.length : Int) = 0) = true := decide_eq_true (by omega)
    simp only [go_sem, reduceAdd, reduceSub, reduceMul, reduceEqDiff, reduceLT, reduceLeDiff, Nat.reduceBEq, Nat.reduceBNe, Int.reduceLT, Int.reduceLE, Int.reduceEq, Int.reduceAdd, Int.reduceSub, Int.reduceNeg, reduceCtorEq, q]
    refine fin_ret (G := G0) Try.results35 ?_
    simp only [go_sem, reduceAdd, reduceSub, reduceMul, reduceEqDiff, reduceLT, reduceLeDiff, Nat.reduceBEq, Nat.reduceBNe, Int.reduceLT, Int.reduceLE, Int.reduceEq, Int.reduceAdd, Int.reduceSub, Int.reduceNeg, reduceCtorEq]
    intro aa w' _ _
    exact ⟨⟨0, 0, 0⟩, 14, rfl, .inl ⟨h0, rfl⟩⟩
  · have q : decide ((s.queue.length : Int) = 0) = false := decide_eq_false (by omega)
    simp only [go_sem, reduceAdd, reduceSub, reduceMul, reduceEqDiff, reduceLT, reduceLeDiff, Nat.reduceBEq, Nat.reduceBNe, Int.reduceLT, Int.reduceLE, Int.reduceEq, Int.reduceAdd, Int.reduceSub, Int.reduceNeg, reduceCtorEq, q]
    refine plain_ok (N := 3000) (call_does (fun v _ => ∃ k a, MinAt s.queue s.queue.length k a ∧ v = .agg #[.int .i64 a.ver, .int .i64 a.days, .int .i64 a.cls]) rfl rfl (by kernel_rfl) rfl (dk rfl) (fun G hG => minAsk_does hG.wf (Sq.mono hP.queue askG_mono (hG.le G0 (by simp))) (by omega) (by omega))) (QOk_body _ _ _) (by first | exact .inl rfl | exact .inr ⟨_, _, rfl, rfl⟩) ?_
    rintro _ ⟨_, G2, ⟨k, a, hm, rfl⟩, hn2, rfl⟩
    clear hn2
    simp only [go_sem, reduceAdd, reduceSub, reduceMul, reduceEqDiff, reduceLT, reduceLeDiff, Nat.reduceBEq, Nat.reduceBNe, Int.reduceLT, Int.reduceLE, Int.reduceEq, Int.reduceAdd, Int.reduceSub, Int.reduceNeg, reduceCtorEq]
    refine fin_ret (G := G0) Try.results35 ?_
    simp only [go_sem, reduceAdd, reduceSub, reduceMul, reduceEqDiff, reduceLT, reduceLeDiff, Nat.reduceBEq, Nat.reduceBNe, Int.reduceLT, Int.reduceLE, Int.reduceEq, Int.reduceAdd, Int.reduceSub, Int.reduceNeg, reduceCtorEq]
    intro aa w' _ _
    exact ⟨a, 0, rfl, .inr ⟨by omega, rfl, k, hm⟩⟩
set_option maxRecDepth 100000 in
set_option maxHeartbeats 8000000 in
theorem nextClass_ret {w : World} (v0 : Value) (l0 : List Raw) (h0 : RawsG ⟨Non, w⟩ v0 l0) :
    Calls Try.prog 15 #[v0] w (Ret ⟨Non, w⟩ fun v _ => v = .bool true) := by
  have hml := max_le
  have hok := stateS_ok l0 40
  obtain ⟨A0, c0, rfl, _, _⟩ := ScR.form h0
  refine enterS (G := ⟨Non, w⟩) (n := 71) 3000 (wf_nonL w) Try.func15 rfl Try.ntmps15 (by simp) ?_
  simp only [go_sem, reduceAdd, reduceSub, reduceMul, reduceEqDiff, reduceLT, reduceLeDiff, Nat.reduceBEq, Nat.reduceBNe, Int.reduceLT, Int.reduceLE, Int.reduceEq, Int.reduceAdd, Int.reduceSub, Int.reduceNeg, reduceCtorEq]
  refine plain_ok (N := 3000) (call_does (fun v G => ∃ sv ov, v = .tuple #[sv, ov] ∧ StaG G sv (stateS l0 40).1 ∧ RecsG G ov (stateS l0 40).2) rfl rfl (by kernel_rfl) rfl (dk rfl) (fun G hG => state_does (most := 40) hG.wf (ScR.mono h0 rawG_mono (hG.le ⟨Non, w⟩ (by simp))) (by omega))) (QOk_body _ _ _) (by first | exact .inl rfl | exact .inr ⟨_, _, rfl, rfl⟩) ?_
  rintro _ ⟨_, G1, ⟨sv, ov, rfl, hs, ho⟩, hn1, rfl⟩
  clear hn1
  obtain ⟨A1, c1, A2, c2, A3, c3, A4, c4, A5, c5, rfl, hP⟩ := hs.form
  obtain ⟨Ao, co, rfl, _⟩ := Sq.form ho
  obtain ⟨s, hsd⟩ : ∃ s, s = (stateS l0 40).1 := ⟨_, rfl⟩
  obtain ⟨rs, hrd⟩ : ∃ rs, rs = (stateS l0 40).2 := ⟨_, rfl⟩
  rw [← hsd] at hok hP hs ⊢
  rw [← hrd] at ho ⊢
  clear hsd hrd
  have b4 := (okSt_iff.1 hok).queue_len
  simp only [go_sem, reduceAdd, reduceSub, reduceMul, reduceEqDiff, reduceLT, reduceLeDiff, Nat.reduceBEq, Nat.reduceBNe, Int.reduceLT, Int.reduceLE, Int.reduceEq, Int.reduceAdd, Int.reduceSub, Int.reduceNeg, reduceCtorEq]
  intro g1
  refine plain_ok (N := 3000) (call_does (fun y G => ∃ (a : Ask) (e : Int), y = .tuple #[.agg #[.int .i64 a.ver, .int .i64 a.days, .int .i64 a.cls], .int .i64 e] ∧ NextP s a e) rfl rfl (by kernel_rfl) rfl (dk rfl) (fun G hG => next_does hG.wf (hP.mono (hG.le G1 (by simp))).g hok)) (QOk_body _ _ _) (by first | exact .inl rfl | exact .inr ⟨_, _, rfl, rfl⟩) ?_
  rintro _ ⟨_, G2, ⟨a, e, rfl, hN⟩, hn2, rfl⟩
  clear hn2
  simp only [go_sem, reduceAdd, reduceSub, reduceMul, reduceEqDiff, reduceLT, reduceLeDiff, Nat.reduceBEq, Nat.reduceBNe, Int.reduceLT, Int.reduceLE, Int.reduceEq, Int.reduceAdd, Int.reduceSub, Int.reduceNeg, reduceCtorEq]
  intro g2
  rcases hN with ⟨hz, rfl⟩ | ⟨hz, rfl, k, hk1, hk2, hk3, hk4⟩
  · have q : decide ((s.queue.length : Int) = 0) = true := decide_eq_true (by omega)
    simp only [go_sem, reduceAdd, reduceSub, reduceMul, reduceEqDiff, reduceLT, reduceLeDiff, Nat.reduceBEq, Nat.reduceBNe, Int.reduceLT, Int.reduceLE, Int.reduceEq, Int.reduceAdd, Int.reduceSub, Int.reduceNeg, reduceCtorEq, q]
    refine plain_ok (N := 3000) (call_does (fun v _ => v = .int .i64 0) rfl rfl (by kernel_rfl) rfl (dk rfl) (fun G hG => by rw [← errSt_ok hok]; exact check_does hG.wf (hP.mono (hG.le G1 (by simp))).g)) (QOk_body _ _ _) (by first | exact .inl rfl | exact .inr ⟨_, _, rfl, rfl⟩) ?_
    rintro _ ⟨_, G4, rfl, hn4, rfl⟩
    clear hn4
    simp only [go_sem, reduceAdd, reduceSub, reduceMul, reduceEqDiff, reduceLT, reduceLeDiff, Nat.reduceBEq, Nat.reduceBNe, Int.reduceLT, Int.reduceLE, Int.reduceEq, Int.reduceAdd, Int.reduceSub, Int.reduceNeg, reduceCtorEq]
    refine fin_ret (G := ⟨Non, w⟩) Try.results15 ?_
    simp only [go_sem, reduceAdd, reduceSub, reduceMul, reduceEqDiff, reduceLT, reduceLeDiff, Nat.reduceBEq, Nat.reduceBNe, Int.reduceLT, Int.reduceLE, Int.reduceEq, Int.reduceAdd, Int.reduceSub, Int.reduceNeg, reduceCtorEq]
    intro aa w' _ hle
    rfl
  have q : decide ((s.queue.length : Int) = 0) = false := decide_eq_false (by omega)
  simp only [go_sem, reduceAdd, reduceSub, reduceMul, reduceEqDiff, reduceLT, reduceLeDiff, Nat.reduceBEq, Nat.reduceBNe, Int.reduceLT, Int.reduceLE, Int.reduceEq, Int.reduceAdd, Int.reduceSub, Int.reduceNeg, reduceCtorEq, q]
  refine loop_ok (N := 3000) (ι := Nat) (fun i => ⟨[(5, .c (.p 1 g2 0)), (6, .c (.v (.int .i64 0))), (7, .c (.v (.bool (decide (k < i))))), (32, .c (.v (.slice A4 s.queue.length c4))), (33, .c (.v (.int .i64 (s.queue.length : Int)))), (34, .c (.v (.int .i64 (i : Int))))],
      [⟨1, g2, 46, [.v (.int .i64 a.ver), .v (.int .i64 a.days), .v (.int .i64 a.cls)]⟩], [], [], [G1, ⟨Non, w⟩], 2⟩)
    (fun i => i ≤ s.queue.length)
    (fun i => s.queue.length - i) (QOk_body _ _ _) 0 (by omega) (by simp only [go_sem, reduceAdd, reduceSub, reduceMul, reduceEqDiff, reduceLT, reduceLeDiff, Nat.reduceBEq, Nat.reduceBNe, Int.reduceLT, Int.reduceLE, Int.reduceEq, Int.reduceAdd, Int.reduceSub, Int.reduceNeg, reduceCtorEq]; simp) ?_
  rintro i hi
  by_cases hlt : i < s.queue.length
  · have q : decide ((i : Int) < (s.queue.length : Int)) = true := decide_eq_true (by omega)
    obtain ⟨x, hx⟩ : ∃ x, s.queue[i]? = some x := ⟨_, List.getElem?_eq_getElem hlt⟩
    have hle := hk4 i x hlt hx
    have q1 : decide (x.cls < a.cls) = false := decide_eq_false (by omega)
    simp only [go_sem, reduceAdd, reduceSub, reduceMul, reduceEqDiff, reduceLT, reduceLeDiff, Nat.reduceBEq, Nat.reduceBNe, Int.reduceLT, Int.reduceLE, Int.reduceEq, Int.reduceAdd, Int.reduceSub, Int.reduceNeg, reduceCtorEq, q]
    refine plain_ok (N := 3000) (elem_does (R := AskG) (l := s.queue) (m := i) rfl tySlice26 tySize46 rfl rfl (dk rfl) rfl hx (fun G hG => Sq.mono hP.queue askG_mono (hG.le G1 (by simp)))) (QOk_body _ _ _) (by first | exact .inl rfl | exact .inr ⟨_, _, rfl, rfl⟩) ?_
    rintro _ ⟨g4, o', cs, G5, hcl, hcs, rfl⟩
    obtain rfl := hcs
    simp only [go_sem, reduceAdd, reduceSub, reduceMul, reduceEqDiff, reduceLT, reduceLeDiff, Nat.reduceBEq, Nat.reduceBNe, Int.reduceLT, Int.reduceLE, Int.reduceEq, Int.reduceAdd, Int.reduceSub, Int.reduceNeg, reduceCtorEq]
    intro g5
    rcases Nat.lt_trichotomy i k with hik | hik | hik
    · have hgt := hk3 i x hik hx
      have q2 : decide (x.cls = a.cls) = false := decide_eq_false (by omega)
      have q3 : decide (k < i) = false := decide_eq_false (by omega)
      have q4 : decide (k < i + 1) = false := decide_eq_false (by omega)
      rw [q3]
      simp only [go_sem, reduceAdd, reduceSub, reduceMul, reduceEqDiff, reduceLT, reduceLeDiff, Nat.reduceBEq, Nat.reduceBNe, Int.reduceLT, Int.reduceLE, Int.reduceEq, Int.reduceAdd, Int.reduceSub, Int.reduceNeg, reduceCtorEq, q1, q2]
      refine wgX_do rfl rfl rfl ?_
      refine plain_ok (N := 3000) (cmpop_does (vx := .a [.v (.int .i64 x.ver), .v (.int .i64 x.days), .v (.int .i64 x.cls)]) (vy := .a [.v (.int .i64 a.ver), .v (.int .i64 a.days), .v (.int .i64 a.cls)]) (r := askSame x a) rfl rfl rfl (fun w => ask_guard .eql _ _ x a w) (fun w => ask_eql x a w) (dk rfl)) (QOk_body _ _ _) (by first | exact .inl rfl | exact .inr ⟨_, _, rfl, rfl⟩) ?_
      rintro _ rfl
      rw [askSame_cls (by omega)]
      simp only [go_sem, reduceAdd, reduceSub, reduceMul, reduceEqDiff, reduceLT, reduceLeDiff, Nat.reduceBEq, Nat.reduceBNe, Int.reduceLT, Int.reduceLE, Int.reduceEq, Int.reduceAdd, Int.reduceSub, Int.reduceNeg, reduceCtorEq]
      refine ⟨by omega, ?_⟩
      refine again_ok (i + 1) hlt (by omega) (by rw [q4]; simp only [go_sem, reduceAdd, reduceSub, reduceMul, reduceEqDiff, reduceLT, reduceLeDiff, Nat.reduceBEq, Nat.reduceBNe, Int.reduceLT, Int.reduceLE, Int.reduceEq, Int.reduceAdd, Int.reduceSub, Int.reduceNeg, reduceCtorEq]; simp)
    · subst hik
      rw [hk2] at hx
      cases hx
      have q2 : decide (a.cls = a.cls) = true := decide_eq_true rfl
      have q3 : decide (i < i) = false := decide_eq_false (by omega)
      have q4 : decide (i < i + 1) = true := decide_eq_true (by omega)
      rw [q3]
      simp only [go_sem, reduceAdd, reduceSub, reduceMul, reduceEqDiff, reduceLT, reduceLeDiff, Nat.reduceBEq, Nat.reduceBNe, Int.reduceLT, Int.reduceLE, Int.reduceEq, Int.reduceAdd, Int.reduceSub, Int.reduceNeg, reduceCtorEq, q1, q2]
      refine wgX_do rfl rfl rfl ?_
      refine plain_ok (N := 3000) (cmpop_does (vx := .a [.v (.int .i64 a.ver), .v (.int .i64 a.days), .v (.int .i64 a.cls)]) (vy := .a [.v (.int .i64 a.ver), .v (.int .i64 a.days), .v (.int .i64 a.cls)]) (r := !askSame a a) rfl rfl rfl (fun w => ask_guard .neq _ _ a a w) (fun w => ask_neq a a w) (dk rfl)) (QOk_body _ _ _) (by first | exact .inl rfl | exact .inr ⟨_, _, rfl, rfl⟩) ?_
      rintro _ rfl
      rw [askSame_self]
      simp only [go_sem, reduceAdd, reduceSub, reduceMul, reduceEqDiff, reduceLT, reduceLeDiff, Nat.reduceBEq, Nat.reduceBNe, Int.reduceLT, Int.reduceLE, Int.reduceEq, Int.reduceAdd, Int.reduceSub, Int.reduceNeg, reduceCtorEq]
      refine wgX_do rfl rfl rfl ?_
      refine plain_ok (N := 3000) (cmpop_does (vx := .a [.v (.int .i64 a.ver), .v (.int .i64 a.days), .v (.int .i64 a.cls)]) (vy := .a [.v (.int .i64 a.ver), .v (.int .i64 a.days), .v (.int .i64 a.cls)]) (r := askSame a a) rfl rfl rfl (fun w => ask_guard .eql _ _ a a w) (fun w => ask_eql a a w) (dk rfl)) (QOk_body _ _ _) (by first | exact .inl rfl | exact .inr ⟨_, _, rfl, rfl⟩) ?_
      rintro _ rfl
      rw [askSame_self]
      simp only [go_sem, reduceAdd, reduceSub, reduceMul, reduceEqDiff, reduceLT, reduceLeDiff, Nat.reduceBEq, Nat.reduceBNe, Int.reduceLT, Int.reduceLE, Int.reduceEq, Int.reduceAdd, Int.reduceSub, Int.reduceNeg, reduceCtorEq]
      refine ⟨by omega, ?_⟩
      refine again_ok (i + 1) hlt (by omega) (by rw [q4]; simp only [go_sem, reduceAdd, reduceSub, reduceMul, reduceEqDiff, reduceLT, reduceLeDiff, Nat.reduceBEq, Nat.reduceBNe, Int.reduceLT, Int.reduceLE, Int.reduceEq, Int.reduceAdd, Int.reduceSub, Int.reduceNeg, reduceCtorEq]; simp)
    · have q3 : decide (k < i) = true := decide_eq_true (by omega)
      have q4 : decide (k < i + 1) = true := decide_eq_true (by omega)
      rw [q3]
      by_cases h2 : x.cls = a.cls
      · have q2 : decide (x.cls = a.cls) = true := decide_eq_true h2
        simp only [go_sem, reduceAdd, reduceSub, reduceMul, reduceEqDiff, reduceLT, reduceLeDiff, Nat.reduceBEq, Nat.reduceBNe, Int.reduceLT, Int.reduceLE, Int.reduceEq, Int.reduceAdd, Int.reduceSub, Int.reduceNeg, reduceCtorEq, q1, q2]
        refine ⟨by omega, ?_⟩
        refine again_ok (i + 1) hlt (by omega) (by rw [q4]; simp only [go_sem, reduceAdd, reduceSub, reduceMul, reduceEqDiff, reduceLT, reduceLeDiff, Nat.reduceBEq, Nat.reduceBNe, Int.reduceLT, Int.reduceLE, Int.reduceEq, Int.reduceAdd, Int.reduceSub, Int.reduceNeg, reduceCtorEq]; simp)
      · have q2 : decide (x.cls = a.cls) = false := decide_eq_false h2
        simp only [go_sem, reduceAdd, reduceSub, reduceMul, reduceEqDiff, reduceLT, reduceLeDiff, Nat.reduceBEq, Nat.reduceBNe, Int.reduceLT, Int.reduceLE, Int.reduceEq, Int.reduceAdd, Int.reduceSub, Int.reduceNeg, reduceCtorEq, q1, q2]
        refine ⟨by omega, ?_⟩
        refine again_ok (i + 1) hlt (by omega) (by rw [q4]; simp only [go_sem, reduceAdd, reduceSub, reduceMul, reduceEqDiff, reduceLT, reduceLeDiff, Nat.reduceBEq, Nat.reduceBNe, Int.reduceLT, Int.reduceLE, Int.reduceEq, Int.reduceAdd, Int.reduceSub, Int.reduceNeg, reduceCtorEq]; simp)
  have hil : i = s.queue.length := by omega
  subst hil
  have q : decide ((s.queue.length : Int) < (s.queue.length : Int)) = false := decide_eq_false (by omega)
  have q3 : decide (k < s.queue.length) = true := decide_eq_true hk1
  rw [q3]
  simp only [go_sem, reduceAdd, reduceSub, reduceMul, reduceEqDiff, reduceLT, reduceLeDiff, Nat.reduceBEq, Nat.reduceBNe, Int.reduceLT, Int.reduceLE, Int.reduceEq, Int.reduceAdd, Int.reduceSub, Int.reduceNeg, reduceCtorEq, q]
  refine fin_ret (G := ⟨Non, w⟩) Try.results15 ?_
  simp only [go_sem, reduceAdd, reduceSub, reduceMul, reduceEqDiff, reduceLT, reduceLeDiff, Nat.reduceBEq, Nat.reduceBNe, Int.reduceLT, Int.reduceLE, Int.reduceEq, Int.reduceAdd, Int.reduceSub, Int.reduceNeg, reduceCtorEq]
  intro aa w' _ hle
  rfl
theorem nextClass_walk {w : World} (v0 : Value) (l0 : List Raw) (h0 : RawsG ⟨Non, w⟩ v0 l0) : Calls Try.prog 15 #[v0] w fun e w' => e = .returned (.bool true) ∧ Below w.heap.size w w' := ret_walk (nextClass_ret v0 l0 h0)
end Go.Proofs.Ytefmffpidhdjoaa
