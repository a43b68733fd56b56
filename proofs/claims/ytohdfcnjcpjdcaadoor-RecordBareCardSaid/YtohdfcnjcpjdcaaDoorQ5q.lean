/- bare: has a record just what its kind has? Conditions: as each law states them. -/
import Derived.Test.YtohdfcnjcpjdcaaDoorQ4q
import Derived.Test.YtohdfcnjcpjdcaaDoorS17q
namespace Go.Proofs.YtohdfcnjcpjdcaaDoor
open Go.RowKit
set_option linter.unusedSimpArgs false
theorem eqFq_cons {P : Program} {w : World} (d : Nat) (xs ys : Array Value) (f : Field) (fs : List Field) {x y : Value} {b : Bool} (hn : f.name ≠ "_") (hx : ∀ w, (part f.type xs f.offset).run P w = .ok x w) (hy : ∀ w, (part f.type ys f.offset).run P w = .ok y w) (he : ∀ w, (Op.equalIn d f.type x y).run P w = .ok b w) :
    (Op.eqFields d xs ys (f :: fs)).run P w = if b then (Op.eqFields d xs ys fs).run P w else .ok false w := by
  simp only [Op.eqFields, Sem.run_bind, Sem.run_ite, if_pos hn, hx, hy, he, Result.andThen_ok]
  cases b <;> simp
theorem fieldq3 {L : List Field} {p q r : TypeId × Nat × Bool} (hm : L.map (fun f => (f.type, f.offset, decide (f.name = "_"))) = [p, q, r]) : ∃ f0 f1 f2, L = [f0, f1, f2] := by
  rcases L with _ | ⟨f0, _ | ⟨f1, _ | ⟨f2, _ | ⟨f3, L⟩⟩⟩⟩
  · cases hm
  · simp at hm
  · simp at hm
  · exact ⟨_, _, _, rfl⟩
  · simp at hm
def rulq (a : Rul) : Value := .agg #[.string a.pre, .int .i64 a.freeze, .int .i64 a.drop]
def askq (a : Ask) : Value := .agg #[.int .i64 a.ver, .int .i64 a.days, .int .i64 a.cls]
theorem rulq_fields : (Tryd.prog.fieldsOf 24).toList.map (fun f => (f.type, f.offset, decide (f.name = "_"))) = [(9, 0, false), (3, 1, false), (3, 2, false)] := by kernel_rfl
theorem rulq_eq_run (a b : Rul) (w : World) : (Op.equalIn 10000 24 (rulq a) (rulq b)).run Tryd.prog w = .ok ((a.pre.toList == b.pre.toList) && ((a.freeze == b.freeze) && (a.drop == b.drop))) w := by
  unfold rulq
  rw [run_equalIn_agg w 9999 24 _ _ (by kernel_rfl) (by kernel_rfl)]
  have hi : ∀ (x y : Int) w, (Op.equalIn 9999 3 (.int .i64 x) (.int .i64 y)).run Tryd.prog w = .ok (x == y) w := fun x y w => run_equalIn_int w 9998 3 .i64 .i64 x y (by kernel_rfl)
  have hs : ∀ (x y : ByteArray) w, (Op.equalIn 9999 9 (.string x) (.string y)).run Tryd.prog w = .ok (x.toList == y.toList) w := fun x y w => run_equalIn_string w 9998 9 x y (by kernel_rfl)
  have hm := rulq_fields
  generalize (Tryd.prog.fieldsOf 24).toList = L at hm ⊢
  obtain ⟨f0, f1, f2, rfl⟩ := fieldq3 hm
  simp only [List.map_cons, List.map_nil, List.cons.injEq, Prod.mk.injEq, decide_eq_false_iff_not, and_true] at hm
  obtain ⟨⟨t0, o0, n0⟩, ⟨t1, o1, n1⟩, ⟨t2, o2, n2⟩⟩ := hm
  rw [eqFq_cons 9999 _ _ f0 _ (x := .string a.pre) (y := .string b.pre) (b := (a.pre.toList == b.pre.toList)) n0 (fun w => by rw [t0, o0]; kernel_rfl) (fun w => by rw [t0, o0]; kernel_rfl) (fun w => by rw [t0]; exact hs _ _ w)]
  rw [eqFq_cons 9999 _ _ f1 _ (x := .int .i64 a.freeze) (y := .int .i64 b.freeze) (b := (a.freeze == b.freeze)) n1 (fun w => by rw [t1, o1]; kernel_rfl) (fun w => by rw [t1, o1]; kernel_rfl) (fun w => by rw [t1]; exact hi _ _ w)]
  rw [eqFq_cons 9999 _ _ f2 _ (x := .int .i64 a.drop) (y := .int .i64 b.drop) (b := (a.drop == b.drop)) n2 (fun w => by rw [t2, o2]; kernel_rfl) (fun w => by rw [t2, o2]; kernel_rfl) (fun w => by rw [t2]; exact hi _ _ w)]
  cases (a.pre.toList == b.pre.toList) <;> cases (a.freeze == b.freeze) <;> cases (a.drop == b.drop) <;> simp [Op.eqFields]
theorem askq_fields : (Tryd.prog.fieldsOf 29).toList.map (fun f => (f.type, f.offset, decide (f.name = "_"))) = [(3, 0, false), (3, 1, false), (3, 2, false)] := by kernel_rfl
theorem askq_eq_run (a b : Ask) (w : World) : (Op.equalIn 10000 29 (askq a) (askq b)).run Tryd.prog w = .ok ((a.ver == b.ver) && ((a.days == b.days) && (a.cls == b.cls))) w := by
  unfold askq
  rw [run_equalIn_agg w 9999 29 _ _ (by kernel_rfl) (by kernel_rfl)]
  have hi : ∀ (x y : Int) w, (Op.equalIn 9999 3 (.int .i64 x) (.int .i64 y)).run Tryd.prog w = .ok (x == y) w := fun x y w => run_equalIn_int w 9998 3 .i64 .i64 x y (by kernel_rfl)
  have hs : ∀ (x y : ByteArray) w, (Op.equalIn 9999 9 (.string x) (.string y)).run Tryd.prog w = .ok (x.toList == y.toList) w := fun x y w => run_equalIn_string w 9998 9 x y (by kernel_rfl)
  have hm := askq_fields
  generalize (Tryd.prog.fieldsOf 29).toList = L at hm ⊢
  obtain ⟨f0, f1, f2, rfl⟩ := fieldq3 hm
  simp only [List.map_cons, List.map_nil, List.cons.injEq, Prod.mk.injEq, decide_eq_false_iff_not, and_true] at hm
  obtain ⟨⟨t0, o0, n0⟩, ⟨t1, o1, n1⟩, ⟨t2, o2, n2⟩⟩ := hm
  rw [eqFq_cons 9999 _ _ f0 _ (x := .int .i64 a.ver) (y := .int .i64 b.ver) (b := (a.ver == b.ver)) n0 (fun w => by rw [t0, o0]; kernel_rfl) (fun w => by rw [t0, o0]; kernel_rfl) (fun w => by rw [t0]; exact hi _ _ w)]
  rw [eqFq_cons 9999 _ _ f1 _ (x := .int .i64 a.days) (y := .int .i64 b.days) (b := (a.days == b.days)) n1 (fun w => by rw [t1, o1]; kernel_rfl) (fun w => by rw [t1, o1]; kernel_rfl) (fun w => by rw [t1]; exact hi _ _ w)]
  rw [eqFq_cons 9999 _ _ f2 _ (x := .int .i64 a.cls) (y := .int .i64 b.cls) (b := (a.cls == b.cls)) n2 (fun w => by rw [t2, o2]; kernel_rfl) (fun w => by rw [t2, o2]; kernel_rfl) (fun w => by rw [t2]; exact hi _ _ w)]
  cases (a.ver == b.ver) <;> cases (a.days == b.days) <;> cases (a.cls == b.cls) <;> simp [Op.eqFields]
def ruleB (a b : Rul) : Bool := (a.pre.toList == b.pre.toList) && ((a.freeze == b.freeze) && (a.drop == b.drop))
def askB (a b : Ask) : Bool := (a.ver == b.ver) && ((a.days == b.days) && (a.cls == b.cls))
theorem rulq_eql (a b : Rul) (w : World) : (binOp .eql 24 (rulq a) (rulq b)).run Tryd.prog w = .ok (.bool (ruleB a b)) w := by
  have h := rulq_eq_run a b w
  unfold rulq at h ⊢
  rw [run_eql_struct, h]
  rfl
theorem rulq_guard (x y : Operand) (a b : Rul) (w : World) : (eqGuard .eql 24 x y (rulq a) (rulq b)).run Tryd.prog w = .ok () w := run_eqGuard_agg w .eql _ x y _ _ (by kernel_rfl)
theorem askq_eql (a b : Ask) (w : World) : (binOp .eql 29 (askq a) (askq b)).run Tryd.prog w = .ok (.bool (askB a b)) w := by
  have h := askq_eq_run a b w
  unfold askq at h ⊢
  rw [run_eql_struct, h]
  rfl
theorem askq_guard (x y : Operand) (a b : Ask) (w : World) : (eqGuard .eql 29 x y (askq a) (askq b)).run Tryd.prog w = .ok () w := run_eqGuard_agg w .eql _ x y _ _ (by kernel_rfl)
section
variable {P : Program} {E : Env} {σ : St} {o : Oper}
theorem cmpq_does {bo : BinOp} {ty t2 : TypeId} {x y : Operand} {vx vy : SV} {r : Bool} (ho : o.op = .binOp bo ty x y t2) (hx : ev σ x = some vx) (hy : ev σ y = some vy)
    (hg : ∀ w, (eqGuard bo ty x y vx.den vy.den).run P w = .ok () w) (hb : ∀ w, (binOp bo ty vx.den vy.den).run P w = .ok (.bool r) w) (hd : dOk E o.dst) :
    Does P E σ o (fun σ' => σ' = σ.put o.dst (.c (.v (.bool r)))) := by
  intro ac w Q next hr hn
  have hx' : ac.eval x = vx.den := ev_den hr.see hx
  have hy' : ac.eval y = vy.den := ev_den hr.see hy
  have hrun : (execOp ac.eval o).run P w = .ok (.value (.bool r)) w := by
    unfold execOp
    simp only [ho, hx', hy', hg, hb, Sem.run_bind, Sem.run_pure, Result.andThen_ok]
  exact wp_of_value hrun (hn _ _ _ rfl (hr.put o.dst (.c (.v _)) (dOk_lt hd)))
theorem wgXq_do {rec_ : Cmd → St → Prop} {k : Cont} {ops : Array Oper} {rest : List Oper} {ctx : List Bool} {z : Option (Prop × SC)} (hz : z = none) (hs : stepO P o σ = .no) (hc : ctx.all id = true) (h : Ok E σ (wpList P ops (k.den P) (o :: rest))) : WgX P E rec_ k ops rest o σ ctx z := by
  rw [hz]
  refine ⟨fun _ => ?_, fun q => by rw [hc] at q; cases q⟩
  rw [hs]
  exact h
end
/-- a record, as what holds of its slices is known -/
structure RxG (G : GW) (r : Rec) (vs ps ss : Value) : Prop where
  v : IntsG G vs r.ver.secs
  p : IntsG G ps r.part.secs
  s : IntsG G ss r.secs
theorem RxG.mono {G G' : GW} {r : Rec} {vs ps ss : Value} (h : RxG G r vs ps ss) (hl : G.Le G') : RxG G' r vs ps ss := ⟨h.v.mono hl, h.p.mono hl, h.s.mono hl⟩
def b4B (k : Kd) (r : Rec) : Bool := (((k.id || decide (r.id = 0)) && (k.n || decide (r.n = 0))) && (k.name || r.name.toList == noT.toList)) && (k.key || r.key.toList == noT.toList)
def bareB (k : Kd) (r : Rec) : Bool := ((((((b4B k r && (k.rule || ruleB r.rule noR)) && (k.ver || emptyB r.ver)) && (k.ask || askB r.ask noA)) && (k.part || nothingB r.part)) && (k.secs || decide ((r.secs.length : Int) = 0))) && (k.vol || decide (r.vol = 0))) && (k.at_ || decide (r.at_ = 0))
theorem kd_one {m : Nat} (hm : m < 15) : ((kd (m : Int)).rule = true → (kd (m : Int)).ver = false ∧ (kd (m : Int)).ask = false ∧ (kd (m : Int)).part = false) ∧ ((kd (m : Int)).ver = true → (kd (m : Int)).ask = false ∧ (kd (m : Int)).part = false) ∧ ((kd (m : Int)).ask = true → (kd (m : Int)).part = false) := by
  have : ∀ m : Fin 15, ((kd (m.1 : Int)).rule = true → (kd (m.1 : Int)).ver = false ∧ (kd (m.1 : Int)).ask = false ∧ (kd (m.1 : Int)).part = false) ∧ ((kd (m.1 : Int)).ver = true → (kd (m.1 : Int)).ask = false ∧ (kd (m.1 : Int)).part = false) ∧ ((kd (m.1 : Int)).ask = true → (kd (m.1 : Int)).part = false) := by decide
  exact this ⟨m, hm⟩
set_option maxRecDepth 100000 in
set_option maxHeartbeats 64000000 in
theorem bare_does {r : Rec} {vs ps ss : Value} {G0 : GW} (hW : G0.Wf) (h : RxG G0 r vs ps ss) (hK : KindsG G0) (hk : 1 ≤ r.kind ∧ r.kind ≤ 14) :
    Calls Tryd.prog 13 #[.agg (recV r vs ps ss).toArray] G0.w (Ret G0 fun y _ => y = .bool (bareB (kd r.kind) r)) := by
  obtain ⟨A, c, rfl, hc1, hc2⟩ := Sq.form h.v
  obtain ⟨B, d, rfl, hd1, hd2⟩ := Sq.form h.p
  obtain ⟨C, e, rfl, he1, he2⟩ := Sq.form h.s
  have hml := max_le
  obtain ⟨m, hm⟩ : ∃ m : Nat, r.kind = (m : Int) := ⟨r.kind.toNat, by omega⟩
  have hx := kd_one (show m < 15 by omega)
  rw [hm]
  refine enterS (G := G0) (n := 108) 3000 hW Tryd.func13 rfl Tryd.ntmps13 (by simp) ?_
  simp only [go_sem, simprocAttr, recV, hm]
  intro g
  refine plain_ok (N := 3000) (globElem_does (m := m) (cs := kdC (kd (m : Int))) rfl Tryd.underlying62 tySize61 rfl (dk rfl) rfl (by omega) (by decide) (fun G hG => kinds_at (BlkG.mono hK (hG.le G0 (by simp))) (by omega))) (QOk_body _ _ _) (by first | exact .inl rfl | exact .inr ⟨_, _, rfl, rfl⟩) ?_
  rintro _ ⟨G1, rfl⟩
  generalize kd (m : Int) = k at hx ⊢
  obtain ⟨k1, k2, k3, k4, k5, k6, k7, k8, k9, k10, k11⟩ := k
  dsimp only at hx
  have hcomb : (k5 = true ∧ k6 = false ∧ k7 = false ∧ k8 = false) ∨ (k5 = false ∧ k6 = true ∧ k7 = false ∧ k8 = false) ∨ (k5 = false ∧ k6 = false ∧ k7 = true ∧ k8 = false) ∨ (k5 = false ∧ k6 = false ∧ k7 = false ∧ k8 = true) ∨ (k5 = false ∧ k6 = false ∧ k7 = false ∧ k8 = false) := by
    obtain ⟨x1, x2, x3⟩ := hx
    cases k5 <;> cases k6 <;> cases k7 <;> cases k8 <;> simp_all
  clear hx
  rcases hcomb with ⟨rfl, rfl, rfl, rfl⟩ | ⟨rfl, rfl, rfl, rfl⟩ | ⟨rfl, rfl, rfl, rfl⟩ | ⟨rfl, rfl, rfl, rfl⟩ | ⟨rfl, rfl, rfl, rfl⟩
  · simp only [go_sem, simprocAttr, kdC]
    intro g2
    simp only [go_sem, simprocAttr, List.append_eq, List.cons_append, List.nil_append]
    unfold bareB
    dsimp only
    generalize hb4 : b4B ⟨k1, k2, k3, k4, true, false, false, false, k9, k10, k11⟩ r = b4
    have hb4' : ((((k1 || decide (r.id = 0)) && (k2 || decide (r.n = 0))) && (k3 || r.name.toList == (⟨#[]⟩ : ByteArray).toList)) && (k4 || r.key.toList == (⟨#[]⟩ : ByteArray).toList)) = b4 := hb4
    rw [hb4']
    clear hb4 hb4'
    cases b4 with
    | false =>
      simp only [go_sem, simprocAttr, List.append_eq, List.cons_append, List.nil_append, Bool.true_and, Bool.false_and, Bool.and_true, Bool.and_false, Bool.or_true, Bool.true_or, Bool.false_or, Bool.not_true, Bool.not_false]
      refine fin_ret (G := G0) Tryd.results13 ?_
      simp only [go_sem, simprocAttr]
      intro aa w' _ _
      rfl
    | true =>
      simp only [go_sem, simprocAttr, List.append_eq, List.cons_append, List.nil_append, Bool.true_and, Bool.false_and, Bool.and_true, Bool.and_false, Bool.or_true, Bool.true_or, Bool.false_or, Bool.not_true, Bool.not_false]
      refine plain_ok (N := 3000) (call_does (fun y _ => y = .bool (emptyB r.ver)) rfl rfl (by kernel_rfl) rfl (dk rfl) (fun G hG => empty_does (x := r.ver) hG.wf (h.v.mono (hG.le G0 (by simp))))) (QOk_body _ _ _) (by first | exact .inl rfl | exact .inr ⟨_, _, rfl, rfl⟩) ?_
      rintro _ ⟨_, G2, rfl, hn2, rfl⟩
      clear hn2
      cases emptyB r.ver with
      | false =>
        simp only [go_sem, simprocAttr, List.append_eq, List.cons_append, List.nil_append, Bool.true_and, Bool.false_and, Bool.and_true, Bool.and_false, Bool.or_true, Bool.true_or, Bool.false_or, Bool.not_true, Bool.not_false]
        refine fin_ret (G := G0) Tryd.results13 ?_
        simp only [go_sem, simprocAttr]
        intro aa w' _ _
        rfl
      | true =>
        simp only [go_sem, simprocAttr, List.append_eq, List.cons_append, List.nil_append, Bool.true_and, Bool.false_and, Bool.and_true, Bool.and_false, Bool.or_true, Bool.true_or, Bool.false_or, Bool.not_true, Bool.not_false]
        refine wgXq_do rfl rfl rfl ?_
        refine plain_ok (N := 3000) (cmpq_does (vx := .a [.v (.int .i64 r.ask.ver), .v (.int .i64 r.ask.days), .v (.int .i64 r.ask.cls)]) (vy := .a [.v (.int .i64 0), .v (.int .i64 0), .v (.int .i64 0)]) (r := askB r.ask noA) rfl rfl rfl (fun w => askq_guard _ _ r.ask noA w) (fun w => askq_eql r.ask noA w) (dk rfl)) (QOk_body _ _ _) (by first | exact .inl rfl | exact .inr ⟨_, _, rfl, rfl⟩) ?_
        rintro _ rfl
        cases askB r.ask noA with
        | false =>
          simp only [go_sem, simprocAttr, List.append_eq, List.cons_append, List.nil_append, Bool.true_and, Bool.false_and, Bool.and_true, Bool.and_false, Bool.or_true, Bool.true_or, Bool.false_or, Bool.not_true, Bool.not_false]
          refine fin_ret (G := G0) Tryd.results13 ?_
          simp only [go_sem, simprocAttr]
          intro aa w' _ _
          rfl
        | true =>
          simp only [go_sem, simprocAttr, List.append_eq, List.cons_append, List.nil_append, Bool.true_and, Bool.false_and, Bool.and_true, Bool.and_false, Bool.or_true, Bool.true_or, Bool.false_or, Bool.not_true, Bool.not_false]
          refine plain_ok (N := 3000) (call_does (fun y _ => y = .bool (nothingB r.part)) rfl rfl (by kernel_rfl) rfl (dk rfl) (fun G hG => nothing_does (x := r.part) hG.wf (h.p.mono (hG.le G0 (by simp))))) (QOk_body _ _ _) (by first | exact .inl rfl | exact .inr ⟨_, _, rfl, rfl⟩) ?_
          rintro _ ⟨_, G3, rfl, hn3, rfl⟩
          clear hn3
          cases nothingB r.part with
          | false =>
            simp only [go_sem, simprocAttr, List.append_eq, List.cons_append, List.nil_append, Bool.true_and, Bool.false_and, Bool.and_true, Bool.and_false, Bool.or_true, Bool.true_or, Bool.false_or, Bool.not_true, Bool.not_false]
            refine fin_ret (G := G0) Tryd.results13 ?_
            simp only [go_sem, simprocAttr]
            intro aa w' _ _
            rfl
          | true =>
            simp only [go_sem, simprocAttr, List.append_eq, List.cons_append, List.nil_append, Bool.true_and, Bool.false_and, Bool.and_true, Bool.and_false, Bool.or_true, Bool.true_or, Bool.false_or, Bool.not_true, Bool.not_false]
            refine fin_ret (G := G0) Tryd.results13 ?_
            simp only [go_sem, simprocAttr]
            intro aa w' _ _
            rfl
  · simp only [go_sem, simprocAttr, kdC]
    intro g2
    simp only [go_sem, simprocAttr, List.append_eq, List.cons_append, List.nil_append]
    unfold bareB
    dsimp only
    generalize hb4 : b4B ⟨k1, k2, k3, k4, false, true, false, false, k9, k10, k11⟩ r = b4
    have hb4' : ((((k1 || decide (r.id = 0)) && (k2 || decide (r.n = 0))) && (k3 || r.name.toList == (⟨#[]⟩ : ByteArray).toList)) && (k4 || r.key.toList == (⟨#[]⟩ : ByteArray).toList)) = b4 := hb4
    rw [hb4']
    clear hb4 hb4'
    cases b4 with
    | false =>
      simp only [go_sem, simprocAttr, List.append_eq, List.cons_append, List.nil_append, Bool.true_and, Bool.false_and, Bool.and_true, Bool.and_false, Bool.or_true, Bool.true_or, Bool.false_or, Bool.not_true, Bool.not_false]
      refine fin_ret (G := G0) Tryd.results13 ?_
      simp only [go_sem, simprocAttr]
      intro aa w' _ _
      rfl
    | true =>
      simp only [go_sem, simprocAttr, List.append_eq, List.cons_append, List.nil_append, Bool.true_and, Bool.false_and, Bool.and_true, Bool.and_false, Bool.or_true, Bool.true_or, Bool.false_or, Bool.not_true, Bool.not_false]
      refine wgXq_do rfl rfl rfl ?_
      refine plain_ok (N := 3000) (cmpq_does (vx := .a [.v (.string r.rule.pre), .v (.int .i64 r.rule.freeze), .v (.int .i64 r.rule.drop)]) (vy := .a [.v (.string noT), .v (.int .i64 0), .v (.int .i64 0)]) (r := ruleB r.rule noR) rfl rfl rfl (fun w => rulq_guard _ _ r.rule noR w) (fun w => rulq_eql r.rule noR w) (dk rfl)) (QOk_body _ _ _) (by first | exact .inl rfl | exact .inr ⟨_, _, rfl, rfl⟩) ?_
      rintro _ rfl
      cases ruleB r.rule noR with
      | false =>
        simp only [go_sem, simprocAttr, List.append_eq, List.cons_append, List.nil_append, Bool.true_and, Bool.false_and, Bool.and_true, Bool.and_false, Bool.or_true, Bool.true_or, Bool.false_or, Bool.not_true, Bool.not_false]
        refine fin_ret (G := G0) Tryd.results13 ?_
        simp only [go_sem, simprocAttr]
        intro aa w' _ _
        rfl
      | true =>
        simp only [go_sem, simprocAttr, List.append_eq, List.cons_append, List.nil_append, Bool.true_and, Bool.false_and, Bool.and_true, Bool.and_false, Bool.or_true, Bool.true_or, Bool.false_or, Bool.not_true, Bool.not_false]
        refine wgXq_do rfl rfl rfl ?_
        refine plain_ok (N := 3000) (cmpq_does (vx := .a [.v (.int .i64 r.ask.ver), .v (.int .i64 r.ask.days), .v (.int .i64 r.ask.cls)]) (vy := .a [.v (.int .i64 0), .v (.int .i64 0), .v (.int .i64 0)]) (r := askB r.ask noA) rfl rfl rfl (fun w => askq_guard _ _ r.ask noA w) (fun w => askq_eql r.ask noA w) (dk rfl)) (QOk_body _ _ _) (by first | exact .inl rfl | exact .inr ⟨_, _, rfl, rfl⟩) ?_
        rintro _ rfl
        cases askB r.ask noA with
        | false =>
          simp only [go_sem, simprocAttr, List.append_eq, List.cons_append, List.nil_append, Bool.true_and, Bool.false_and, Bool.and_true, Bool.and_false, Bool.or_true, Bool.true_or, Bool.false_or, Bool.not_true, Bool.not_false]
          refine fin_ret (G := G0) Tryd.results13 ?_
          simp only [go_sem, simprocAttr]
          intro aa w' _ _
          rfl
        | true =>
          simp only [go_sem, simprocAttr, List.append_eq, List.cons_append, List.nil_append, Bool.true_and, Bool.false_and, Bool.and_true, Bool.and_false, Bool.or_true, Bool.true_or, Bool.false_or, Bool.not_true, Bool.not_false]
          refine plain_ok (N := 3000) (call_does (fun y _ => y = .bool (nothingB r.part)) rfl rfl (by kernel_rfl) rfl (dk rfl) (fun G hG => nothing_does (x := r.part) hG.wf (h.p.mono (hG.le G0 (by simp))))) (QOk_body _ _ _) (by first | exact .inl rfl | exact .inr ⟨_, _, rfl, rfl⟩) ?_
          rintro _ ⟨_, G3, rfl, hn3, rfl⟩
          clear hn3
          cases nothingB r.part with
          | false =>
            simp only [go_sem, simprocAttr, List.append_eq, List.cons_append, List.nil_append, Bool.true_and, Bool.false_and, Bool.and_true, Bool.and_false, Bool.or_true, Bool.true_or, Bool.false_or, Bool.not_true, Bool.not_false]
            refine fin_ret (G := G0) Tryd.results13 ?_
            simp only [go_sem, simprocAttr]
            intro aa w' _ _
            rfl
          | true =>
            simp only [go_sem, simprocAttr, List.append_eq, List.cons_append, List.nil_append, Bool.true_and, Bool.false_and, Bool.and_true, Bool.and_false, Bool.or_true, Bool.true_or, Bool.false_or, Bool.not_true, Bool.not_false]
            refine fin_ret (G := G0) Tryd.results13 ?_
            simp only [go_sem, simprocAttr]
            intro aa w' _ _
            rfl
  · simp only [go_sem, simprocAttr, kdC]
    intro g2
    simp only [go_sem, simprocAttr, List.append_eq, List.cons_append, List.nil_append]
    unfold bareB
    dsimp only
    generalize hb4 : b4B ⟨k1, k2, k3, k4, false, false, true, false, k9, k10, k11⟩ r = b4
    have hb4' : ((((k1 || decide (r.id = 0)) && (k2 || decide (r.n = 0))) && (k3 || r.name.toList == (⟨#[]⟩ : ByteArray).toList)) && (k4 || r.key.toList == (⟨#[]⟩ : ByteArray).toList)) = b4 := hb4
    rw [hb4']
    clear hb4 hb4'
    cases b4 with
    | false =>
      simp only [go_sem, simprocAttr, List.append_eq, List.cons_append, List.nil_append, Bool.true_and, Bool.false_and, Bool.and_true, Bool.and_false, Bool.or_true, Bool.true_or, Bool.false_or, Bool.not_true, Bool.not_false]
      refine fin_ret (G := G0) Tryd.results13 ?_
      simp only [go_sem, simprocAttr]
      intro aa w' _ _
      rfl
    | true =>
      simp only [go_sem, simprocAttr, List.append_eq, List.cons_append, List.nil_append, Bool.true_and, Bool.false_and, Bool.and_true, Bool.and_false, Bool.or_true, Bool.true_or, Bool.false_or, Bool.not_true, Bool.not_false]
      refine wgXq_do rfl rfl rfl ?_
      refine plain_ok (N := 3000) (cmpq_does (vx := .a [.v (.string r.rule.pre), .v (.int .i64 r.rule.freeze), .v (.int .i64 r.rule.drop)]) (vy := .a [.v (.string noT), .v (.int .i64 0), .v (.int .i64 0)]) (r := ruleB r.rule noR) rfl rfl rfl (fun w => rulq_guard _ _ r.rule noR w) (fun w => rulq_eql r.rule noR w) (dk rfl)) (QOk_body _ _ _) (by first | exact .inl rfl | exact .inr ⟨_, _, rfl, rfl⟩) ?_
      rintro _ rfl
      cases ruleB r.rule noR with
      | false =>
        simp only [go_sem, simprocAttr, List.append_eq, List.cons_append, List.nil_append, Bool.true_and, Bool.false_and, Bool.and_true, Bool.and_false, Bool.or_true, Bool.true_or, Bool.false_or, Bool.not_true, Bool.not_false]
        refine fin_ret (G := G0) Tryd.results13 ?_
        simp only [go_sem, simprocAttr]
        intro aa w' _ _
        rfl
      | true =>
        simp only [go_sem, simprocAttr, List.append_eq, List.cons_append, List.nil_append, Bool.true_and, Bool.false_and, Bool.and_true, Bool.and_false, Bool.or_true, Bool.true_or, Bool.false_or, Bool.not_true, Bool.not_false]
        refine plain_ok (N := 3000) (call_does (fun y _ => y = .bool (emptyB r.ver)) rfl rfl (by kernel_rfl) rfl (dk rfl) (fun G hG => empty_does (x := r.ver) hG.wf (h.v.mono (hG.le G0 (by simp))))) (QOk_body _ _ _) (by first | exact .inl rfl | exact .inr ⟨_, _, rfl, rfl⟩) ?_
        rintro _ ⟨_, G2, rfl, hn2, rfl⟩
        clear hn2
        cases emptyB r.ver with
        | false =>
          simp only [go_sem, simprocAttr, List.append_eq, List.cons_append, List.nil_append, Bool.true_and, Bool.false_and, Bool.and_true, Bool.and_false, Bool.or_true, Bool.true_or, Bool.false_or, Bool.not_true, Bool.not_false]
          refine fin_ret (G := G0) Tryd.results13 ?_
          simp only [go_sem, simprocAttr]
          intro aa w' _ _
          rfl
        | true =>
          simp only [go_sem, simprocAttr, List.append_eq, List.cons_append, List.nil_append, Bool.true_and, Bool.false_and, Bool.and_true, Bool.and_false, Bool.or_true, Bool.true_or, Bool.false_or, Bool.not_true, Bool.not_false]
          refine plain_ok (N := 3000) (call_does (fun y _ => y = .bool (nothingB r.part)) rfl rfl (by kernel_rfl) rfl (dk rfl) (fun G hG => nothing_does (x := r.part) hG.wf (h.p.mono (hG.le G0 (by simp))))) (QOk_body _ _ _) (by first | exact .inl rfl | exact .inr ⟨_, _, rfl, rfl⟩) ?_
          rintro _ ⟨_, G3, rfl, hn3, rfl⟩
          clear hn3
          cases nothingB r.part with
          | false =>
            simp only [go_sem, simprocAttr, List.append_eq, List.cons_append, List.nil_append, Bool.true_and, Bool.false_and, Bool.and_true, Bool.and_false, Bool.or_true, Bool.true_or, Bool.false_or, Bool.not_true, Bool.not_false]
            refine fin_ret (G := G0) Tryd.results13 ?_
            simp only [go_sem, simprocAttr]
            intro aa w' _ _
            rfl
          | true =>
            simp only [go_sem, simprocAttr, List.append_eq, List.cons_append, List.nil_append, Bool.true_and, Bool.false_and, Bool.and_true, Bool.and_false, Bool.or_true, Bool.true_or, Bool.false_or, Bool.not_true, Bool.not_false]
            refine fin_ret (G := G0) Tryd.results13 ?_
            simp only [go_sem, simprocAttr]
            intro aa w' _ _
            rfl
  · simp only [go_sem, simprocAttr, kdC]
    intro g2
    simp only [go_sem, simprocAttr, List.append_eq, List.cons_append, List.nil_append]
    unfold bareB
    dsimp only
    generalize hb4 : b4B ⟨k1, k2, k3, k4, false, false, false, true, k9, k10, k11⟩ r = b4
    have hb4' : ((((k1 || decide (r.id = 0)) && (k2 || decide (r.n = 0))) && (k3 || r.name.toList == (⟨#[]⟩ : ByteArray).toList)) && (k4 || r.key.toList == (⟨#[]⟩ : ByteArray).toList)) = b4 := hb4
    rw [hb4']
    clear hb4 hb4'
    cases b4 with
    | false =>
      simp only [go_sem, simprocAttr, List.append_eq, List.cons_append, List.nil_append, Bool.true_and, Bool.false_and, Bool.and_true, Bool.and_false, Bool.or_true, Bool.true_or, Bool.false_or, Bool.not_true, Bool.not_false]
      refine fin_ret (G := G0) Tryd.results13 ?_
      simp only [go_sem, simprocAttr]
      intro aa w' _ _
      rfl
    | true =>
      simp only [go_sem, simprocAttr, List.append_eq, List.cons_append, List.nil_append, Bool.true_and, Bool.false_and, Bool.and_true, Bool.and_false, Bool.or_true, Bool.true_or, Bool.false_or, Bool.not_true, Bool.not_false]
      refine wgXq_do rfl rfl rfl ?_
      refine plain_ok (N := 3000) (cmpq_does (vx := .a [.v (.string r.rule.pre), .v (.int .i64 r.rule.freeze), .v (.int .i64 r.rule.drop)]) (vy := .a [.v (.string noT), .v (.int .i64 0), .v (.int .i64 0)]) (r := ruleB r.rule noR) rfl rfl rfl (fun w => rulq_guard _ _ r.rule noR w) (fun w => rulq_eql r.rule noR w) (dk rfl)) (QOk_body _ _ _) (by first | exact .inl rfl | exact .inr ⟨_, _, rfl, rfl⟩) ?_
      rintro _ rfl
      cases ruleB r.rule noR with
      | false =>
        simp only [go_sem, simprocAttr, List.append_eq, List.cons_append, List.nil_append, Bool.true_and, Bool.false_and, Bool.and_true, Bool.and_false, Bool.or_true, Bool.true_or, Bool.false_or, Bool.not_true, Bool.not_false]
        refine fin_ret (G := G0) Tryd.results13 ?_
        simp only [go_sem, simprocAttr]
        intro aa w' _ _
        rfl
      | true =>
        simp only [go_sem, simprocAttr, List.append_eq, List.cons_append, List.nil_append, Bool.true_and, Bool.false_and, Bool.and_true, Bool.and_false, Bool.or_true, Bool.true_or, Bool.false_or, Bool.not_true, Bool.not_false]
        refine plain_ok (N := 3000) (call_does (fun y _ => y = .bool (emptyB r.ver)) rfl rfl (by kernel_rfl) rfl (dk rfl) (fun G hG => empty_does (x := r.ver) hG.wf (h.v.mono (hG.le G0 (by simp))))) (QOk_body _ _ _) (by first | exact .inl rfl | exact .inr ⟨_, _, rfl, rfl⟩) ?_
        rintro _ ⟨_, G2, rfl, hn2, rfl⟩
        clear hn2
        cases emptyB r.ver with
        | false =>
          simp only [go_sem, simprocAttr, List.append_eq, List.cons_append, List.nil_append, Bool.true_and, Bool.false_and, Bool.and_true, Bool.and_false, Bool.or_true, Bool.true_or, Bool.false_or, Bool.not_true, Bool.not_false]
          refine fin_ret (G := G0) Tryd.results13 ?_
          simp only [go_sem, simprocAttr]
          intro aa w' _ _
          rfl
        | true =>
          simp only [go_sem, simprocAttr, List.append_eq, List.cons_append, List.nil_append, Bool.true_and, Bool.false_and, Bool.and_true, Bool.and_false, Bool.or_true, Bool.true_or, Bool.false_or, Bool.not_true, Bool.not_false]
          refine wgXq_do rfl rfl rfl ?_
          refine plain_ok (N := 3000) (cmpq_does (vx := .a [.v (.int .i64 r.ask.ver), .v (.int .i64 r.ask.days), .v (.int .i64 r.ask.cls)]) (vy := .a [.v (.int .i64 0), .v (.int .i64 0), .v (.int .i64 0)]) (r := askB r.ask noA) rfl rfl rfl (fun w => askq_guard _ _ r.ask noA w) (fun w => askq_eql r.ask noA w) (dk rfl)) (QOk_body _ _ _) (by first | exact .inl rfl | exact .inr ⟨_, _, rfl, rfl⟩) ?_
          rintro _ rfl
          cases askB r.ask noA with
          | false =>
            simp only [go_sem, simprocAttr, List.append_eq, List.cons_append, List.nil_append, Bool.true_and, Bool.false_and, Bool.and_true, Bool.and_false, Bool.or_true, Bool.true_or, Bool.false_or, Bool.not_true, Bool.not_false]
            refine fin_ret (G := G0) Tryd.results13 ?_
            simp only [go_sem, simprocAttr]
            intro aa w' _ _
            rfl
          | true =>
            simp only [go_sem, simprocAttr, List.append_eq, List.cons_append, List.nil_append, Bool.true_and, Bool.false_and, Bool.and_true, Bool.and_false, Bool.or_true, Bool.true_or, Bool.false_or, Bool.not_true, Bool.not_false]
            refine fin_ret (G := G0) Tryd.results13 ?_
            simp only [go_sem, simprocAttr]
            intro aa w' _ _
            rfl
  · simp only [go_sem, simprocAttr, kdC]
    intro g2
    simp only [go_sem, simprocAttr, List.append_eq, List.cons_append, List.nil_append]
    unfold bareB
    dsimp only
    generalize hb4 : b4B ⟨k1, k2, k3, k4, false, false, false, false, k9, k10, k11⟩ r = b4
    have hb4' : ((((k1 || decide (r.id = 0)) && (k2 || decide (r.n = 0))) && (k3 || r.name.toList == (⟨#[]⟩ : ByteArray).toList)) && (k4 || r.key.toList == (⟨#[]⟩ : ByteArray).toList)) = b4 := hb4
    rw [hb4']
    clear hb4 hb4'
    cases b4 with
    | false =>
      simp only [go_sem, simprocAttr, List.append_eq, List.cons_append, List.nil_append, Bool.true_and, Bool.false_and, Bool.and_true, Bool.and_false, Bool.or_true, Bool.true_or, Bool.false_or, Bool.not_true, Bool.not_false]
      refine fin_ret (G := G0) Tryd.results13 ?_
      simp only [go_sem, simprocAttr]
      intro aa w' _ _
      rfl
    | true =>
      simp only [go_sem, simprocAttr, List.append_eq, List.cons_append, List.nil_append, Bool.true_and, Bool.false_and, Bool.and_true, Bool.and_false, Bool.or_true, Bool.true_or, Bool.false_or, Bool.not_true, Bool.not_false]
      refine wgXq_do rfl rfl rfl ?_
      refine plain_ok (N := 3000) (cmpq_does (vx := .a [.v (.string r.rule.pre), .v (.int .i64 r.rule.freeze), .v (.int .i64 r.rule.drop)]) (vy := .a [.v (.string noT), .v (.int .i64 0), .v (.int .i64 0)]) (r := ruleB r.rule noR) rfl rfl rfl (fun w => rulq_guard _ _ r.rule noR w) (fun w => rulq_eql r.rule noR w) (dk rfl)) (QOk_body _ _ _) (by first | exact .inl rfl | exact .inr ⟨_, _, rfl, rfl⟩) ?_
      rintro _ rfl
      cases ruleB r.rule noR with
      | false =>
        simp only [go_sem, simprocAttr, List.append_eq, List.cons_append, List.nil_append, Bool.true_and, Bool.false_and, Bool.and_true, Bool.and_false, Bool.or_true, Bool.true_or, Bool.false_or, Bool.not_true, Bool.not_false]
        refine fin_ret (G := G0) Tryd.results13 ?_
        simp only [go_sem, simprocAttr]
        intro aa w' _ _
        rfl
      | true =>
        simp only [go_sem, simprocAttr, List.append_eq, List.cons_append, List.nil_append, Bool.true_and, Bool.false_and, Bool.and_true, Bool.and_false, Bool.or_true, Bool.true_or, Bool.false_or, Bool.not_true, Bool.not_false]
        refine plain_ok (N := 3000) (call_does (fun y _ => y = .bool (emptyB r.ver)) rfl rfl (by kernel_rfl) rfl (dk rfl) (fun G hG => empty_does (x := r.ver) hG.wf (h.v.mono (hG.le G0 (by simp))))) (QOk_body _ _ _) (by first | exact .inl rfl | exact .inr ⟨_, _, rfl, rfl⟩) ?_
        rintro _ ⟨_, G2, rfl, hn2, rfl⟩
        clear hn2
        cases emptyB r.ver with
        | false =>
          simp only [go_sem, simprocAttr, List.append_eq, List.cons_append, List.nil_append, Bool.true_and, Bool.false_and, Bool.and_true, Bool.and_false, Bool.or_true, Bool.true_or, Bool.false_or, Bool.not_true, Bool.not_false]
          refine fin_ret (G := G0) Tryd.results13 ?_
          simp only [go_sem, simprocAttr]
          intro aa w' _ _
          rfl
        | true =>
          simp only [go_sem, simprocAttr, List.append_eq, List.cons_append, List.nil_append, Bool.true_and, Bool.false_and, Bool.and_true, Bool.and_false, Bool.or_true, Bool.true_or, Bool.false_or, Bool.not_true, Bool.not_false]
          refine wgXq_do rfl rfl rfl ?_
          refine plain_ok (N := 3000) (cmpq_does (vx := .a [.v (.int .i64 r.ask.ver), .v (.int .i64 r.ask.days), .v (.int .i64 r.ask.cls)]) (vy := .a [.v (.int .i64 0), .v (.int .i64 0), .v (.int .i64 0)]) (r := askB r.ask noA) rfl rfl rfl (fun w => askq_guard _ _ r.ask noA w) (fun w => askq_eql r.ask noA w) (dk rfl)) (QOk_body _ _ _) (by first | exact .inl rfl | exact .inr ⟨_, _, rfl, rfl⟩) ?_
          rintro _ rfl
          cases askB r.ask noA with
          | false =>
            simp only [go_sem, simprocAttr, List.append_eq, List.cons_append, List.nil_append, Bool.true_and, Bool.false_and, Bool.and_true, Bool.and_false, Bool.or_true, Bool.true_or, Bool.false_or, Bool.not_true, Bool.not_false]
            refine fin_ret (G := G0) Tryd.results13 ?_
            simp only [go_sem, simprocAttr]
            intro aa w' _ _
            rfl
          | true =>
            simp only [go_sem, simprocAttr, List.append_eq, List.cons_append, List.nil_append, Bool.true_and, Bool.false_and, Bool.and_true, Bool.and_false, Bool.or_true, Bool.true_or, Bool.false_or, Bool.not_true, Bool.not_false]
            refine plain_ok (N := 3000) (call_does (fun y _ => y = .bool (nothingB r.part)) rfl rfl (by kernel_rfl) rfl (dk rfl) (fun G hG => nothing_does (x := r.part) hG.wf (h.p.mono (hG.le G0 (by simp))))) (QOk_body _ _ _) (by first | exact .inl rfl | exact .inr ⟨_, _, rfl, rfl⟩) ?_
            rintro _ ⟨_, G3, rfl, hn3, rfl⟩
            clear hn3
            cases nothingB r.part with
            | false =>
              simp only [go_sem, simprocAttr, List.append_eq, List.cons_append, List.nil_append, Bool.true_and, Bool.false_and, Bool.and_true, Bool.and_false, Bool.or_true, Bool.true_or, Bool.false_or, Bool.not_true, Bool.not_false]
              refine fin_ret (G := G0) Tryd.results13 ?_
              simp only [go_sem, simprocAttr]
              intro aa w' _ _
              rfl
            | true =>
              simp only [go_sem, simprocAttr, List.append_eq, List.cons_append, List.nil_append, Bool.true_and, Bool.false_and, Bool.and_true, Bool.and_false, Bool.or_true, Bool.true_or, Bool.false_or, Bool.not_true, Bool.not_false]
              refine fin_ret (G := G0) Tryd.results13 ?_
              simp only [go_sem, simprocAttr]
              intro aa w' _ _
              rfl
end Go.Proofs.YtohdfcnjcpjdcaaDoor
