/- Two readings of one state are told the same. Conditions: as each law states them. -/
import Derived.Test.YtohdfcnjcpjdcaaGreatDoorWCq
namespace Go.Proofs.YtohdfcnjcpjdcaaGreatDoor
open Go.RowKit
set_option linter.unusedSimpArgs false
/-- two structs, compared, taken first -/
theorem take_neq {P : Program} {E : Env} {σ : St} {o : Oper} {rec_ : Cmd → St → Prop} {dr : Dr} {q : Nat} {p : Plan} {ty t2 : TypeId} {x y : Operand} {vx vy : SV} {r : Bool} (ho : o.op = .binOp .neq ty x y t2) (hx : ev σ x = some vx) (hy : ev σ y = some vy)
  (hg : ∀ w, (eqGuard .neq ty x y vx.den vy.den).run P w = .ok () w) (hb : ∀ w, (binOp .neq ty vx.den vy.den).run P w = .ok (.bool r) w) (hd : dOk E o.dst) (h : rec_ (dr.next q p) (σ.put o.dst (.c (.v (.bool r))))) : TakeStop P E rec_ dr q p o σ := by
 refine ⟨.c (.v (.bool r)), hd, fun a w hr => ?_, h⟩
 have hx' : a.eval x = vx.den := ev_den hr hx
 have hy' : a.eval y = vy.den := ev_den hr hy
 show (execOp a.eval o).run P w = .ok (.value (.bool r)) w
 unfold execOp
 simp only [ho, hx', hy', hg, hb, Sem.run_bind, Sem.run_pure, Result.andThen_ok]
theorem eqF_cons {P : Program} {w : World} (d : Nat) (xs ys : Array Value) (f : Field) (fs : List Field) {x y : Value} {b : Bool} (hn : f.name ≠ "_") (hx : ∀ w, (part f.type xs f.offset).run P w = .ok x w) (hy : ∀ w, (part f.type ys f.offset).run P w = .ok y w) (he : ∀ w, (Op.equalIn d f.type x y).run P w = .ok b w) :
  (Op.eqFields d xs ys (f :: fs)).run P w = if b then (Op.eqFields d xs ys fs).run P w else .ok false w := by
 simp only [Op.eqFields, Sem.run_bind, Sem.run_ite, if_pos hn, hx, hy, he, Result.andThen_ok]
 cases b <;> simp
def rulA (a : Rul) : Value := .agg #[.string a.pre, .int .i64 a.freeze, .int .i64 a.drop]
def bktA (a : Bkt) : Value := .agg #[.string a.name, .int .i64 a.mode, .string a.rule.pre, .int .i64 a.rule.freeze, .int .i64 a.rule.drop]
def askQ (a : Ask) : Value := .agg #[.int .i64 a.ver, .int .i64 a.days, .int .i64 a.cls]
theorem field3 {L : List Field} {p q r : TypeId × Nat × Bool} (hm : L.map (fun f => (f.type, f.offset, decide (f.name = "_"))) = [p, q, r]) : ∃ f0 f1 f2, L = [f0, f1, f2] := by
 rcases L with _ | ⟨f0, _ | ⟨f1, _ | ⟨f2, _ | ⟨f3, L⟩⟩⟩⟩
 ·cases hm
 ·simp at hm
 ·simp at hm
 ·exact ⟨_, _, _, rfl⟩
 ·simp at hm
theorem rul_fields : (Tryz.prog.fieldsOf 42).toList.map (fun f => (f.type, f.offset, decide (f.name = "_"))) = [(9, 0, false), (3, 1, false), (3, 2, false)] := by kernel_rfl
theorem rul_eq_run (a b : Rul) (w : World) : (Op.equalIn 9999 42 (rulA a) (rulA b)).run Tryz.prog w = .ok ((a.pre.toList == b.pre.toList) && ((a.freeze == b.freeze) && (a.drop == b.drop))) w := by
 unfold rulA
 rw [run_equalIn_agg w 9998 42 _ _ (by kernel_rfl) (by kernel_rfl)]
 have hi : ∀ (x y : Int) w, (Op.equalIn 9998 3 (.int .i64 x) (.int .i64 y)).run Tryz.prog w = .ok (x == y) w := fun x y w => run_equalIn_int w 9997 3 .i64 .i64 x y (by kernel_rfl)
 have hs : ∀ (x y : ByteArray) w, (Op.equalIn 9998 9 (.string x) (.string y)).run Tryz.prog w = .ok (x.toList == y.toList) w := fun x y w => run_equalIn_string w 9997 9 x y (by kernel_rfl)
 have hm := rul_fields
 generalize (Tryz.prog.fieldsOf 42).toList = L at hm ⊢
 obtain ⟨f0, f1, f2, rfl⟩ := field3 hm
 simp only [List.map_cons, List.map_nil, List.cons.injEq, Prod.mk.injEq, decide_eq_false_iff_not, and_true] at hm
 obtain ⟨⟨t0, o0, n0⟩, ⟨t1, o1, n1⟩, ⟨t2, o2, n2⟩⟩ := hm
 rw [eqF_cons 9998 _ _ f0 _ (x := .string a.pre) (y := .string b.pre) (b := (a.pre.toList == b.pre.toList)) n0 (fun w => by rw [t0, o0]; kernel_rfl) (fun w => by rw [t0, o0]; kernel_rfl) (fun w => by rw [t0]; exact hs _ _ w)]
 rw [eqF_cons 9998 _ _ f1 _ (x := .int .i64 a.freeze) (y := .int .i64 b.freeze) (b := (a.freeze == b.freeze)) n1 (fun w => by rw [t1, o1]; kernel_rfl) (fun w => by rw [t1, o1]; kernel_rfl) (fun w => by rw [t1]; exact hi _ _ w)]
 rw [eqF_cons 9998 _ _ f2 _ (x := .int .i64 a.drop) (y := .int .i64 b.drop) (b := (a.drop == b.drop)) n2 (fun w => by rw [t2, o2]; kernel_rfl) (fun w => by rw [t2, o2]; kernel_rfl) (fun w => by rw [t2]; exact hi _ _ w)]
 cases (a.pre.toList == b.pre.toList) <;> cases (a.freeze == b.freeze) <;> cases (a.drop == b.drop) <;> simp [Op.eqFields]
theorem bkt_fields : (Tryz.prog.fieldsOf 83).toList.map (fun f => (f.type, f.offset, decide (f.name = "_"))) = [(9, 0, false), (3, 1, false), (42, 2, false)] := by kernel_rfl
theorem bkt_eq_run (a b : Bkt) (w : World) : (Op.equalIn 10000 83 (bktA a) (bktA b)).run Tryz.prog w = .ok ((a.name.toList == b.name.toList) && ((a.mode == b.mode) && ((a.rule.pre.toList == b.rule.pre.toList) && ((a.rule.freeze == b.rule.freeze) && (a.rule.drop == b.rule.drop))))) w := by
 unfold bktA
 rw [run_equalIn_agg w 9999 83 _ _ (by kernel_rfl) (by kernel_rfl)]
 have hi : ∀ (x y : Int) w, (Op.equalIn 9999 3 (.int .i64 x) (.int .i64 y)).run Tryz.prog w = .ok (x == y) w := fun x y w => run_equalIn_int w 9998 3 .i64 .i64 x y (by kernel_rfl)
 have hs : ∀ (x y : ByteArray) w, (Op.equalIn 9999 9 (.string x) (.string y)).run Tryz.prog w = .ok (x.toList == y.toList) w := fun x y w => run_equalIn_string w 9998 9 x y (by kernel_rfl)
 have hm := bkt_fields
 generalize (Tryz.prog.fieldsOf 83).toList = L at hm ⊢
 obtain ⟨f0, f1, f2, rfl⟩ := field3 hm
 simp only [List.map_cons, List.map_nil, List.cons.injEq, Prod.mk.injEq, decide_eq_false_iff_not, and_true] at hm
 obtain ⟨⟨t0, o0, n0⟩, ⟨t1, o1, n1⟩, ⟨t2, o2, n2⟩⟩ := hm
 rw [eqF_cons 9999 _ _ f0 _ (x := .string a.name) (y := .string b.name) (b := (a.name.toList == b.name.toList)) n0 (fun w => by rw [t0, o0]; kernel_rfl) (fun w => by rw [t0, o0]; kernel_rfl) (fun w => by rw [t0]; exact hs _ _ w)]
 rw [eqF_cons 9999 _ _ f1 _ (x := .int .i64 a.mode) (y := .int .i64 b.mode) (b := (a.mode == b.mode)) n1 (fun w => by rw [t1, o1]; kernel_rfl) (fun w => by rw [t1, o1]; kernel_rfl) (fun w => by rw [t1]; exact hi _ _ w)]
 rw [eqF_cons 9999 _ _ f2 _ (x := rulA a.rule) (y := rulA b.rule) (b := ((a.rule.pre.toList == b.rule.pre.toList) && ((a.rule.freeze == b.rule.freeze) && (a.rule.drop == b.rule.drop)))) n2 (fun w => by rw [t2, o2]; kernel_rfl) (fun w => by rw [t2, o2]; kernel_rfl) (fun w => by rw [t2]; exact rul_eq_run _ _ w)]
 cases (a.name.toList == b.name.toList) <;> cases (a.mode == b.mode) <;> cases ((a.rule.pre.toList == b.rule.pre.toList) && ((a.rule.freeze == b.rule.freeze) && (a.rule.drop == b.rule.drop))) <;> simp [Op.eqFields]
theorem askQ_fields : (Tryz.prog.fieldsOf 46).toList.map (fun f => (f.type, f.offset, decide (f.name = "_"))) = [(3, 0, false), (3, 1, false), (3, 2, false)] := by kernel_rfl
theorem askQ_eq_run (a b : Ask) (w : World) : (Op.equalIn 10000 46 (askQ a) (askQ b)).run Tryz.prog w = .ok ((a.ver == b.ver) && ((a.days == b.days) && (a.cls == b.cls))) w := by
 unfold askQ
 rw [run_equalIn_agg w 9999 46 _ _ (by kernel_rfl) (by kernel_rfl)]
 have hi : ∀ (x y : Int) w, (Op.equalIn 9999 3 (.int .i64 x) (.int .i64 y)).run Tryz.prog w = .ok (x == y) w := fun x y w => run_equalIn_int w 9998 3 .i64 .i64 x y (by kernel_rfl)
 have hs : ∀ (x y : ByteArray) w, (Op.equalIn 9999 9 (.string x) (.string y)).run Tryz.prog w = .ok (x.toList == y.toList) w := fun x y w => run_equalIn_string w 9998 9 x y (by kernel_rfl)
 have hm := askQ_fields
 generalize (Tryz.prog.fieldsOf 46).toList = L at hm ⊢
 obtain ⟨f0, f1, f2, rfl⟩ := field3 hm
 simp only [List.map_cons, List.map_nil, List.cons.injEq, Prod.mk.injEq, decide_eq_false_iff_not, and_true] at hm
 obtain ⟨⟨t0, o0, n0⟩, ⟨t1, o1, n1⟩, ⟨t2, o2, n2⟩⟩ := hm
 rw [eqF_cons 9999 _ _ f0 _ (x := .int .i64 a.ver) (y := .int .i64 b.ver) (b := (a.ver == b.ver)) n0 (fun w => by rw [t0, o0]; kernel_rfl) (fun w => by rw [t0, o0]; kernel_rfl) (fun w => by rw [t0]; exact hi _ _ w)]
 rw [eqF_cons 9999 _ _ f1 _ (x := .int .i64 a.days) (y := .int .i64 b.days) (b := (a.days == b.days)) n1 (fun w => by rw [t1, o1]; kernel_rfl) (fun w => by rw [t1, o1]; kernel_rfl) (fun w => by rw [t1]; exact hi _ _ w)]
 rw [eqF_cons 9999 _ _ f2 _ (x := .int .i64 a.cls) (y := .int .i64 b.cls) (b := (a.cls == b.cls)) n2 (fun w => by rw [t2, o2]; kernel_rfl) (fun w => by rw [t2, o2]; kernel_rfl) (fun w => by rw [t2]; exact hi _ _ w)]
 cases (a.ver == b.ver) <;> cases (a.days == b.days) <;> cases (a.cls == b.cls) <;> simp [Op.eqFields]
theorem bkt_same (a : Bkt) (w : World) : (binOp .neq 83 (bktA a) (bktA a)).run Tryz.prog w = .ok (.bool false) w := by
 have h := bkt_eq_run a a w
 unfold bktA at h ⊢
 rw [run_neq_struct, h]
 simp
theorem bkt_guard (x y : Operand) (a : Bkt) (w : World) : (eqGuard .neq 83 x y (bktA a) (bktA a)).run Tryz.prog w = .ok () w := run_eqGuard_agg w .neq _ x y _ _ (by kernel_rfl)
theorem askQ_same (a : Ask) (w : World) : (binOp .neq 46 (askQ a) (askQ a)).run Tryz.prog w = .ok (.bool false) w := by
 have h := askQ_eq_run a a w
 unfold askQ at h ⊢
 rw [run_neq_struct, h]
 simp
theorem askQ_guard (x y : Operand) (a : Ask) (w : World) : (eqGuard .neq 46 x y (askQ a) (askQ a)).run Tryz.prog w = .ok () w := run_eqGuard_agg w .neq _ x y _ _ (by kernel_rfl)
set_option maxRecDepth 100000 in
set_option maxHeartbeats 16000000 in
theorem sameState_does {s : Sta} {av bv : Value} {G0 : GW} (hW : G0.Wf) (ha : StaG G0 av s) (hb : StaG G0 bv s) :
  Calls Tryz.prog 12 #[av, bv] G0.w (Ret G0 fun y _ => y = .bool true) := by
 obtain ⟨A1, c1, A2, c2, A3, c3, A4, c4, A5, c5, rfl, hP⟩ := ha.form
 obtain ⟨B1, d1, B2, d2, B3, d3, B4, d4, B5, d5, rfl, hQ⟩ := hb.form
 have hml := max_le
 obtain ⟨_, _, eb, hb1, hb2⟩ := Sq.form hP.bkts
 cases eb
 obtain ⟨_, _, ev, hv1, hv2⟩ := Sq.form hP.vers
 cases ev
 obtain ⟨_, _, eu, hu1, hu2⟩ := Sq.form hP.upls
 cases eu
 obtain ⟨_, _, eq, hq1, hq2⟩ := Sq.form hP.queue
 cases eq
 refine enterS (G := G0) (n := 187) 3000 hW Tryz.func12 rfl Tryz.ntmps12 (by simp) ?_
 simp only [go_sem, simprocAttr]
 intro g1 g2
 refine pk (call_does (fun y _ => y = .bool true) rfl rfl (by kernel_rfl) rfl (dk rfl) (fun G hG => sameInts_does hG.wf (hP.gone.mono (hG.le G0 (by simp))) (hQ.gone.mono (hG.le G0 (by simp))))) ?_
 rintro _ ⟨_, G1, rfl, hn1, rfl⟩
 clear hn1
 simp only [go_sem, simprocAttr]
 refine loop_ok (N := 3000) (ι := Nat) (fun i => ⟨[(2, .c (.p 0 g1 0)), (3, .c (.p 1 g2 0)), (70, .c (.v (.int .i64 (s.bkts.length : Int)))), (71, .c (.v (.int .i64 (i : Int))))], [⟨1, g2, 29, [.v (.int .i64 s.next), .v (.int .i64 s.clock), .v (.slice B1 s.bkts.length d1), .v (.slice B2 s.vers.length d2), .v (.slice B3 s.upls.length d3), .v (.slice B4 s.queue.length d4), .v (.slice B5 s.gone.length d5)]⟩, ⟨0, g1, 29, [.v (.int .i64 s.next), .v (.int .i64 s.clock), .v (.slice A1 s.bkts.length c1), .v (.slice A2 s.vers.length c2), .v (.slice A3 s.upls.length c3), .v (.slice A4 s.queue.length c4), .v (.slice A5 s.gone.length c5)]⟩], [], [], [G0], 2⟩)
  (fun i => i ≤ s.bkts.length) (fun i => s.bkts.length - i) (QOk_body _ _ _) 0 (Nat.zero_le _) (by simp only [go_sem, simprocAttr]; simp) ?_
 rintro i1 hi1
 by_cases hlt1 : i1 < s.bkts.length
 ·have q : decide ((i1 : Int) < (s.bkts.length : Int)) = true := decide_eq_true (by omega)
  obtain ⟨x, hx⟩ : ∃ x, s.bkts[i1]? = some x := ⟨_, List.getElem?_eq_getElem hlt1⟩
  simp only [go_sem, simprocAttr, q]
  refine preview_ok (R := BktG) (kc := 5) hx (fun G hG => (Sq.mono hP.bkts bktG_mono (hG G0 (by simp))).sc) fun h1 o1 cs1 G1 hA hcl1 hcs1 hle1 => ?_
  subst hA
  obtain ⟨rfl, _, _⟩ := hcs1
  simp only [go_sem, simprocAttr]
  refine preview_ok (R := BktG) (kc := 5) hx (fun G hG => (Sq.mono hQ.bkts bktG_mono (hG G0 (by simp))).sc) fun h2 o2 cs2 G2 hB hcl2 hcs2 hle2 => ?_
  subst hB
  obtain ⟨rfl, _, _⟩ := hcs2
  simp only [go_sem, simprocAttr]
  refine draw_ok (N := 3000) (.take 0 (.take 1 (.take 2 (.take 3 (.take 4 (.take 5 (.take 6 (.take 7 (.take 8 (.take 9 (.take 10 .done))))))))))) [] (QOk_body _ _ _) follows_mixed (by kernel_rfl) (by kernel_rfl) ?_
  simp only [go_sem, simprocAttr]
  refine take_elem 2 (m := i1) rfl tySlice23 tySize83 rfl rfl (dk rfl) rfl hlt1 ?_
  simp only [go_sem, simprocAttr]
  refine take_elem 3 (m := i1) rfl tySlice23 tySize83 rfl rfl (dk rfl) rfl hlt1 ?_
  simp only [go_sem, simprocAttr]
  refine (show TakeStop _ _ _ _ _ _ _ _ from ?_)
  refine take_neq (vx := .a [.v (.string x.name), .v (.int .i64 x.mode), .v (.string x.rule.pre), .v (.int .i64 x.rule.freeze), .v (.int .i64 x.rule.drop)]) (vy := .a [.v (.string x.name), .v (.int .i64 x.mode), .v (.string x.rule.pre), .v (.int .i64 x.rule.freeze), .v (.int .i64 x.rule.drop)]) (r := false) rfl rfl rfl (fun w => bkt_guard _ _ x w) (fun w => bkt_same x w) (dk rfl) ?_
  simp only [go_sem, simprocAttr]
  exact ⟨by omega, again_ok (i1 + 1) hlt1 (by show s.bkts.length - (i1 + 1) < s.bkts.length - i1; omega) (by simp only [go_sem, simprocAttr]; simp)⟩
 have q1 : decide ((i1 : Int) < (s.bkts.length : Int)) = false := decide_eq_false (by omega)
 simp only [go_sem, simprocAttr, q1]
 refine loop_ok (N := 3000) (ι := Nat) (fun i => ⟨[(2, .c (.p 0 g1 0)), (3, .c (.p 1 g2 0)), (88, .c (.v (.int .i64 (s.vers.length : Int)))), (89, .c (.v (.int .i64 (i : Int))))], [⟨1, g2, 29, [.v (.int .i64 s.next), .v (.int .i64 s.clock), .v (.slice B1 s.bkts.length d1), .v (.slice B2 s.vers.length d2), .v (.slice B3 s.upls.length d3), .v (.slice B4 s.queue.length d4), .v (.slice B5 s.gone.length d5)]⟩, ⟨0, g1, 29, [.v (.int .i64 s.next), .v (.int .i64 s.clock), .v (.slice A1 s.bkts.length c1), .v (.slice A2 s.vers.length c2), .v (.slice A3 s.upls.length c3), .v (.slice A4 s.queue.length c4), .v (.slice A5 s.gone.length c5)]⟩], [], [], [G0], 2⟩)
  (fun i => i ≤ s.vers.length) (fun i => s.vers.length - i) (QOk_body _ _ _) 0 (Nat.zero_le _) (by simp only [go_sem, simprocAttr]; simp) ?_
 rintro i2 hi2
 by_cases hlt2 : i2 < s.vers.length
 ·have q : decide ((i2 : Int) < (s.vers.length : Int)) = true := decide_eq_true (by omega)
  obtain ⟨x, hx⟩ : ∃ x, s.vers[i2]? = some x := ⟨_, List.getElem?_eq_getElem hlt2⟩
  simp only [go_sem, simprocAttr, q]
  refine preview_ok (R := VerG) (kc := 12) hx (fun G hG => (Sq.mono hP.vers verG_mono (hG G0 (by simp))).sc) fun h1 o1 cs1 G1 hA hcl1 hcs1 hle1 => ?_
  subst hA
  obtain ⟨sv1, rfl, hs1, _, _⟩ := hcs1
  simp only [go_sem, simprocAttr]
  refine preview_ok (R := VerG) (kc := 12) hx (fun G hG => (Sq.mono hQ.vers verG_mono (hG G0 (by simp))).sc) fun h2 o2 cs2 G2 hB hcl2 hcs2 hle2 => ?_
  subst hB
  obtain ⟨sv2, rfl, hs2, _, _⟩ := hcs2
  simp only [go_sem, simprocAttr]
  obtain ⟨S1, e1, rfl, _, _⟩ := Sq.form hs1
  obtain ⟨S2, e2, rfl, _, _⟩ := Sq.form hs2
  refine draw_ok (N := 3000) (.take 0 (.take 1 (.take 2 (.take 3 (.take 4 (.take 5 (.take 6 (.take 7 (.take 8 (.take 9 (.alt 10 (.take 11 .done) .last))))))))))) [] (QOk_body _ _ _) follows_mixed (by kernel_rfl) (by kernel_rfl) ?_
  simp only [go_sem, simprocAttr, verV]
  refine take_elem 2 (m := i2) rfl tySlice24 tySize44 rfl rfl (dk rfl) rfl hlt2 ?_
  simp only [go_sem, simprocAttr]
  refine take_elem 3 (m := i2) rfl tySlice24 tySize44 rfl rfl (dk rfl) rfl hlt2 ?_
  simp only [go_sem, simprocAttr]
  refine anyc_ok (N := 3000) (call_does (fun y _ => y = .bool true) rfl rfl (by kernel_rfl) rfl (dk rfl) (fun G hG => sameVersion_does hG.wf (hs1.mono (hG.le G1 (by simp))) (hs2.mono (hG.le G2 (by simp))))) (QOk_body _ _ _) rfl (by first | exact .inl rfl | exact .inr ⟨_, _, rfl, rfl⟩) ?_
  rintro _ ⟨_, G3, rfl, hn3, rfl⟩
  clear hn3
  simp only [go_sem, simprocAttr]
  exact ⟨by omega, again_ok (i2 + 1) hlt2 (by show s.vers.length - (i2 + 1) < s.vers.length - i2; omega) (by simp only [go_sem, simprocAttr]; simp)⟩
 have q2 : decide ((i2 : Int) < (s.vers.length : Int)) = false := decide_eq_false (by omega)
 simp only [go_sem, simprocAttr, q2]
 refine loop_ok (N := 3000) (ι := Nat) (fun i => ⟨[(2, .c (.p 0 g1 0)), (3, .c (.p 1 g2 0)), (107, .c (.v (.int .i64 (s.upls.length : Int)))), (108, .c (.v (.int .i64 (i : Int))))], [⟨1, g2, 29, [.v (.int .i64 s.next), .v (.int .i64 s.clock), .v (.slice B1 s.bkts.length d1), .v (.slice B2 s.vers.length d2), .v (.slice B3 s.upls.length d3), .v (.slice B4 s.queue.length d4), .v (.slice B5 s.gone.length d5)]⟩, ⟨0, g1, 29, [.v (.int .i64 s.next), .v (.int .i64 s.clock), .v (.slice A1 s.bkts.length c1), .v (.slice A2 s.vers.length c2), .v (.slice A3 s.upls.length c3), .v (.slice A4 s.queue.length c4), .v (.slice A5 s.gone.length c5)]⟩], [], [], [G0], 2⟩)
  (fun i => i ≤ s.upls.length) (fun i => s.upls.length - i) (QOk_body _ _ _) 0 (Nat.zero_le _) (by simp only [go_sem, simprocAttr]; simp) ?_
 rintro i3 hi3
 by_cases hlt3 : i3 < s.upls.length
 ·have q : decide ((i3 : Int) < (s.upls.length : Int)) = true := decide_eq_true (by omega)
  obtain ⟨x, hx⟩ : ∃ x, s.upls[i3]? = some x := ⟨_, List.getElem?_eq_getElem hlt3⟩
  simp only [go_sem, simprocAttr, q]
  refine pk (elem_does (R := UplG) (l := s.upls) (m := i3) rfl tySlice25 tySize86 rfl rfl (dk rfl) rfl hx (fun G hG => Sq.mono hP.upls uplG_mono (hG.le G0 (by simp)))) ?_
  rintro _ ⟨gx1, ox1, cs1, GE1, hcl1, hcs1, rfl⟩
  obtain ⟨pv1, rfl, hp1, _, _⟩ := hcs1
  obtain ⟨P1, k1, rfl, _⟩ := Sq.form hp1
  simp only [go_sem, simprocAttr]
  intro gu1
  refine pk (elem_does (R := UplG) (l := s.upls) (m := i3) rfl tySlice25 tySize86 rfl rfl (dk rfl) rfl hx (fun G hG => Sq.mono hQ.upls uplG_mono (hG.le G0 (by simp)))) ?_
  rintro _ ⟨gx2, ox2, cs2, GE2, hcl2, hcs2, rfl⟩
  obtain ⟨pv2, rfl, hp2, _, _⟩ := hcs2
  obtain ⟨P2, k2, rfl, _⟩ := Sq.form hp2
  simp only [go_sem, simprocAttr]
  intro gu2
  obtain ⟨_, _, ep, hl1, hl2⟩ := Sq.form hp1
  cases ep
  refine loop_ok (N := 3000) (ι := Nat) (fun i => ⟨[(2, .c (.p 0 g1 0)), (3, .c (.p 1 g2 0)), (8, .c (.p 3 gu1 0)), (9, .c (.p 5 gu2 0)), (107, .c (.v (.int .i64 (s.upls.length : Int)))), (108, .c (.v (.int .i64 (i3 : Int)))), (151, .c (.v (.int .i64 (x.parts.length : Int)))), (152, .c (.v (.int .i64 (i : Int))))], [⟨5, gu2, 86, [.v (.int .i64 x.id), .v (.string x.bucket), .v (.string x.key), .v (.slice P2 x.parts.length k2)]⟩, ⟨3, gu1, 86, [.v (.int .i64 x.id), .v (.string x.bucket), .v (.string x.key), .v (.slice P1 x.parts.length k1)]⟩, ⟨1, g2, 29, [.v (.int .i64 s.next), .v (.int .i64 s.clock), .v (.slice B1 s.bkts.length d1), .v (.slice B2 s.vers.length d2), .v (.slice B3 s.upls.length d3), .v (.slice B4 s.queue.length d4), .v (.slice B5 s.gone.length d5)]⟩, ⟨0, g1, 29, [.v (.int .i64 s.next), .v (.int .i64 s.clock), .v (.slice A1 s.bkts.length c1), .v (.slice A2 s.vers.length c2), .v (.slice A3 s.upls.length c3), .v (.slice A4 s.queue.length c4), .v (.slice A5 s.gone.length c5)]⟩], [], [], [GE2, GE1, G0], 6⟩)
   (fun i => i ≤ x.parts.length) (fun i => x.parts.length - i) (QOk_body _ _ _) 0 (Nat.zero_le _) (by simp only [go_sem, simprocAttr]; simp) ?_
  rintro i4 hi4
  by_cases hlt4 : i4 < x.parts.length
  ·have q : decide ((i4 : Int) < (x.parts.length : Int)) = true := decide_eq_true (by omega)
   obtain ⟨y, hy⟩ : ∃ y, x.parts[i4]? = some y := ⟨_, List.getElem?_eq_getElem hlt4⟩
   simp only [go_sem, simprocAttr, q]
   refine preview_ok (R := PrtG) (kc := 3) hy (fun G hG => (Sq.mono hp1 prtG_mono (hG GE1 (by simp))).sc) fun h1 o1 cs1 G1 hA hcl1 hcs1 hle1 => ?_
   subst hA
   obtain ⟨sv1, rfl, hs1⟩ := hcs1
   simp only [go_sem, simprocAttr]
   refine preview_ok (R := PrtG) (kc := 3) hy (fun G hG => (Sq.mono hp2 prtG_mono (hG GE2 (by simp))).sc) fun h2 o2 cs2 G2 hB hcl2 hcs2 hle2 => ?_
   subst hB
   obtain ⟨sv2, rfl, hs2⟩ := hcs2
   simp only [go_sem, simprocAttr]
   obtain ⟨S1, e1, rfl, _, _⟩ := Sq.form hs1
   obtain ⟨S2, e2, rfl, _, _⟩ := Sq.form hs2
   refine draw_ok (N := 3000) (.take 0 (.take 1 (.take 2 (.take 3 (.take 4 (.take 5 (.take 6 (.take 7 (.take 8 (.take 9 (.alt 10 (.take 11 .done) .last))))))))))) [] (QOk_body _ _ _) follows_mixed (by kernel_rfl) (by kernel_rfl) ?_
   simp only [go_sem, simprocAttr]
   refine take_elem 6 (m := i4) rfl tySlice84 tySize48 rfl rfl (dk rfl) rfl hlt4 ?_
   simp only [go_sem, simprocAttr]
   refine take_elem 7 (m := i4) rfl tySlice84 tySize48 rfl rfl (dk rfl) rfl hlt4 ?_
   simp only [go_sem, simprocAttr]
   refine anyc_ok (N := 3000) (call_does (fun y _ => y = .bool true) rfl rfl (by kernel_rfl) rfl (dk rfl) (fun G hG => samePart_does hG.wf (hs1.mono (hG.le G1 (by simp))) (hs2.mono (hG.le G2 (by simp))))) (QOk_body _ _ _) rfl (by first | exact .inl rfl | exact .inr ⟨_, _, rfl, rfl⟩) ?_
   rintro _ ⟨_, G3, rfl, hn3, rfl⟩
   clear hn3
   simp only [go_sem, simprocAttr]
   exact ⟨by omega, again_ok (i4 + 1) hlt4 (by show x.parts.length - (i4 + 1) < x.parts.length - i4; omega) (by simp only [go_sem, simprocAttr]; simp)⟩
  have q4 : decide ((i4 : Int) < (x.parts.length : Int)) = false := decide_eq_false (by omega)
  simp only [go_sem, simprocAttr, q4]
  exact ⟨by omega, again_ok (i3 + 1) hlt3 (by show s.upls.length - (i3 + 1) < s.upls.length - i3; omega) (by simp only [go_sem, simprocAttr]; simp)⟩
 have q3 : decide ((i3 : Int) < (s.upls.length : Int)) = false := decide_eq_false (by omega)
 simp only [go_sem, simprocAttr, q3]
 refine loop_ok (N := 3000) (ι := Nat) (fun i => ⟨[(2, .c (.p 0 g1 0)), (3, .c (.p 1 g2 0)), (171, .c (.v (.int .i64 (s.queue.length : Int)))), (172, .c (.v (.int .i64 (i : Int))))], [⟨1, g2, 29, [.v (.int .i64 s.next), .v (.int .i64 s.clock), .v (.slice B1 s.bkts.length d1), .v (.slice B2 s.vers.length d2), .v (.slice B3 s.upls.length d3), .v (.slice B4 s.queue.length d4), .v (.slice B5 s.gone.length d5)]⟩, ⟨0, g1, 29, [.v (.int .i64 s.next), .v (.int .i64 s.clock), .v (.slice A1 s.bkts.length c1), .v (.slice A2 s.vers.length c2), .v (.slice A3 s.upls.length c3), .v (.slice A4 s.queue.length c4), .v (.slice A5 s.gone.length c5)]⟩], [], [], [G0], 2⟩)
  (fun i => i ≤ s.queue.length) (fun i => s.queue.length - i) (QOk_body _ _ _) 0 (Nat.zero_le _) (by simp only [go_sem, simprocAttr]; simp) ?_
 rintro i5 hi5
 by_cases hlt5 : i5 < s.queue.length
 ·have q : decide ((i5 : Int) < (s.queue.length : Int)) = true := decide_eq_true (by omega)
  obtain ⟨x, hx⟩ : ∃ x, s.queue[i5]? = some x := ⟨_, List.getElem?_eq_getElem hlt5⟩
  simp only [go_sem, simprocAttr, q]
  refine preview_ok (R := AskG) (kc := 3) hx (fun G hG => (Sq.mono hP.queue askG_mono (hG G0 (by simp))).sc) fun h1 o1 cs1 G1 hA hcl1 hcs1 hle1 => ?_
  subst hA
  obtain rfl := hcs1
  simp only [go_sem, simprocAttr]
  refine preview_ok (R := AskG) (kc := 3) hx (fun G hG => (Sq.mono hQ.queue askG_mono (hG G0 (by simp))).sc) fun h2 o2 cs2 G2 hB hcl2 hcs2 hle2 => ?_
  subst hB
  obtain rfl := hcs2
  simp only [go_sem, simprocAttr]
  refine draw_ok (N := 3000) (.take 0 (.take 1 (.take 2 (.take 3 (.take 4 (.take 5 (.take 6 (.take 7 (.take 8 (.take 9 (.take 10 .done))))))))))) [] (QOk_body _ _ _) follows_mixed (by kernel_rfl) (by kernel_rfl) ?_
  simp only [go_sem, simprocAttr]
  refine take_elem 2 (m := i5) rfl tySlice26 tySize46 rfl rfl (dk rfl) rfl hlt5 ?_
  simp only [go_sem, simprocAttr]
  refine take_elem 3 (m := i5) rfl tySlice26 tySize46 rfl rfl (dk rfl) rfl hlt5 ?_
  simp only [go_sem, simprocAttr]
  refine (show TakeStop _ _ _ _ _ _ _ _ from ?_)
  refine take_neq (vx := .a [.v (.int .i64 x.ver), .v (.int .i64 x.days), .v (.int .i64 x.cls)]) (vy := .a [.v (.int .i64 x.ver), .v (.int .i64 x.days), .v (.int .i64 x.cls)]) (r := false) rfl rfl rfl (fun w => askQ_guard _ _ x w) (fun w => askQ_same x w) (dk rfl) ?_
  simp only [go_sem, simprocAttr]
  exact ⟨by omega, again_ok (i5 + 1) hlt5 (by show s.queue.length - (i5 + 1) < s.queue.length - i5; omega) (by simp only [go_sem, simprocAttr]; simp)⟩
 have q5 : decide ((i5 : Int) < (s.queue.length : Int)) = false := decide_eq_false (by omega)
 simp only [go_sem, simprocAttr, q5]
 refine fin_ret (G := G0) Tryz.results12 ?_
 simp only [go_sem, simprocAttr]
 intro aa w' _ hle
 rfl
end Go.Proofs.YtohdfcnjcpjdcaaGreatDoor
