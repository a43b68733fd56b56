/- list.Keys. Conditions: as each law states them. -/
import Derived.Test.YtohdfcnjcpjdcaaGreatVBw
import Derived.Test.YtohdfcnjcpjdcaaGreatLBw
namespace Go.Proofs.YtohdfcnjcpjdcaaGreat
open Go.RowKit
set_option linter.unusedSimpArgs false
/-! ### in plain words -/
def cutI (pre k : ByteArray) (c : UInt8) : Int := Lib.indexByte (k.extract pre.size k.size).data.toList c
def rowD (d : Option UInt8) (pre : ByteArray) (v : Ver) : RowM := match d with
 | none => rowV v true
 | some c => if 0 ≤ cutI pre v.key c then ⟨v.key.extract 0 (pre.size + (cutI pre v.key c).toNat + 1), true, 0, false, false, 0, 0⟩ else rowV v true
def rowSame (a b : RowM) : Bool := (a.key.toList == b.key.toList) && ((a.common == b.common) && ((a.id == b.id) && ((a.marker == b.marker) && ((a.latest == b.latest) && ((a.size == b.size) && (a.tier == b.tier))))))
def leB (a b : ByteArray) : Bool := Op.bytesLess a.toList b.toList || a.toList == b.toList
def lastSame (out : List RowM) (r : RowM) : Bool := match out.getLast? with
 | none => false
 | some x => rowSame x r
def putK (after : ByteArray) (out : List RowM) (r : RowM) : List RowM := if (leB r.key after || lastSame out r) = true then out else out ++ [r]
def stepK (d : Option UInt8) (pre after : ByteArray) (out : List RowM) (g : List Ver) : List RowM := match g with
 | [] => out
 | v :: _ => if v.marker = true then out else putK after out (rowD d pre v)
def keysRows (d : Option UInt8) (pre after : ByteArray) (gs : List (List Ver)) : List RowM := gs.foldl (stepK d pre after) []
theorem keysRows_succ {d : Option UInt8} {pre after : ByteArray} {gs : List (List Ver)} {i : Nat} {g : List Ver} (h : gs[i]? = some g) : keysRows d pre after (gs.take (i + 1)) = stepK d pre after (keysRows d pre after (gs.take i)) g := by
 unfold keysRows
 rw [List.take_add_one, h, List.foldl_append]
 rfl
theorem stepK_len (d : Option UInt8) (pre after : ByteArray) (out : List RowM) (g : List Ver) : (stepK d pre after out g).length ≤ out.length + 1 := by
 unfold stepK
 split
 ·omega
 ·split
  ·omega
  ·unfold putK
   split
   ·omega
   ·rw [List.length_append]; exact Nat.le_refl _
theorem keysRows_len (d : Option UInt8) (pre after : ByteArray) (gs : List (List Ver)) : (keysRows d pre after gs).length ≤ gs.length := by
 have : ∀ (gs : List (List Ver)) (out : List RowM), (gs.foldl (stepK d pre after) out).length ≤ out.length + gs.length := by
  intro gs
  induction gs with
  | nil => intro out; exact Nat.le_refl _
  | cons g gs ih =>
   intro out
   rw [List.foldl_cons, List.length_cons]
   have := ih (stepK d pre after out g)
   have := stepK_len d pre after out g
   omega
 have := this gs []
 simpa [keysRows] using this
/-! ### rows, compared -/
section
variable {P : Program} {E : Env} {σ : St} {o : Oper}
/-- two structs, compared, taken first -/
theorem take_eql {rec_ : Cmd → St → Prop} {dr : Dr} {q : Nat} {p : Plan} {ty t2 : TypeId} {x y : Operand} {vx vy : SV} {r : Bool} (ho : o.op = .binOp .eql ty x y t2) (hx : ev σ x = some vx) (hy : ev σ y = some vy)
  (hg : ∀ w, (eqGuard .eql ty x y vx.den vy.den).run P w = .ok () w) (hb : ∀ w, (binOp .eql ty vx.den vy.den).run P w = .ok (.bool r) w) (hd : dOk E o.dst) (h : rec_ (dr.next q p) (σ.put o.dst (.c (.v (.bool r))))) : TakeStop P E rec_ dr q p o σ := by
 refine ⟨.c (.v (.bool r)), hd, fun a w hr => ?_, h⟩
 have hx' : a.eval x = vx.den := ev_den hr hx
 have hy' : a.eval y = vy.den := ev_den hr hy
 show (execOp a.eval o).run P w = .ok (.value (.bool r)) w
 unfold execOp
 simp only [ho, hx', hy', hg, hb, Sem.run_bind, Sem.run_pure, Result.andThen_ok]
end
theorem eqF_cons {P : Program} {w : World} (d : Nat) (xs ys : Array Value) (f : Field) (fs : List Field) {x y : Value} {b : Bool} (hn : f.name ≠ "_") (hx : ∀ w, (part f.type xs f.offset).run P w = .ok x w) (hy : ∀ w, (part f.type ys f.offset).run P w = .ok y w) (he : ∀ w, (Op.equalIn d f.type x y).run P w = .ok b w) :
  (Op.eqFields d xs ys (f :: fs)).run P w = if b then (Op.eqFields d xs ys fs).run P w else .ok false w := by
 simp only [Op.eqFields, Sem.run_bind, Sem.run_ite, if_pos hn, hx, hy, he, Result.andThen_ok]
 cases b <;> simp
def rowA (a : RowM) : Value := .agg #[.string a.key, .bool a.common, .int .i64 a.id, .bool a.marker, .bool a.latest, .int .i64 a.size, .int .i64 a.tier]
theorem row_fields : (Tryz.prog.fieldsOf 57).toList.map (fun f => (f.type, f.offset, decide (f.name = "_"))) = [(9, 0, false), (4, 1, false), (3, 2, false), (4, 3, false), (4, 4, false), (3, 5, false), (3, 6, false)] := by kernel_rfl
theorem field7 {L : List Field} {p0 p1 p2 p3 p4 p5 p6 : TypeId × Nat × Bool} (hm : L.map (fun f => (f.type, f.offset, decide (f.name = "_"))) = [p0, p1, p2, p3, p4, p5, p6]) : ∃ f0 f1 f2 f3 f4 f5 f6, L = [f0, f1, f2, f3, f4, f5, f6] := by
 have hl := congrArg List.length hm
 simp only [List.length_map, List.length_cons, List.length_nil] at hl
 rcases L with _ | ⟨f0, _ | ⟨f1, _ | ⟨f2, _ | ⟨f3, _ | ⟨f4, _ | ⟨f5, _ | ⟨f6, _ | ⟨f7, L⟩⟩⟩⟩⟩⟩⟩⟩ <;> simp at hl
 exact ⟨_, _, _, _, _, _, _, rfl⟩
theorem row_eq_run (a b : RowM) (w : World) : (Op.equalIn 10000 57 (rowA a) (rowA b)).run Tryz.prog w = .ok (rowSame a b) w := by
 unfold rowA
 rw [run_equalIn_agg w 9999 57 _ _ (by kernel_rfl) (by kernel_rfl)]
 have hi : ∀ (x y : Int) w, (Op.equalIn 9999 3 (.int .i64 x) (.int .i64 y)).run Tryz.prog w = .ok (x == y) w := fun x y w => run_equalIn_int w 9998 3 .i64 .i64 x y (by kernel_rfl)
 have hb : ∀ (x y : Bool) w, (Op.equalIn 9999 4 (.bool x) (.bool y)).run Tryz.prog w = .ok (x == y) w := fun x y w => run_equalIn_bool' w 9998 4 x y (by kernel_rfl)
 have hs : ∀ (x y : ByteArray) w, (Op.equalIn 9999 9 (.string x) (.string y)).run Tryz.prog w = .ok (x.toList == y.toList) w := fun x y w => run_equalIn_string w 9998 9 x y (by kernel_rfl)
 have hm := row_fields
 generalize (Tryz.prog.fieldsOf 57).toList = L at hm ⊢
 obtain ⟨f0, f1, f2, f3, f4, f5, f6, rfl⟩ := field7 hm
 simp only [List.map_cons, List.map_nil, List.cons.injEq, Prod.mk.injEq, decide_eq_false_iff_not, and_true] at hm
 obtain ⟨⟨t0, o0, n0⟩, ⟨t1, o1, n1⟩, ⟨t2, o2, n2⟩, ⟨t3, o3, n3⟩, ⟨t4, o4, n4⟩, ⟨t5, o5, n5⟩, ⟨t6, o6, n6⟩⟩ := hm
 rw [eqF_cons 9999 _ _ f0 _ (x := .string a.key) (y := .string b.key) (b := (a.key.toList == b.key.toList)) n0 (fun w => by rw [t0, o0]; kernel_rfl) (fun w => by rw [t0, o0]; kernel_rfl) (fun w => by rw [t0]; exact hs _ _ w)]
 rw [eqF_cons 9999 _ _ f1 _ (x := .bool a.common) (y := .bool b.common) (b := (a.common == b.common)) n1 (fun w => by rw [t1, o1]; kernel_rfl) (fun w => by rw [t1, o1]; kernel_rfl) (fun w => by rw [t1]; exact hb _ _ w)]
 rw [eqF_cons 9999 _ _ f2 _ (x := .int .i64 a.id) (y := .int .i64 b.id) (b := (a.id == b.id)) n2 (fun w => by rw [t2, o2]; kernel_rfl) (fun w => by rw [t2, o2]; kernel_rfl) (fun w => by rw [t2]; exact hi _ _ w)]
 rw [eqF_cons 9999 _ _ f3 _ (x := .bool a.marker) (y := .bool b.marker) (b := (a.marker == b.marker)) n3 (fun w => by rw [t3, o3]; kernel_rfl) (fun w => by rw [t3, o3]; kernel_rfl) (fun w => by rw [t3]; exact hb _ _ w)]
 rw [eqF_cons 9999 _ _ f4 _ (x := .bool a.latest) (y := .bool b.latest) (b := (a.latest == b.latest)) n4 (fun w => by rw [t4, o4]; kernel_rfl) (fun w => by rw [t4, o4]; kernel_rfl) (fun w => by rw [t4]; exact hb _ _ w)]
 rw [eqF_cons 9999 _ _ f5 _ (x := .int .i64 a.size) (y := .int .i64 b.size) (b := (a.size == b.size)) n5 (fun w => by rw [t5, o5]; kernel_rfl) (fun w => by rw [t5, o5]; kernel_rfl) (fun w => by rw [t5]; exact hi _ _ w)]
 rw [eqF_cons 9999 _ _ f6 _ (x := .int .i64 a.tier) (y := .int .i64 b.tier) (b := (a.tier == b.tier)) n6 (fun w => by rw [t6, o6]; kernel_rfl) (fun w => by rw [t6, o6]; kernel_rfl) (fun w => by rw [t6]; exact hi _ _ w)]
 unfold rowSame
 cases (a.key.toList == b.key.toList) <;> cases (a.common == b.common) <;> cases (a.id == b.id) <;> cases (a.marker == b.marker) <;> cases (a.latest == b.latest) <;> cases (a.size == b.size) <;> cases (a.tier == b.tier) <;> simp [Op.eqFields]
theorem row_eql (a b : RowM) (w : World) : (binOp .eql 57 (rowA a) (rowA b)).run Tryz.prog w = .ok (.bool (rowSame a b)) w := by
 unfold rowA
 rw [run_eql_struct]
 rw [show (Op.equalIn 10000 57 (.agg #[.string a.key, .bool a.common, .int .i64 a.id, .bool a.marker, .bool a.latest, .int .i64 a.size, .int .i64 a.tier]) (.agg #[.string b.key, .bool b.common, .int .i64 b.id, .bool b.marker, .bool b.latest, .int .i64 b.size, .int .i64 b.tier])).run Tryz.prog w = _ from row_eq_run a b w]
 rfl
theorem row_guard (bo : BinOp) (x y : Operand) (a b : RowM) (w : World) : (eqGuard bo 57 x y (rowA a) (rowA b)).run Tryz.prog w = .ok () w := run_eqGuard_agg w bo _ x y _ _ (by kernel_rfl)
end Go.Proofs.YtohdfcnjcpjdcaaGreat
/- list.Keys: the walk. Conditions: as each law states them. -/
namespace Go.Proofs.YtohdfcnjcpjdcaaGreat
open Go.RowKit
set_option linter.unusedSimpArgs false
theorem stepK_cons (d : Option UInt8) (pre after : ByteArray) (out : List RowM) (v : Ver) (r : List Ver) : stepK d pre after out (v :: r) = if v.marker = true then out else putK after out (rowD d pre v) := rfl
theorem putK_le {after : ByteArray} {out : List RowM} {r : RowM} (h : leB r.key after = true) : putK after out r = out := by unfold putK; rw [h]; rfl
theorem putK_same {after : ByteArray} {out : List RowM} {r : RowM} (h : lastSame out r = true) : putK after out r = out := by unfold putK; rw [h, Bool.or_true]; rfl
theorem putK_new {after : ByteArray} {out : List RowM} {r : RowM} (h : leB r.key after = false) (h2 : lastSame out r = false) : putK after out r = out ++ [r] := by unfold putK; rw [h, h2]; rfl
theorem whX_do {P : Program} {E : Env} {σ : St} {o : Oper} {rec_ : Cmd → St → Prop} {dr : Dr} {i : Nat} {p : Plan} {ctx : List Bool} {z : Option (Prop × SC)} (hz : z = none) (hs : stepO P o { σ with blks := dr.B, views := dr.V } = .no) (hc : ctx.all id = true) (h : TakeStop P E rec_ dr i p o σ) : WhX P E rec_ dr i p o σ ctx z := by
 rw [hz]
 refine ⟨fun _ => ?_, fun q => by rw [hc] at q; cases q⟩
 rw [hs]
 exact h
theorem dlm_one (d : Option UInt8) : decide (1 < ((dlm d).size : Int)) = false := by cases d <;> rfl
theorem grpS_mem {d : List Ver} {g : List Ver} {v : Ver} (hg : g ∈ grpS d) (hv : v ∈ g) : v ∈ d := by
 rw [← grpS_flat d]
 exact List.mem_flatten.2 ⟨g, hg, hv⟩
theorem selB_size {nm pre : ByteArray} {v : Ver} (h : selB nm pre v = true) : pre.size ≤ v.key.size := by
 unfold selB outB prefB at h
 simp only [Bool.not_or, Bool.not_not, Bool.and_eq_true, decide_eq_true_eq] at h
 omega
theorem extract_size (k : ByteArray) (a : Nat) (h : a ≤ k.size) : (k.extract a k.size).size = k.size - a := by simp
theorem cutI_bd {pre k : ByteArray} {c : UInt8} (hp : pre.size ≤ k.size) (h : 0 ≤ cutI pre k c) : pre.size + (cutI pre k c).toNat + 1 ≤ k.size := by
 unfold cutI at h ⊢
 obtain ⟨o, ho⟩ : ∃ o : Nat, Lib.indexByte (k.extract pre.size k.size).data.toList c = o := ⟨(Lib.indexByte (k.extract pre.size k.size).data.toList c).toNat, by omega⟩
 rw [ho]
 have := (Lib.indexByte_some ho).1
 have hlt := (List.getElem?_eq_some_iff.1 this).1
 have e : (k.extract pre.size k.size).data.toList.length = k.size - pre.size := by
  rw [Array.length_toList]
  exact extract_size k pre.size hp
 omega
set_option maxRecDepth 100000 in
set_option maxHeartbeats 16000000 in
theorem lKeys_does {s : Sta} {sv : Value} {nm pre after : ByteArray} {d : Option UInt8} {most : Nat} {G0 : GW} (hW : G0.Wf) (hs : StaG G0 sv s) (hok : okSt s = true) (hp : pre.size ≤ maxLen) (hc : lchkS s nm pre most = 0) (hm : most ≤ 1000) (hn : s.vers.length ≤ 1000) :
  Calls Tryz.prog 17 #[sv, .string nm, .string pre, .string (dlm d), .string after, .int .i64 (most : Int)] G0.w (Ret G0 fun v G => ∃ l : List Ver, l.Perm (s.vers.filter (selB nm pre)) ∧ (l.Pairwise fun a b => vLt b a = false) ∧ ∃ pv, v = .tuple #[pv, .bool (decide ((most : Int) < ((keysRows d pre after (grpS l)).length : Int))), .int .i64 0] ∧ RowsG G pv ((keysRows d pre after (grpS l)).take most)) := by
 obtain ⟨A1, c1, A2, c2, A3, c3, A4, c4, A5, c5, rfl, hP⟩ := hs.form
 have hml := max_le
 refine enterS (G := G0) (n := 105) 3000 hW Tryz.func17 rfl Tryz.ntmps17 (by simp) ?_
 have q : decide (lchkS s nm pre most = 0) = true := decide_eq_true hc
 have hd1 := dlm_one d
 simp only [go_sem, simprocAttr]
 intro g1
 refine pk (call_does (fun v _ => v = .int .i64 (lchkS s nm pre most)) rfl rfl (by kernel_rfl) rfl (dk rfl) (fun G hG => lcheck_does hG.wf (hP.mono (hG.le G0 (by simp))).g hok hp)) ?_
 rintro _ ⟨_, G1, rfl, hn1, rfl⟩
 clear hn1
 simp only [go_sem, simprocAttr, q, Bool.not_true, hd1]
 refine pk (call_does (fun v G => ∃ l : List Ver, l.Perm (s.vers.filter (selB nm pre)) ∧ (l.Pairwise fun a b => vLt b a = false) ∧ GrpsG G v (grpS l)) rfl rfl (by kernel_rfl) rfl (dk rfl) (fun G hG => keys_does hG.wf (hP.mono (hG.le G0 (by simp))).g hn hp)) ?_
 rintro _ ⟨v, G2, ⟨l, hl1, hl2, hgs⟩, hn2, rfl⟩
 clear hn2
 have hgl : (grpS l).length ≤ 1000 := by
  have h1 : (grpS l).length ≤ (grpS l).flatten.length := by
   have hne := grpS_ne l
   generalize grpS l = gs at hne
   clear hgs
   induction gs with
   | nil => simp
   | cons g gs ih =>
    have := ih fun g hg => hne g (List.mem_cons_of_mem _ hg)
    have h2 := List.length_pos_iff.2 (hne g List.mem_cons_self)
    rw [List.flatten_cons, List.length_append, List.length_cons]
    omega
  rw [grpS_flat, hl1.length_eq] at h1
  exact Nat.le_trans h1 (Nat.le_trans (List.length_filter_le _ _) hn)
 have hne : ∀ g ∈ grpS l, ∃ x r, g = x :: r ∧ selB nm pre x = true := fun g hg => by
  cases g with
  | nil => exact absurd rfl (grpS_ne l _ hg)
  | cons x r => exact ⟨x, r, rfl, (List.mem_filter.1 (hl1.mem_iff.1 (grpS_mem hg List.mem_cons_self))).2⟩
 obtain ⟨gs, hgd⟩ : ∃ gs, gs = grpS l := ⟨_, rfl⟩
 rw [← hgd] at hgs hgl hne
 obtain ⟨Ag, cg, rfl, _⟩ := Sq.form hgs
 simp only [go_sem, simprocAttr]
 refine row_ok 57 7 ?_
 refine loop_ok (N := 3000) (ι := Nat × (Option Addr × Nat)) (fun x => match x with | (i, (A, c)) => ⟨[(2, .c (.v (.string pre))), (3, .c (.v (.string (dlm d)))), (4, .c (.v (.string after))), (5, .c (.v (.int .i64 (most : Int)))), (16, .c (.v (.slice A (keysRows d pre after (gs.take i)).length c))), (38, .c (.v (.slice Ag gs.length cg))), (39, .c (.v (.int .i64 (gs.length : Int)))), (40, .c (.v (.int .i64 (i : Int))))], [], [rowRow (.slice A (keysRows d pre after (gs.take i)).length c) (keysRows d pre after (gs.take i))], [], [G2, G0], 1⟩)
  (fun x => x.1 ≤ gs.length) (fun x => gs.length - x.1) (QOk_body _ _ _) (0, (none, 0)) (Nat.zero_le _) (by simp only [go_sem, simprocAttr, rowRow]; simp [keysRows]) ?_
 rintro ⟨i, ⟨A, c⟩⟩ hi
 simp only at hi ⊢
 by_cases hlt : i < gs.length
 ·have q1 : decide ((i : Int) < (gs.length : Int)) = true := decide_eq_true (by omega)
  obtain ⟨g, hg⟩ : ∃ g, gs[i]? = some g := ⟨_, List.getElem?_eq_getElem hlt⟩
  obtain ⟨x, r, rfl, hsx⟩ := hne g (List.mem_of_getElem? hg)
  have hpx := selB_size hsx
  have hsu := keysRows_succ (d := d) (pre := pre) (after := after) hg
  have hpl := keysRows_len d pre after (gs.take i)
  rw [List.length_take] at hpl
  simp only [go_sem, simprocAttr, q1]
  refine pk (elem_does (R := GrpG) (l := gs) (m := i) rfl tySlice110 tySize25 rfl rfl (dk rfl) rfl hg (fun G hG => Sq.mono hgs grpG_mono (hG.le G2 (by simp)))) ?_
  rintro _ ⟨g4, o', cs, G3, hcl, ⟨gv, rfl, hgv⟩, rfl⟩
  obtain ⟨Av, cv, rfl, _⟩ := Sq.form hgv
  simp only [go_sem, simprocAttr]
  refine pk (elem_does (R := VerG) (l := x :: r) (m := 0) rfl tySlice25 tySize38 rfl rfl (dk rfl) rfl rfl (fun G hG => Sq.mono hgv verG_mono (hG.le G3 (by simp)))) ?_
  rintro _ ⟨g5, o5, cs, G4, hcl4, ⟨svx, rfl, hsv, hk1, hk2⟩, rfl⟩
  obtain ⟨As, cs, rfl, _⟩ := Sq.form hsv
  simp only [go_sem, simprocAttr, verV]
  intro g6
  refine Wb_mk (fun hmk => ?_) (fun hmk => ?_)
  ·have hst : stepK d pre after (keysRows d pre after (gs.take i)) (x :: r) = keysRows d pre after (gs.take i) := (stepK_cons _ _ _ _ _ _).trans (if_pos hmk)
   rw [hst] at hsu
   refine ⟨by omega, ?_⟩
   refine again_ok (i + 1, (A, c)) hlt (by show gs.length - (i + 1) < gs.length - i; omega) (by rw [hsu]; simp only [go_sem, simprocAttr]; simp)
  ·have hst : stepK d pre after (keysRows d pre after (gs.take i)) (x :: r) = putK after (keysRows d pre after (gs.take i)) (rowD d pre x) := (stepK_cons _ _ _ _ _ _).trans (if_neg (by rw [hmk]; simp))
   rw [hst] at hsu
   refine pk (call_does (fun v _ => v = .agg (rowC (rowV x true)).toArray) rfl rfl (by kernel_rfl) rfl (dk rfl) (fun G hG => row_does hG.wf (hsv.mono (hG.le G4 (by simp))))) ?_
   rintro _ ⟨_, G5, rfl, hn5, rfl⟩
   clear hn5
   simp only [go_sem, simprocAttr, rowC]
   intro g7
   refine ⟨by omega, ?_⟩
   simp only [Int.toNat_natCast]
   refine pk (call_does (fun v _ => v = .int .i64 (idxS (x.key.extract pre.size x.key.size) d)) rfl rfl (by kernel_rfl) rfl (dk rfl) (fun G hG => sIndex_does hG.wf)) ?_
   rintro _ ⟨_, G6, rfl, hn6, rfl⟩
   clear hn6
   have hlo : (keysRows d pre after (gs.take i)).length ≤ 1000 := by omega
   obtain ⟨out, hout⟩ : ∃ out, out = keysRows d pre after (gs.take i) := ⟨_, rfl⟩
   rw [← hout] at hsu hlo ⊢
   cases d with
   | none =>
    have qd : ((dlm none).toList == (⟨#[]⟩ : ByteArray).toList) = true := (strEq _ _).trans (decide_eq_true rfl)
    have hR : rowD none pre x = rowV x true := rfl
    rw [hR] at hsu
    simp only [go_sem, simprocAttr, qd, Bool.not_true]
    rcases List.eq_nil_or_concat out with he | ⟨init, y, he⟩
    ·subst he
     refine draw_ok (N := 3000) (.take 0 (.take 1 (.take 2 (.take 3 (.take 4 (.take 5 (.take 6 (.take 7 (.take 8 (.take 9 (.take 10 (.take 11 (.take 12 (.take 13 (.take 14 (.take 15 (.take 16 (.take 17 (.take 18 .done))))))))))))))))))) [] (QOk_body _ _ _) follows_mixed (by kernel_rfl) (by kernel_rfl) ?_
     simp only [go_sem, simprocAttr, List.length_nil]
     refine Wb_mk (fun hle => ?_) (fun hle => ?_)
     ·rw [putK_le (r := (rowV x true)) (after := after) hle] at hsu
      refine ⟨by omega, ?_⟩
      refine again_ok (i + 1, (A, c)) hlt (by show gs.length - (i + 1) < gs.length - i; omega) (by rw [hsu]; simp only [go_sem, simprocAttr]; simp)
     ·rw [putK_new (r := (rowV x true)) (after := after) hle rfl] at hsu
      intro g8
      refine pk (append_does (R1 := []) (news := rowC (rowV x true)) rfl tySlice52 tyApp57 rfl rfl rfl rfl (dk rfl) (rowC_one _) (by unfold maxLen; omega) (by omega) (fun G hG => tsl_blk hG (b := ⟨5, g8, 57, (rowC (rowV x true)).map .v⟩) (by simp [rowC]) (by simp [rowC]) (by unfold maxLen; omega))) ?_
      rintro _ ⟨B2, b2, rfl⟩
      simp only [go_sem, simprocAttr]
      refine ⟨by omega, ?_⟩
      refine again_ok (i + 1, (B2, b2)) hlt (by show gs.length - (i + 1) < gs.length - i; omega) (by rw [hsu]; simp only [go_sem, simprocAttr, rowRow]; simp)
    ·have hlen : out.length = init.length + 1 := by rw [he]; simp
     have hls : lastSame out (rowV x true) = rowSame y (rowV x true) := by rw [he]; unfold lastSame; simp
     refine rowChunk_ok (k := 7) (t := 57) (n := out.length) (v := .slice A out.length c) (R1 := []) (R2 := []) (f := rowC) (l := out) rfl (fun _ => rfl) (by omega) (by omega) rfl fun gb tl hv hmx htl => ?_
     cases hv
     have hch := (chunks_map (f := rowC) (k := 7) (fun _ => rfl) out).app htl
     have hget := chunk_get hch (m := init.length) (c := rowC y) (by rw [List.getElem?_append_left (by rw [List.length_map]; omega), List.getElem?_map, he]; simp)
     have hlenb : init.length * 7 + 7 ≤ ((out.map rowC ++ tl).flatten.map SC.v).length := by rw [List.length_map, hch.len, List.length_append, List.length_map, hlen]; omega
     simp only [rowC, List.map_cons, List.map_nil] at hget
     have qn : decide (0 < (out.length : Int)) = true := decide_eq_true (by omega)
     simp only [List.nil_append]
     refine draw_ok (N := 3000) (.take 0 (.take 1 (.take 2 (.take 3 (.take 4 (.take 5 (.take 6 (.take 7 (.take 8 (.take 9 (.take 10 (.take 11 (.take 12 (.take 13 (.take 14 (.take 15 (.take 16 (.take 17 (.take 18 .done))))))))))))))))))) [] (QOk_body _ _ _) follows_mixed (by kernel_rfl) (by kernel_rfl) ?_
     simp only [go_sem, simprocAttr, qn]
     refine ⟨fun _ => by omega, ?_⟩
     refine Wb_mk (fun hle => ?_) (fun hle => ?_)
     ·have hb : (Op.bytesLess (rowV x true).key.toList after.toList || (rowV x true).key.toList == after.toList) = false := nt hle
      have hle' : leB (rowV x true).key after = false := hb
      simp only [go_sem, simprocAttr, hb, Bool.not_false]
      refine take_own 5 (g := gb) (m := init.length) rfl tySlice52 tySize57 rfl rfl (dk rfl) (by omega) (by omega) ?_
      simp only [go_sem, simprocAttr, hlenb, hget, hb, Bool.not_false]
      refine whX_do rfl rfl rfl ?_
      refine take_eql (vx := .a ((rowC y).map .v)) (vy := .a ((rowC (rowV x true)).map .v)) (r := rowSame y (rowV x true)) rfl rfl rfl (fun w => row_guard _ _ _ y (rowV x true) w) (fun w => row_eql y (rowV x true) w) (dk rfl) ?_
      simp only [go_sem, simprocAttr, hb, Bool.not_false]
      refine Wb_mk (fun hsm => ?_) (fun hsm => ?_)
      ·rw [putK_same (hls.trans hsm)] at hsu
       refine ⟨by omega, ?_⟩
       refine chunkRow_ok (B1 := []) 7 out.length rowC out tl rfl (fun _ => rfl) htl rfl hmx ?_
       refine again_ok (i + 1, (some ⟨gb, 0, none⟩, out.length + tl.length)) hlt (by show gs.length - (i + 1) < gs.length - i; omega) (by rw [hsu]; simp only [go_sem, simprocAttr, rowRow]; simp)
      ·rw [putK_new hle' (hls.trans hsm)] at hsu
       intro g8
       refine chunkRow_ok (B1 := [_]) 7 out.length rowC out tl rfl (fun _ => rfl) htl rfl hmx ?_
       refine pk (append_does (R1 := []) (news := rowC (rowV x true)) rfl tySlice52 tyApp57 rfl rfl rfl rfl (dk rfl) (rowC_one _) (by unfold maxLen; omega) (by omega) (fun G hG => tsl_blk hG (b := ⟨6, g8, 57, (rowC (rowV x true)).map .v⟩) (by simp [rowC]) (by simp [rowC]) (by unfold maxLen; omega))) ?_
       rintro _ ⟨B2, b2, rfl⟩
       simp only [go_sem, simprocAttr]
       refine ⟨by omega, ?_⟩
       refine again_ok (i + 1, (B2, b2)) hlt (by show gs.length - (i + 1) < gs.length - i; omega) (by rw [hsu]; simp only [go_sem, simprocAttr, rowRow]; simp)
     ·have hb : (Op.bytesLess (rowV x true).key.toList after.toList || (rowV x true).key.toList == after.toList) = true := nf hle
      rw [putK_le (r := (rowV x true)) (after := after) hb] at hsu
      simp only [go_sem, simprocAttr, hb, Bool.not_true]
      refine ⟨by omega, ?_⟩
      refine chunkRow_ok (B1 := []) 7 out.length rowC out tl rfl (fun _ => rfl) htl rfl hmx ?_
      refine again_ok (i + 1, (some ⟨gb, 0, none⟩, out.length + tl.length)) hlt (by show gs.length - (i + 1) < gs.length - i; omega) (by rw [hsu]; simp only [go_sem, simprocAttr, rowRow]; simp)
   | some c0 =>
    have qd : ((dlm (some c0)).toList == (⟨#[]⟩ : ByteArray).toList) = false := (strEq _ _).trans (decide_eq_false fun h => by cases h)
    by_cases hcut : 0 ≤ idxS (x.key.extract pre.size x.key.size) (some c0)
    ·have qc : decide (0 ≤ idxS (x.key.extract pre.size x.key.size) (some c0)) = true := decide_eq_true hcut
     have hbd := cutI_bd (c := c0) hpx hcut
     obtain ⟨o, ho⟩ : ∃ o : Nat, cutI pre x.key c0 = (o : Int) := ⟨(cutI pre x.key c0).toNat, by have : 0 ≤ cutI pre x.key c0 := hcut; omega⟩
     rw [ho, Int.toNat_natCast] at hbd
     have hto : ((pre.size : Int) + (o : Int) + 1).toNat = pre.size + o + 1 := by omega
     have ho' : idxS (x.key.extract pre.size x.key.size) (some c0) = (o : Int) := ho
     have hR : rowD (some c0) pre x = ⟨x.key.extract 0 (pre.size + o + 1), true, 0, false, false, 0, 0⟩ := by
      show (if 0 ≤ cutI pre x.key c0 then (⟨x.key.extract 0 (pre.size + (cutI pre x.key c0).toNat + 1), true, 0, false, false, 0, 0⟩ : RowM) else rowV x true) = _
      rw [ho, if_pos (by omega), Int.toNat_natCast]
     rw [hR] at hsu
     rw [ho'] at qc
     rw [ho']
     simp only [go_sem, simprocAttr, qd, qc, Bool.not_false]
     refine ⟨by omega, by omega, by omega, ?_⟩
     rw [hto]
     rcases List.eq_nil_or_concat out with he | ⟨init, y, he⟩
     ·subst he
      refine draw_ok (N := 3000) (.take 0 (.take 1 (.take 2 (.take 3 (.take 4 (.take 5 (.take 6 (.take 7 (.take 8 (.take 9 (.take 10 (.take 11 (.take 12 (.take 13 (.take 14 (.take 15 (.take 16 (.take 17 (.take 18 .done))))))))))))))))))) [] (QOk_body _ _ _) follows_mixed (by kernel_rfl) (by kernel_rfl) ?_
      simp only [go_sem, simprocAttr, List.length_nil]
      refine Wb_mk (fun hle => ?_) (fun hle => ?_)
      ·rw [putK_le (r := (⟨x.key.extract 0 (pre.size + o + 1), true, 0, false, false, 0, 0⟩ : RowM)) (after := after) hle] at hsu
       refine ⟨by omega, ?_⟩
       refine again_ok (i + 1, (A, c)) hlt (by show gs.length - (i + 1) < gs.length - i; omega) (by rw [hsu]; simp only [go_sem, simprocAttr]; simp)
      ·rw [putK_new (r := (⟨x.key.extract 0 (pre.size + o + 1), true, 0, false, false, 0, 0⟩ : RowM)) (after := after) hle rfl] at hsu
       intro g8
       refine pk (append_does (R1 := []) (news := rowC (⟨x.key.extract 0 (pre.size + o + 1), true, 0, false, false, 0, 0⟩ : RowM)) rfl tySlice52 tyApp57 rfl rfl rfl rfl (dk rfl) (rowC_one _) (by unfold maxLen; omega) (by omega) (fun G hG => tsl_blk hG (b := ⟨5, g8, 57, (rowC (⟨x.key.extract 0 (pre.size + o + 1), true, 0, false, false, 0, 0⟩ : RowM)).map .v⟩) (by simp [rowC]) (by simp [rowC]) (by unfold maxLen; omega))) ?_
       rintro _ ⟨B2, b2, rfl⟩
       simp only [go_sem, simprocAttr]
       refine ⟨by omega, ?_⟩
       refine again_ok (i + 1, (B2, b2)) hlt (by show gs.length - (i + 1) < gs.length - i; omega) (by rw [hsu]; simp only [go_sem, simprocAttr, rowRow]; simp)
     ·have hlen : out.length = init.length + 1 := by rw [he]; simp
      have hls : lastSame out (⟨x.key.extract 0 (pre.size + o + 1), true, 0, false, false, 0, 0⟩ : RowM) = rowSame y (⟨x.key.extract 0 (pre.size + o + 1), true, 0, false, false, 0, 0⟩ : RowM) := by rw [he]; unfold lastSame; simp
      refine rowChunk_ok (k := 7) (t := 57) (n := out.length) (v := .slice A out.length c) (R1 := []) (R2 := []) (f := rowC) (l := out) rfl (fun _ => rfl) (by omega) (by omega) rfl fun gb tl hv hmx htl => ?_
      cases hv
      have hch := (chunks_map (f := rowC) (k := 7) (fun _ => rfl) out).app htl
      have hget := chunk_get hch (m := init.length) (c := rowC y) (by rw [List.getElem?_append_left (by rw [List.length_map]; omega), List.getElem?_map, he]; simp)
      have hlenb : init.length * 7 + 7 ≤ ((out.map rowC ++ tl).flatten.map SC.v).length := by rw [List.length_map, hch.len, List.length_append, List.length_map, hlen]; omega
      simp only [rowC, List.map_cons, List.map_nil] at hget
      have qn : decide (0 < (out.length : Int)) = true := decide_eq_true (by omega)
      simp only [List.nil_append]
      refine draw_ok (N := 3000) (.take 0 (.take 1 (.take 2 (.take 3 (.take 4 (.take 5 (.take 6 (.take 7 (.take 8 (.take 9 (.take 10 (.take 11 (.take 12 (.take 13 (.take 14 (.take 15 (.take 16 (.take 17 (.take 18 .done))))))))))))))))))) [] (QOk_body _ _ _) follows_mixed (by kernel_rfl) (by kernel_rfl) ?_
      simp only [go_sem, simprocAttr, qn]
      refine ⟨fun _ => by omega, ?_⟩
      refine Wb_mk (fun hle => ?_) (fun hle => ?_)
      ·have hb : (Op.bytesLess (⟨x.key.extract 0 (pre.size + o + 1), true, 0, false, false, 0, 0⟩ : RowM).key.toList after.toList || (⟨x.key.extract 0 (pre.size + o + 1), true, 0, false, false, 0, 0⟩ : RowM).key.toList == after.toList) = false := nt hle
       have hle' : leB (⟨x.key.extract 0 (pre.size + o + 1), true, 0, false, false, 0, 0⟩ : RowM).key after = false := hb
       simp only [go_sem, simprocAttr, hb, Bool.not_false]
       refine take_own 5 (g := gb) (m := init.length) rfl tySlice52 tySize57 rfl rfl (dk rfl) (by omega) (by omega) ?_
       simp only [go_sem, simprocAttr, hlenb, hget, hb, Bool.not_false]
       refine whX_do rfl rfl rfl ?_
       refine take_eql (vx := .a ((rowC y).map .v)) (vy := .a ((rowC (⟨x.key.extract 0 (pre.size + o + 1), true, 0, false, false, 0, 0⟩ : RowM)).map .v)) (r := rowSame y (⟨x.key.extract 0 (pre.size + o + 1), true, 0, false, false, 0, 0⟩ : RowM)) rfl rfl rfl (fun w => row_guard _ _ _ y (⟨x.key.extract 0 (pre.size + o + 1), true, 0, false, false, 0, 0⟩ : RowM) w) (fun w => row_eql y (⟨x.key.extract 0 (pre.size + o + 1), true, 0, false, false, 0, 0⟩ : RowM) w) (dk rfl) ?_
       simp only [go_sem, simprocAttr, hb, Bool.not_false]
       refine Wb_mk (fun hsm => ?_) (fun hsm => ?_)
       ·rw [putK_same (hls.trans hsm)] at hsu
        refine ⟨by omega, ?_⟩
        refine chunkRow_ok (B1 := []) 7 out.length rowC out tl rfl (fun _ => rfl) htl rfl hmx ?_
        refine again_ok (i + 1, (some ⟨gb, 0, none⟩, out.length + tl.length)) hlt (by show gs.length - (i + 1) < gs.length - i; omega) (by rw [hsu]; simp only [go_sem, simprocAttr, rowRow]; simp)
       ·rw [putK_new hle' (hls.trans hsm)] at hsu
        intro g8
        refine chunkRow_ok (B1 := [_]) 7 out.length rowC out tl rfl (fun _ => rfl) htl rfl hmx ?_
        refine pk (append_does (R1 := []) (news := rowC (⟨x.key.extract 0 (pre.size + o + 1), true, 0, false, false, 0, 0⟩ : RowM)) rfl tySlice52 tyApp57 rfl rfl rfl rfl (dk rfl) (rowC_one _) (by unfold maxLen; omega) (by omega) (fun G hG => tsl_blk hG (b := ⟨6, g8, 57, (rowC (⟨x.key.extract 0 (pre.size + o + 1), true, 0, false, false, 0, 0⟩ : RowM)).map .v⟩) (by simp [rowC]) (by simp [rowC]) (by unfold maxLen; omega))) ?_
        rintro _ ⟨B2, b2, rfl⟩
        simp only [go_sem, simprocAttr]
        refine ⟨by omega, ?_⟩
        refine again_ok (i + 1, (B2, b2)) hlt (by show gs.length - (i + 1) < gs.length - i; omega) (by rw [hsu]; simp only [go_sem, simprocAttr, rowRow]; simp)
      ·have hb : (Op.bytesLess (⟨x.key.extract 0 (pre.size + o + 1), true, 0, false, false, 0, 0⟩ : RowM).key.toList after.toList || (⟨x.key.extract 0 (pre.size + o + 1), true, 0, false, false, 0, 0⟩ : RowM).key.toList == after.toList) = true := nf hle
       rw [putK_le (r := (⟨x.key.extract 0 (pre.size + o + 1), true, 0, false, false, 0, 0⟩ : RowM)) (after := after) hb] at hsu
       simp only [go_sem, simprocAttr, hb, Bool.not_true]
       refine ⟨by omega, ?_⟩
       refine chunkRow_ok (B1 := []) 7 out.length rowC out tl rfl (fun _ => rfl) htl rfl hmx ?_
       refine again_ok (i + 1, (some ⟨gb, 0, none⟩, out.length + tl.length)) hlt (by show gs.length - (i + 1) < gs.length - i; omega) (by rw [hsu]; simp only [go_sem, simprocAttr, rowRow]; simp)
    ·have qc : decide (0 ≤ idxS (x.key.extract pre.size x.key.size) (some c0)) = false := decide_eq_false hcut
     have hR : rowD (some c0) pre x = rowV x true := if_neg hcut
     rw [hR] at hsu
     simp only [go_sem, simprocAttr, qd, qc, Bool.not_false]
     rcases List.eq_nil_or_concat out with he | ⟨init, y, he⟩
     ·subst he
      refine draw_ok (N := 3000) (.take 0 (.take 1 (.take 2 (.take 3 (.take 4 (.take 5 (.take 6 (.take 7 (.take 8 (.take 9 (.take 10 (.take 11 (.take 12 (.take 13 (.take 14 (.take 15 (.take 16 (.take 17 (.take 18 .done))))))))))))))))))) [] (QOk_body _ _ _) follows_mixed (by kernel_rfl) (by kernel_rfl) ?_
      simp only [go_sem, simprocAttr, List.length_nil]
      refine Wb_mk (fun hle => ?_) (fun hle => ?_)
      ·rw [putK_le (r := (rowV x true)) (after := after) hle] at hsu
       refine ⟨by omega, ?_⟩
       refine again_ok (i + 1, (A, c)) hlt (by show gs.length - (i + 1) < gs.length - i; omega) (by rw [hsu]; simp only [go_sem, simprocAttr]; simp)
      ·rw [putK_new (r := (rowV x true)) (after := after) hle rfl] at hsu
       intro g8
       refine pk (append_does (R1 := []) (news := rowC (rowV x true)) rfl tySlice52 tyApp57 rfl rfl rfl rfl (dk rfl) (rowC_one _) (by unfold maxLen; omega) (by omega) (fun G hG => tsl_blk hG (b := ⟨5, g8, 57, (rowC (rowV x true)).map .v⟩) (by simp [rowC]) (by simp [rowC]) (by unfold maxLen; omega))) ?_
       rintro _ ⟨B2, b2, rfl⟩
       simp only [go_sem, simprocAttr]
       refine ⟨by omega, ?_⟩
       refine again_ok (i + 1, (B2, b2)) hlt (by show gs.length - (i + 1) < gs.length - i; omega) (by rw [hsu]; simp only [go_sem, simprocAttr, rowRow]; simp)
     ·have hlen : out.length = init.length + 1 := by rw [he]; simp
      have hls : lastSame out (rowV x true) = rowSame y (rowV x true) := by rw [he]; unfold lastSame; simp
      refine rowChunk_ok (k := 7) (t := 57) (n := out.length) (v := .slice A out.length c) (R1 := []) (R2 := []) (f := rowC) (l := out) rfl (fun _ => rfl) (by omega) (by omega) rfl fun gb tl hv hmx htl => ?_
      cases hv
      have hch := (chunks_map (f := rowC) (k := 7) (fun _ => rfl) out).app htl
      have hget := chunk_get hch (m := init.length) (c := rowC y) (by rw [List.getElem?_append_left (by rw [List.length_map]; omega), List.getElem?_map, he]; simp)
      have hlenb : init.length * 7 + 7 ≤ ((out.map rowC ++ tl).flatten.map SC.v).length := by rw [List.length_map, hch.len, List.length_append, List.length_map, hlen]; omega
      simp only [rowC, List.map_cons, List.map_nil] at hget
      have qn : decide (0 < (out.length : Int)) = true := decide_eq_true (by omega)
      simp only [List.nil_append]
      refine draw_ok (N := 3000) (.take 0 (.take 1 (.take 2 (.take 3 (.take 4 (.take 5 (.take 6 (.take 7 (.take 8 (.take 9 (.take 10 (.take 11 (.take 12 (.take 13 (.take 14 (.take 15 (.take 16 (.take 17 (.take 18 .done))))))))))))))))))) [] (QOk_body _ _ _) follows_mixed (by kernel_rfl) (by kernel_rfl) ?_
      simp only [go_sem, simprocAttr, qn]
      refine ⟨fun _ => by omega, ?_⟩
      refine Wb_mk (fun hle => ?_) (fun hle => ?_)
      ·have hb : (Op.bytesLess (rowV x true).key.toList after.toList || (rowV x true).key.toList == after.toList) = false := nt hle
       have hle' : leB (rowV x true).key after = false := hb
       simp only [go_sem, simprocAttr, hb, Bool.not_false]
       refine take_own 5 (g := gb) (m := init.length) rfl tySlice52 tySize57 rfl rfl (dk rfl) (by omega) (by omega) ?_
       simp only [go_sem, simprocAttr, hlenb, hget, hb, Bool.not_false]
       refine whX_do rfl rfl rfl ?_
       refine take_eql (vx := .a ((rowC y).map .v)) (vy := .a ((rowC (rowV x true)).map .v)) (r := rowSame y (rowV x true)) rfl rfl rfl (fun w => row_guard _ _ _ y (rowV x true) w) (fun w => row_eql y (rowV x true) w) (dk rfl) ?_
       simp only [go_sem, simprocAttr, hb, Bool.not_false]
       refine Wb_mk (fun hsm => ?_) (fun hsm => ?_)
       ·rw [putK_same (hls.trans hsm)] at hsu
        refine ⟨by omega, ?_⟩
        refine chunkRow_ok (B1 := []) 7 out.length rowC out tl rfl (fun _ => rfl) htl rfl hmx ?_
        refine again_ok (i + 1, (some ⟨gb, 0, none⟩, out.length + tl.length)) hlt (by show gs.length - (i + 1) < gs.length - i; omega) (by rw [hsu]; simp only [go_sem, simprocAttr, rowRow]; simp)
       ·rw [putK_new hle' (hls.trans hsm)] at hsu
        intro g8
        refine chunkRow_ok (B1 := [_]) 7 out.length rowC out tl rfl (fun _ => rfl) htl rfl hmx ?_
        refine pk (append_does (R1 := []) (news := rowC (rowV x true)) rfl tySlice52 tyApp57 rfl rfl rfl rfl (dk rfl) (rowC_one _) (by unfold maxLen; omega) (by omega) (fun G hG => tsl_blk hG (b := ⟨6, g8, 57, (rowC (rowV x true)).map .v⟩) (by simp [rowC]) (by simp [rowC]) (by unfold maxLen; omega))) ?_
        rintro _ ⟨B2, b2, rfl⟩
        simp only [go_sem, simprocAttr]
        refine ⟨by omega, ?_⟩
        refine again_ok (i + 1, (B2, b2)) hlt (by show gs.length - (i + 1) < gs.length - i; omega) (by rw [hsu]; simp only [go_sem, simprocAttr, rowRow]; simp)
      ·have hb : (Op.bytesLess (rowV x true).key.toList after.toList || (rowV x true).key.toList == after.toList) = true := nf hle
       rw [putK_le (r := (rowV x true)) (after := after) hb] at hsu
       simp only [go_sem, simprocAttr, hb, Bool.not_true]
       refine ⟨by omega, ?_⟩
       refine chunkRow_ok (B1 := []) 7 out.length rowC out tl rfl (fun _ => rfl) htl rfl hmx ?_
       refine again_ok (i + 1, (some ⟨gb, 0, none⟩, out.length + tl.length)) hlt (by show gs.length - (i + 1) < gs.length - i; omega) (by rw [hsu]; simp only [go_sem, simprocAttr, rowRow]; simp)
 ·have hil : i = gs.length := by omega
  subst hil
  have q1 : decide ((gs.length : Int) < (gs.length : Int)) = false := decide_eq_false (by omega)
  rw [List.take_length]
  simp only [go_sem, simprocAttr, q1]
  refine read_ok (R1 := []) (R2 := []) rfl (fun G8 hle8 hsl8 => ?_) (fun _ _ q => q) (by show (7 : Nat) ≠ 0; decide)
  have hR : RowsG G8 (.slice A (keysRows d pre after gs).length c) (keysRows d pre after gs) := rows_of hsl8
  refine pk (call_does (fun v G => ∃ pv, v = .tuple #[pv, .bool (decide ((most : Int) < ((keysRows d pre after gs).length : Int)))] ∧ RowsG G pv ((keysRows d pre after gs).take most)) rfl rfl (by kernel_rfl) rfl (dk rfl) (fun G hG => page_does hG.wf (Sq.mono hR rowMG_mono (hG.le G8 List.mem_cons_self)) hm)) ?_
  rintro _ ⟨_, G9, ⟨pv, rfl, hpv⟩, hn9, rfl⟩
  clear hn9
  obtain ⟨Ap, cp, rfl, _⟩ := Sq.form hpv
  simp only [go_sem, simprocAttr]
  refine fin_ret (G := G0) Tryz.results17 ?_
  simp only [go_sem, simprocAttr]
  intro aa w' _ hle
  rw [hgd] at hpv ⊢
  exact ⟨l, hl1, hl2, _, rfl, Sq.mono hpv rowMG_mono (hle G9 (by simp))⟩
end Go.Proofs.YtohdfcnjcpjdcaaGreat
/- 'icehousekeep.VersionsAll' returns true for all raw things. Conditions: none. -/
namespace Go.Proofs.YtohdfcnjcpjdcaaGreat
open Go.RowKit
set_option linter.unusedSimpArgs false
section
variable {P : Program} {E : Env} {σ : St} {o : Oper}
end
set_option maxRecDepth 100000 in
set_option maxHeartbeats 16000000 in
theorem lKeys_bad {s : Sta} {sv : Value} {nm pre dl after : ByteArray} {most : Int} {G0 : GW} (hW : G0.Wf) (hs : StaG G0 sv s) (hok : okSt s = true) (hp : pre.size ≤ maxLen) (hc : lchkS s nm pre most ≠ 0) :
  Calls Tryz.prog 17 #[sv, .string nm, .string pre, .string dl, .string after, .int .i64 most] G0.w (Ret G0 fun v _ => v = .tuple #[.slice none 0 0, .bool false, .int .i64 (lchkS s nm pre most)]) := by
 obtain ⟨A1, c1, A2, c2, A3, c3, A4, c4, A5, c5, rfl, hP⟩ := hs.form
 have hml := max_le
 refine enterS (G := G0) (n := 105) 3000 hW Tryz.func17 rfl Tryz.ntmps17 (by simp) ?_
 have q : decide (lchkS s nm pre most = 0) = false := decide_eq_false hc
 simp only [go_sem, simprocAttr]
 intro g1
 refine pk (call_does (fun v _ => v = .int .i64 (lchkS s nm pre most)) rfl rfl (by kernel_rfl) rfl (dk rfl) (fun G hG => lcheck_does hG.wf (hP.mono (hG.le G0 (by simp))).g hok hp)) ?_
 rintro _ ⟨_, G1, rfl, hn1, rfl⟩
 clear hn1
 simp only [go_sem, simprocAttr, q, Bool.not_false]
 refine fin_ret (G := G0) Tryz.results17 ?_
 simp only [go_sem, simprocAttr]
 intro aa w' _ _
 rfl
/-! ### in plain words -/
def flagR : Option ByteArray → List Ver → List RowM
 | _, [] => []
 | p, x :: l => rowV x (!decide (p = some x.key)) :: flagR (some x.key) l
end Go.Proofs.YtohdfcnjcpjdcaaGreat
/- two bools, compared, under a choice -/
namespace Go.Proofs.YtohdfcnjcpjdcaaGreat
open Go.RowKit
section
variable {P : Program} {E : Env} {σ : St} {o : Oper}
end
end Go.Proofs.YtohdfcnjcpjdcaaGreat
