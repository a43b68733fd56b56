/- list.Keys. Conditions: as each law states them. -/
import Derived.Test.YtohdfcnjcpjdcaaGreatVBz
import Derived.Test.YtohdfcnjcpjdcaaGreatLBz
namespace Go.Proofs.YtohdfcnjcpjdcaaGreat
open Go.RowKit
set_option linter.unusedSimpArgs false
/-! ### in plain words -/
def cutI (pre k : ByteArray) (c : UInt8) : Int := Lib.indexByte (k.extract pre.size k.size).data.toList c
def rowD (d : Option UInt8) (pre : ByteArray) (v : Ver) : RowM := match d with
 | none => rowV v true
 | some c => if 0 ≤ cutI pre v.key c then ⟨v.key.extract 0 (pre.size + (cutI pre v.key c).toNat + 1), true, 0, false, false, 0, 0⟩ else rowV v true
def rowSame (a b : RowM) : Bool := (a.key.toList == b.key.toList) && ((a.common == b.common) && ((a.id == b.id) && ((a.marker == b.marker) && ((a.latest == b.latest) && ((a.size == b.size) && (a.tier == b.tier))))))
def leB (a b : ByteArray) : Bool := Op.bytesLess a.toList b.toList || a.toList == b.toList
def lastSame (out : List RowM) (r : RowM) : Bool := match out.getLast? with
 | none => false
 | some x => rowSame x r
def putK (after : ByteArray) (out : List RowM) (r : RowM) : List RowM := if (leB r.key after || lastSame out r) = true then out else out ++ [r]
def stepK (d : Option UInt8) (pre after : ByteArray) (out : List RowM) (g : List Ver) : List RowM := match g with
 | [] => out
 | v :: _ => if v.marker = true then out else putK after out (rowD d pre v)
def keysRows (d : Option UInt8) (pre after : ByteArray) (gs : List (List Ver)) : List RowM := gs.foldl (stepK d pre after) []
/-! ### rows, compared -/
section
variable {P : Program} {E : Env} {σ : St} {o : Oper}
end
def rowA (a : RowM) : Value := .agg #[.string a.key, .bool a.common, .int .i64 a.id, .bool a.marker, .bool a.latest, .int .i64 a.size, .int .i64 a.tier]
end Go.Proofs.YtohdfcnjcpjdcaaGreat
/- list.Keys: the walk. Conditions: as each law states them. -/
namespace Go.Proofs.YtohdfcnjcpjdcaaGreat
open Go.RowKit
set_option linter.unusedSimpArgs false
end Go.Proofs.YtohdfcnjcpjdcaaGreat
/- 'icehousekeep.VersionsAll' returns true for all raw things. Conditions: none. -/
namespace Go.Proofs.YtohdfcnjcpjdcaaGreat
open Go.RowKit
set_option linter.unusedSimpArgs false
section
variable {P : Program} {E : Env} {σ : St} {o : Oper}
theorem wt_do {rec_ : Cmd → St → Prop} {dr : Dr} {i : Nat} {p : Plan} {z : Out} (hz : z = .no) (h : TakeStop P E rec_ dr i p o σ) : Wt P E rec_ dr i p o σ z := by
 rw [hz]
 exact h
theorem whX_dead {rec_ : Cmd → St → Prop} {dr : Dr} {i : Nat} {p : Plan} {ctx : List Bool} {z : Option (Prop × SC)} (hz : z = none) (hc : ctx.all id = false) (hd : dOk E o.dst) (h : rec_ (dr.next i p) (σ.put o.dst (.c (.v undef)))) : WhX P E rec_ dr i p o σ ctx z := by
 rw [hz]
 exact ⟨fun q => (by rw [hc] at q; cases q), fun _ => ⟨hd, h⟩⟩
/-- two bools, compared, taken first -/
theorem take_bool {rec_ : Cmd → St → Prop} {dr : Dr} {q : Nat} {p : Plan} {bo : BinOp} {ty t2 : TypeId} {x y : Operand} {vx vy : SV} {a b : Bool} (r : Bool) (ho : o.op = .binOp bo ty x y t2) (hx : ev σ x = some vx) (hxv : vx.den = .bool a) (hy : ev σ y = some vy) (hyv : vy.den = .bool b)
  (hb : ∀ w, (binOp bo ty (.bool a) (.bool b)).run P w = .ok (.bool r) w) (hd : dOk E o.dst) (h : rec_ (dr.next q p) (σ.put o.dst (.c (.v (.bool r))))) : TakeStop P E rec_ dr q p o σ := by
 refine ⟨.c (.v (.bool r)), hd, fun ac w hr => ?_, h⟩
 have hx' : ac.eval x = .bool a := (ev_den hr hx).trans hxv
 have hy' : ac.eval y = .bool b := (ev_den hr hy).trans hyv
 have hg : (eqGuard bo ty x y (.bool a) (.bool b)).run P w = .ok () w := by
  unfold eqGuard
  cases bo <;> rfl
 show (execOp ac.eval o).run P w = .ok (.value (.bool r)) w
 unfold execOp
 simp only [ho, hx', hy', hg, hb, Sem.run_bind, Sem.run_pure, Result.andThen_ok]
end
set_option maxRecDepth 100000 in
set_option maxHeartbeats 16000000 in
theorem lKeys_bad {s : Sta} {sv : Value} {nm pre dl after : ByteArray} {most : Int} {G0 : GW} (hW : G0.Wf) (hs : StaG G0 sv s) (hok : okSt s = true) (hp : pre.size ≤ maxLen) (hc : lchkS s nm pre most ≠ 0) :
  Calls Tryz.prog 17 #[sv, .string nm, .string pre, .string dl, .string after, .int .i64 most] G0.w (Ret G0 fun v _ => v = .tuple #[.slice none 0 0, .bool false, .int .i64 (lchkS s nm pre most)]) := by
 obtain ⟨A1, c1, A2, c2, A3, c3, A4, c4, A5, c5, rfl, hP⟩ := hs.form
 have hml := max_le
 refine enterS (G := G0) (n := 105) 3000 hW Tryz.func17 rfl Tryz.ntmps17 (by simp) ?_
 have q : decide (lchkS s nm pre most = 0) = false := decide_eq_false hc
 simp only [go_sem, simprocAttr]
 intro g1
 refine pk (call_does (fun v _ => v = .int .i64 (lchkS s nm pre most)) rfl rfl (by kernel_rfl) rfl (dk rfl) (fun G hG => lcheck_does hG.wf (hP.mono (hG.le G0 (by simp))).g hok hp)) ?_
 rintro _ ⟨_, G1, rfl, hn1, rfl⟩
 clear hn1
 simp only [go_sem, simprocAttr, q, Bool.not_false]
 refine fin_ret (G := G0) Tryz.results17 ?_
 simp only [go_sem, simprocAttr]
 intro aa w' _ _
 rfl
theorem start_g (G : GW) : StaG G (.agg #[.int .i64 1, .int .i64 0, .slice none 0 0, .slice none 0 0, .slice none 0 0, .slice none 0 0, .slice none 0 0]) startS := ⟨_, _, _, _, _, rfl, Sq.nil, Sq.nil, Sq.nil, Sq.nil, Sq.nil⟩
theorem start_chk (nm pre : ByteArray) (most : Int) : lchkS startS nm pre most = 6 := rfl
set_option maxRecDepth 100000 in
set_option maxHeartbeats 4000000 in
theorem lTells_does {G0 : GW} (hW : G0.Wf) : Calls Tryz.prog 19 #[] G0.w (Ret G0 fun v _ => v = .bool true) := by
 refine enterS (G := G0) (n := 25) 3000 hW Tryz.func19 rfl Tryz.ntmps19 (by simp) ?_
 simp only [go_sem, simprocAttr]
 refine pk (call_does (fun v _ => v = .tuple #[.slice none 0 0, .bool false, .int .i64 6]) rfl rfl (by kernel_rfl) rfl (dk rfl) (fun G hG => lKeys_bad (s := startS) hG.wf (start_g G) start_ok (Nat.zero_le _) (by rw [start_chk]; decide))) ?_
 rintro _ ⟨_, G1, rfl, hn1, rfl⟩
 clear hn1
 simp only [go_sem, simprocAttr]
 refine pk (call_does (fun v _ => v = .tuple #[.slice none 0 0, .bool false, .int .i64 6]) rfl rfl (by kernel_rfl) rfl (dk rfl) (fun G hG => lVersions_bad (s := startS) hG.wf (start_g G) start_ok (Nat.zero_le _) (by rw [start_chk]; decide))) ?_
 rintro _ ⟨_, G2, rfl, hn2, rfl⟩
 clear hn2
 simp only [go_sem, simprocAttr]
 refine fin_ret (G := G0) Tryz.results19 ?_
 simp only [go_sem, simprocAttr]
 intro aa w' _ _
 rfl
/-! ### in plain words -/
def flagR : Option ByteArray → List Ver → List RowM
 | _, [] => []
 | p, x :: l => rowV x (!decide (p = some x.key)) :: flagR (some x.key) l
theorem grpRows_snoc {g : List Ver} (hg : g ≠ []) (x : Ver) : grpRows (g ++ [x]) = grpRows g ++ [rowV x false] := by
 cases g with
 | nil => exact absurd rfl hg
 | cons y g => simp [grpRows]
theorem versRows_add {out : List (List Ver)} (hn : ∀ g ∈ out, g ≠ []) (x : Ver) : versRows (addV out x) = versRows out ++ [rowV x (!decide (keyEnd out = some x.key))] := by
 by_cases h : keyEnd out = some x.key
 ·have hne : out ≠ [] := fun e => by subst e; simp [keyEnd] at h
  obtain ⟨init, g, rfl⟩ : ∃ init g, out = init ++ [g] := ⟨_, _, (getLast_split hne []).symm⟩
  rw [decide_eq_true h]
  unfold addV
  rw [if_pos h]
  unfold versRows
  simp only [List.dropLast_concat, List.getLast?_append, List.getLast?_singleton, Option.some_or, Option.getD_some, List.flatMap_append, List.flatMap_cons, List.flatMap_nil, List.append_nil]
  rw [grpRows_snoc (hn g (by simp))]
  simp
 ·rw [decide_eq_false h, addV_new h]
  unfold versRows
  simp [grpRows]
theorem addV_ne {out : List (List Ver)} (hn : ∀ g ∈ out, g ≠ []) (x : Ver) : ∀ g ∈ addV out x, g ≠ [] := grpS_neG [x] out hn
theorem versRows_flag : ∀ (l : List Ver) (out : List (List Ver)), (∀ g ∈ out, g ≠ []) → versRows (l.foldl addV out) = versRows out ++ flagR (keyEnd out) l
 | [], out, _ => by simp [flagR]
 | x :: l, out, hn => by
  rw [List.foldl_cons, versRows_flag l _ (addV_ne hn x), versRows_add hn, keyEnd_addV, List.append_assoc]
  rfl
theorem versRows_is (l : List Ver) : versRows (grpS l) = flagR none l := by
 have := versRows_flag l [] fun g h => by cases h
 simpa [grpS, versRows, keyEnd] using this
theorem flagR_zero {p : Option ByteArray} {l : List Ver} {x : Ver} (h : l[0]? = some x) : (flagR p l)[0]? = some (rowV x (!decide (p = some x.key))) := by
 cases l with
 | nil => simp at h
 | cons y l => simp at h; subst h; rfl
theorem flagR_at : ∀ {l : List Ver} {p : Option ByteArray} {i : Nat} {x y : Ver}, l[i]? = some y → l[i + 1]? = some x → (flagR p l)[i + 1]? = some (rowV x (!decide (y.key = x.key)))
 | [], _, _, _, _, h, _ => by simp at h
 | a :: l, p, 0, x, y, h1, h2 => by
  simp at h1
  subst h1
  have h2' : l[0]? = some x := by simpa using h2
  have := flagR_zero (p := some a.key) h2'
  simpa [flagR] using this
 | a :: l, p, i + 1, x, y, h1, h2 => by
  have := flagR_at (p := some a.key) (l := l) (i := i) (x := x) (y := y) (by simpa using h1) (by simpa using h2)
  simpa [flagR] using this
theorem flagR_len : ∀ (l : List Ver) (p : Option ByteArray), (flagR p l).length = l.length
 | [], _ => rfl
 | x :: l, _ => by simp [flagR, flagR_len l]
theorem pref_nil (k : ByteArray) : prefB k ⟨#[]⟩ = true := by
 unfold prefB
 have e : k.extract 0 (⟨#[]⟩ : ByteArray).size = ⟨#[]⟩ := by
  have : (k.extract 0 0).size = 0 := by simp
  have h2 : (k.extract 0 0).data = #[] := Array.eq_empty_of_size_eq_zero this
  show k.extract 0 0 = ⟨#[]⟩
  cases hq : k.extract 0 0
  rw [hq] at h2
  simp only at h2
  rw [h2]
 rw [e, decide_eq_true (show ((⟨#[]⟩ : ByteArray).size : Int) ≤ (k.size : Int) from by show ((0 : Nat) : Int) ≤ _; omega)]
 rfl
theorem sel_nil (nm : ByteArray) : selB nm ⟨#[]⟩ = fun x => decide (x.bucket = nm) := by
 funext x
 unfold selB outB
 rw [pref_nil]
 simp
theorem chk_ok {s : Sta} (h : nmB s.bkts = AB) (n : Int) {most : Int} (h1 : 1 ≤ most) (h2 : most ≤ 50) : lchkS s (nameS n) ⟨#[]⟩ most = 0 := by
 unfold lchkS
 rw [any_name h, if_neg (by simp), if_neg (by decide), decide_eq_false (by omega), decide_eq_false (by omega)]
 rfl
theorem ids_ne {s : Sta} (hg : Good s) {p : Ver → Bool} {d : List Ver} (hp : d.Perm (s.vers.filter p)) : d.Pairwise fun a b => a.id ≠ b.id := by
 have h : (s.vers.filter p).Pairwise fun a b => a.id ≠ b.id := (hg.ids.filter _).imp fun {a b} h => by omega
 exact hp.symm.pairwise h fun {a b} h => Ne.symm h
end Go.Proofs.YtohdfcnjcpjdcaaGreat
/- two bools, compared, under a choice -/
namespace Go.Proofs.YtohdfcnjcpjdcaaGreat
open Go.RowKit
section
variable {P : Program} {E : Env} {σ : St} {o : Oper}
/-- two bools, compared -/
theorem booleq_does {ty t2 : TypeId} {x y : Operand} {xv yv : SV} {a b : Bool} (ho : o.op = .binOp .eql ty x y t2) (ht : P.underlying ty = some .bool) (hx : ev σ x = some xv) (hxv : xv.den = .bool a) (hy : ev σ y = some yv) (hyv : yv.den = .bool b) (hd : dOk E o.dst) :
  Does P E σ o (fun σ' => σ' = σ.put o.dst (.c (.v (.bool (a == b))))) := by
 intro ac w Q next hr hn
 have hx' : ac.eval x = .bool a := (ev_den hr.see hx).trans hxv
 have hy' : ac.eval y = .bool b := (ev_den hr.see hy).trans hyv
 have he : (Op.equal ty (.bool a) (.bool b)).run P w = .ok (a == b) w := run_equalIn_bool' w _ ty a b ht
 have hb : (binOp .eql ty (.bool a) (.bool b)).run P w = .ok (.bool (a == b)) w := by
  simp only [binOp]
  rw [Sem.run_bind, he]
  rfl
 have hg : (eqGuard .eql ty x y (.bool a) (.bool b)).run P w = .ok () w := by
  unfold eqGuard
  rfl
 have hrun : (execOp ac.eval o).run P w = .ok (.value (.bool (a == b))) w := by
  unfold execOp
  simp only [ho, hx', hy', hg, hb, Sem.run_bind, Sem.run_pure, Result.andThen_ok]
 exact wp_of_value hrun (hn _ _ _ rfl (hr.put o.dst (.c (.v _)) (dOk_lt hd)))
theorem wgX_do {rec_ : Cmd → St → Prop} {k : Cont} {ops : Array Oper} {rest : List Oper} {ctx : List Bool} {z : Option (Prop × SC)} (hz : z = none) (hs : stepO P o σ = .no) (hc : ctx.all id = true) (h : Ok E σ (wpList P ops (k.den P) (o :: rest))) : WgX P E rec_ k ops rest o σ ctx z := by
 rw [hz]
 refine ⟨fun _ => ?_, fun q => by rw [hc] at q; cases q⟩
 rw [hs]
 exact h
end
end Go.Proofs.YtohdfcnjcpjdcaaGreat
