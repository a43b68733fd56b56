/- Shifts, cap, cuts of rows of one's own, the end that hands rows over; Grow, Concat, head, Equal. Conditions: as each law states them. -/
import Derived.Test.YtomfladifefomaaH1
namespace Go.Proofs.Ytomfladifefomaa
open Go.RowKit
set_option linter.unusedSimpArgs false
section
variable {P : Program} {E : Env} {σ : St} {o : Oper}
/-- a shift to the right by a number of bits that is known; m: the power of two -/
theorem shr_does {ty t2 : TypeId} {x y : Operand} {a b m : Int} {kk : IntKind} (ho : o.op = .binOp .shr ty x y t2) (hx : ev σ x = some (.c (.v (.int .i64 a)))) (hy : ev σ y = some (.c (.v (.int kk b)))) (h0 : 0 ≤ b) (h1 : b ≤ 64) (hm : (2 : Int) ^ b.toNat = m) (hd : dOk E o.dst) :
    Does P E σ o (fun σ' => σ' = σ.put o.dst (.c (.v (.int .i64 (a / m))))) := by
  intro ac w Q next hr hn
  have hx' : ac.eval x = .int .i64 a := ev_den hr.see hx
  have hy' : ac.eval y = .int kk b := ev_den hr.see hy
  have hrun : (execOp ac.eval o).run P w = .ok (.value (.int .i64 (a / m))) w := by
    unfold execOp
    simp only [ho, hx', hy', eqGuard_shr, binOp_shr, shift_shr .i64 kk a b h0 h1, hm, Sem.run_bind, Sem.run_pure, Result.andThen_ok]
  exact wp_of_value hrun (hn _ _ _ rfl (hr.put o.dst (.c (.v _)) (dOk_lt hd)))
theorem cap_does {t e : TypeId} {x : Operand} {A : Option Addr} {n c : Nat} (ho : o.op = .call ⟨.builtin .cap, #[x], #[t]⟩) (ht : tSlice P t = some e) (hx : ev σ x = some (.c (.v (.slice A n c)))) (hd : dOk E o.dst) :
    Does P E σ o (fun σ' => σ' = σ.put o.dst (.c (.v (.int .i64 (c : Int))))) := by
  intro ac w Q next hr hn
  have hx' : ac.eval x = .slice A n c := ev_den hr.see hx
  have hrun : (execOp ac.eval o).run P w = .ok (.value (.int .i64 (c : Int))) w := by
    unfold execOp
    simp [ho, resolve, hx', invoke, builtin, Builtin.cap_, run_underlying (tSlice_spec ht), goInt]
  exact wp_of_value hrun (hn _ _ _ rfl (hr.put o.dst (.c (.v _)) (dOk_lt hd)))
/-- a row of one's own, cut shorter -/
theorem cut_row_does {t e k : Nat} {x : Operand} {hi : Option Operand} {A : Option Addr} {n c n' : Nat} {xs : List Value} {R1 R2 : List Rw} (ho : o.op = .slice t x none hi none) (ht : tSlice P t = some e) (hk : tSize P e = some k)
    (hR : σ.rows = R1 ++ ⟨.slice A n c, e, k, n, xs⟩ :: R2) (hx : ev σ x = some (.c (.v (.slice A n c)))) (hhi : cutArg σ hi n (0 + n')) (hd : dOk E o.dst) (h1 : n' ≤ n) :
    Does P E σ o (fun σ' => σ' = (σ.rowsTo (R1 ++ ⟨.slice A n' c, e, k, n', xs.take (n' * k)⟩ :: R2)).put o.dst (.c (.v (.slice A n' c)))) := by
  intro a w Q next hr hn
  obtain ⟨inf, hinf, hsz⟩ := tSize_spec hk
  have hrow := hr.rows _ (by rw [hR]; simp : (⟨.slice A n c, e, k, n, xs⟩ : Rw) ∈ σ.rows)
  have hnc : n ≤ c := by
    rcases hrow.2 with ⟨q, q2⟩ | ⟨g, cap, cur, q, _, _, hh, _⟩
    · cases q; exact Nat.le_of_eq q2
    · cases q; exact hh
  have hx' : a.eval x = .slice A n c := ev_den hr.see hx
  have arg : ∀ (y : Option Operand) (d r : Nat), cutArg σ y d r → (y.map a.eval = none ∧ r = d) ∨ ∃ kk, y.map a.eval = some (.int kk (r : Int)) := by
    intro y d r h
    cases y with
    | none => exact .inl ⟨rfl, h⟩
    | some y =>
      obtain ⟨kk, j, hy, rfl⟩ := h
      exact .inr ⟨kk, congrArg some (ev_den hr.see hy)⟩
  have hAA : (if 0 + c = 0 then A else A.map (·.add (0 * k))) = A := by
    split
    · rfl
    · cases A with
      | none => rfl
      | some ad => simp [Addr.add]
  have hrun : (execOp a.eval o).run P w = .ok (.value (.slice A n' c)) w := by
    have := run_cut (tSlice_spec ht) hinf w A n c 0 n' c none _ none (run_bounds w n c 0 (0 + n') (0 + c) none _ none (.inl ⟨rfl, rfl⟩) (arg hi n (0 + n') hhi) (.inl ⟨rfl, by omega⟩) (by simp) (by omega) (by omega) (by omega))
    rw [hsz, hAA] at this
    unfold execOp
    simp only [ho, hx', Option.map_none, Sem.run_bind, this, Result.andThen_ok, Sem.run_pure]
  have hown : w.ownsRow E.W.heap.size e k (.slice A n' c) n' (xs.take (n' * k)) := by
    refine ⟨by rw [List.length_take, hrow.1]; exact Nat.min_eq_left (Nat.mul_le_mul_right k h1), ?_⟩
    rcases hrow.2 with ⟨q, q2⟩ | ⟨g, cap, cur, q, h2, h3, h4, h5, h6, h7⟩
    · cases q
      exact .inl ⟨by congr 1; omega, by omega⟩
    · cases q
      exact .inr ⟨g, _, cur, rfl, h2, h3, by omega, h5, h6, by rw [← (show cur.toList.take (n * k) = xs from h7), List.take_take, Nat.min_eq_left (Nat.mul_le_mul_right k h1)]⟩
  have hob : ∀ m, (Value.slice A m c).ownBlock = (Value.slice A n c).ownBlock := fun m => by cases A <;> rfl
  exact wp_of_value hrun (hn _ _ _ rfl ((hr.grow (r' := ⟨.slice A n' c, e, k, n', xs.take (n' * k)⟩) hR ⟨rfl, rfl, rfl, Nat.le_refl _, fun _ _ _ => rfl⟩ hown (.inl (hob n'))).put o.dst (.c (.v _)) (dOk_lt hd)))
end
/-- behind a piece of code the states are among these: what comes is gone through once -/
theorem cut_code {ι : Type} {P : Program} {E : Env} {k : Cont} {N : Nat} {c : Code} {σ : St} (σI : ι → St) (C : ι → Prop) (hk : k.ok) (h1 : ∀ i, C i → W P E N k .norm (σI i))
    (h2 : Ok E σ (sem P (.inv (Again E σI C (fun _ => 0) 1) k) (.code c))) : Ok E σ (sem P k (.code c)) := fun a w hr =>
  Code.wp_mono (fun e a w h => by
    cases e with
    | normal =>
      obtain ⟨i, ⟨hC, hr⟩, _⟩ := (h : Again E σI C (fun _ => 0) 1 a w)
      exact W_sound N k .norm (σI i) hk (h1 i hC) trivial a w hr
    | _ => exact h) (h2 a w hr)
/-- the same, with all that comes behind out of sight -/
theorem cut_code2 {ι : Type} {P : Program} {E : Env} {k : Cont} {N : Nat} {c : Code} {σ : St} (σI : ι → St) (C : ι → Prop) (hk : k.ok) (h1 : ∀ i, C i → W P E N k .norm (σI i))
    (h2 : ∀ (k' : Cont) (J : Act → World → Prop), k'.ok → (∀ (i : ι) (τ : St), C i → Sub τ (σI i) → Ok E τ J) → Ok E σ (sem P (.inv J k') (.code c))) : Ok E σ (sem P k (.code c)) :=
  cut_code σI C hk h1 (h2 k _ hk fun i _ hC hs => again_ok i hC (by decide) hs)
/-- the end of a call that hands its rows over -/
def FinO (P : Program) (E : Env) (G : GW) (σ : St) (rs : List ResultVar) (T : Value → List Rw → GW → Prop) : Prop := match resL P σ rs with
  | some (s, vs) => s ∧ ∀ a w, Rel E σ a w → T (resV vs) σ.rows ⟨fun k => G.M k ∨ ∃ r ∈ σ.rows, r.v.ownBlock = some k, w⟩
  | none => False
theorem fin_retO {P : Program} {G : GW} {n : Nat} {σ : St} {fn : Func} {rs : Array ResultVar} {T : Value → List Rw → GW → Prop} (hrs : fn.results = rs) (h : FinO P ⟨G.w, Non, G.M, n⟩ G σ rs.toList T) :
    Ok ⟨G.w, Non, G.M, n⟩ σ (bodyPost P fn (RetO G T) .ret) := by
  unfold FinO at h
  cases hl : resL P σ rs.toList with
  | none => rw [hl] at h; exact h.elim
  | some x =>
    obtain ⟨s, vs⟩ := x
    rw [hl] at h
    exact ret_ok hrs hl h.1 fun a w hr => ⟨_, σ.rows, rfl, hr.rows, hr.rapart, h.2 a w hr, hr.chg⟩
def finOA (E : Env) (G : GW) (σ : St) (T : Value → List Rw → GW → Prop) (vs : List SV) : Prop := ∀ a w, Rel E σ a w → T (resV vs) σ.rows ⟨fun k => G.M k ∨ ∃ r ∈ σ.rows, r.v.ownBlock = some k, w⟩
def finOB (E : Env) (G : GW) (σ : St) (T : Value → List Rw → GW → Prop) : Option (Prop × List SV) → Prop
  | some (s, vs) => s ∧ finOA E G σ T vs
  | none => False
section
variable {P : Program} {E : Env} {G : GW} {σ : St} {T : Value → List Rw → GW → Prop}
@[go_sem] theorem FinO_def (rs : List ResultVar) : FinO P E G σ rs T = finOB E G σ T (resL P σ rs) := by
  unfold FinO finOB finOA; cases resL P σ rs <;> rfl
@[go_sem] theorem finOB_some (s : Prop) (vs : List SV) : finOB E G σ T (some (s, vs)) = (s ∧ finOA E G σ T vs) := rfl
end
theorem rowcell {G : GW} {x : List UInt8} {cs : List Value} (h : RowG G x cs) : ∃ A c, cs = [.slice A x.length c] ∧ ByG G (.slice A x.length c) x := by
  obtain ⟨u, rfl, h⟩ := h
  obtain ⟨A, c, rfl, _⟩ := h.form
  exact ⟨A, c, rfl, h⟩
set_option maxRecDepth 100000 in
set_option maxHeartbeats 4000000 in
theorem grow_does {n : Int} (h0 : 0 ≤ n) (h1 : n ≤ 1000000) {G0 : GW} (hW : G0.Wf) :
    Calls Try.prog 83 #[.slice none 0 0, .int .i64 n] G0.w (RetO G0 fun v R _ => ∃ A c, v = .slice A 0 c ∧ R = [⟨.slice A 0 c, 5, 1, 0, []⟩]) := by
  obtain ⟨k, rfl⟩ := Int.eq_ofNat_of_zero_le h0
  refine enter (G := G0) (n := 27) 3000 hW Try.func83 rfl Try.ntmps83 (by simp) ?_
  have q0 : decide ((k : Int) < 0) = false := decide_eq_false (by omega)
  simp only [go_sem, Nat.reduceAdd, Nat.reduceSub, Nat.reduceMul, Nat.reduceEqDiff, Nat.reduceLT, Nat.reduceLeDiff, Nat.reduceBEq, Nat.reduceBNe, Int.reduceLT, Int.reduceLE, Int.reduceEq, Int.reduceAdd, Int.reduceSub, Int.reduceNeg, reduceCtorEq, q0]
  refine row_ok 5 1 ?_
  refine plain_ok (N := 3000) (cap_does rfl tySlice23 rfl (by simp only [dOk_some, dOk_none, Nat.reduceLT])) (QOk_body _ _ _) (by first | exact .inl rfl | exact .inr ⟨_, _, rfl, rfl⟩) ?_
  rintro _ rfl
  simp only [go_sem, Nat.reduceAdd, Nat.reduceSub, Nat.reduceMul, Nat.reduceEqDiff, Nat.reduceLT, Nat.reduceLeDiff, Nat.reduceBEq, Nat.reduceBNe, Int.reduceLT, Int.reduceLE, Int.reduceEq, Int.reduceAdd, Int.reduceSub, Int.reduceNeg, reduceCtorEq]
  refine ⟨by omega, by omega, ?_⟩
  have e0 : (k : Int) - (((0 : Nat) : Int) - ((0 : Nat) : Int)) = (k : Int) := by omega
  by_cases hk : 0 < k
  · have q1 : decide (0 < (k : Int)) = true := decide_eq_true (by omega)
    simp only [go_sem, Nat.reduceAdd, Nat.reduceSub, Nat.reduceMul, Nat.reduceEqDiff, Nat.reduceLT, Nat.reduceLeDiff, Nat.reduceBEq, Nat.reduceBNe, Int.reduceLT, Int.reduceLE, Int.reduceEq, Int.reduceAdd, Int.reduceSub, Int.reduceNeg, reduceCtorEq, e0, q1]
    refine plain_ok (N := 3000) (cap_does rfl tySlice23 rfl (by simp only [dOk_some, dOk_none, Nat.reduceLT])) (QOk_body _ _ _) (by first | exact .inl rfl | exact .inr ⟨_, _, rfl, rfl⟩) ?_
    rintro _ rfl
    simp only [go_sem, Nat.reduceAdd, Nat.reduceSub, Nat.reduceMul, Nat.reduceEqDiff, Nat.reduceLT, Nat.reduceLeDiff, Nat.reduceBEq, Nat.reduceBNe, Int.reduceLT, Int.reduceLE, Int.reduceEq, Int.reduceAdd, Int.reduceSub, Int.reduceNeg, reduceCtorEq]
    refine plain_ok (N := 3000) (cut_row_does (R1 := []) (n' := 0) rfl tySlice23 tySize5 rfl rfl ⟨_, _, rfl, by simp⟩ (by simp only [dOk_some, dOk_none, Nat.reduceLT]) (by omega)) (QOk_body _ _ _) (by first | exact .inl rfl | exact .inr ⟨_, _, rfl, rfl⟩) ?_
    rintro _ rfl
    simp only [go_sem, Nat.reduceAdd, Nat.reduceSub, Nat.reduceMul, Nat.reduceEqDiff, Nat.reduceLT, Nat.reduceLeDiff, Nat.reduceBEq, Nat.reduceBNe, Int.reduceLT, Int.reduceLE, Int.reduceEq, Int.reduceAdd, Int.reduceSub, Int.reduceNeg, reduceCtorEq]
    refine plain_ok (N := 3000) (append_fill_does (R1 := []) (m := k) rfl tySlice23 tyInt3 tyApp5 tyZero5 rfl rfl rfl rfl (by simp only [dOk_some, dOk_none, Nat.reduceLT]) rfl (by unfold maxLen; omega) (by omega)) (QOk_body _ _ _) (by first | exact .inl rfl | exact .inr ⟨_, _, rfl, rfl⟩) ?_
    rintro _ ⟨A2, c2, rfl⟩
    simp only [go_sem, Nat.reduceAdd, Nat.reduceSub, Nat.reduceMul, Nat.reduceEqDiff, Nat.reduceLT, Nat.reduceLeDiff, Nat.reduceBEq, Nat.reduceBNe, Int.reduceLT, Int.reduceLE, Int.reduceEq, Int.reduceAdd, Int.reduceSub, Int.reduceNeg, reduceCtorEq]
    refine plain_ok (N := 3000) (cut_row_does (R1 := []) (n' := 0) rfl tySlice23 tySize5 rfl rfl ⟨_, _, rfl, by simp⟩ (by simp only [dOk_some, dOk_none, Nat.reduceLT]) (by omega)) (QOk_body _ _ _) (by first | exact .inl rfl | exact .inr ⟨_, _, rfl, rfl⟩) ?_
    rintro _ rfl
    simp only [go_sem, Nat.reduceAdd, Nat.reduceSub, Nat.reduceMul, Nat.reduceEqDiff, Nat.reduceLT, Nat.reduceLeDiff, Nat.reduceBEq, Nat.reduceBNe, Int.reduceLT, Int.reduceLE, Int.reduceEq, Int.reduceAdd, Int.reduceSub, Int.reduceNeg, reduceCtorEq]
    refine fin_retO (G := G0) Try.results83 ?_
    simp only [go_sem, Nat.reduceAdd, Nat.reduceSub, Nat.reduceMul, Nat.reduceEqDiff, Nat.reduceLT, Nat.reduceLeDiff, Nat.reduceBEq, Nat.reduceBNe, Int.reduceLT, Int.reduceLE, Int.reduceEq, Int.reduceAdd, Int.reduceSub, Int.reduceNeg, reduceCtorEq]
    intro a w' _
    exact ⟨A2, c2, rfl, by simp⟩
  · have q1 : decide (0 < (k : Int)) = false := decide_eq_false (by omega)
    simp only [go_sem, Nat.reduceAdd, Nat.reduceSub, Nat.reduceMul, Nat.reduceEqDiff, Nat.reduceLT, Nat.reduceLeDiff, Nat.reduceBEq, Nat.reduceBNe, Int.reduceLT, Int.reduceLE, Int.reduceEq, Int.reduceAdd, Int.reduceSub, Int.reduceNeg, reduceCtorEq, e0, q1]
    refine fin_retO (G := G0) Try.results83 ?_
    simp only [go_sem, Nat.reduceAdd, Nat.reduceSub, Nat.reduceMul, Nat.reduceEqDiff, Nat.reduceLT, Nat.reduceLeDiff, Nat.reduceBEq, Nat.reduceBNe, Int.reduceLT, Int.reduceLE, Int.reduceEq, Int.reduceAdd, Int.reduceSub, Int.reduceNeg, reduceCtorEq]
    intro a w' _
    exact ⟨none, 0, rfl, rfl⟩
theorem flat_succ {α : Type} {l : List (List α)} {v : Nat} {x : List α} (h : l[v]? = some x) : (l.take (v + 1)).flatten = (l.take v).flatten ++ x := by
  rw [List.take_add_one, h]
  simp
theorem flat_le {α : Type} (l : List (List α)) (v : Nat) : (l.take v).flatten.length ≤ l.flatten.length := by
  conv => rhs; rw [← List.take_append_drop v l]
  rw [List.flatten_append, List.length_append]
  omega
set_option maxRecDepth 100000 in
set_option maxHeartbeats 4000000 in
/-- rows one behind the other -/
theorem concat_does {lv : Value} {l : List (List UInt8)} (hs : l.flatten.length ≤ 100000) {G0 : GW} (hW : G0.Wf) (h : SafG G0 lv l) :
    Calls Try.prog 56 #[lv] G0.w (Ret G0 fun v G => ∃ A c, v = .slice A l.flatten.length c ∧ ByG G (.slice A l.flatten.length c) l.flatten) := by
  obtain ⟨A, c, rfl, hc1, hc2⟩ := ScR.form (Sq.sc h)
  have hml := max_le
  refine enter (G := G0) (n := 36) 3000 hW Try.func56 rfl Try.ntmps56 (by simp) ?_
  simp only [go_sem, Nat.reduceAdd, Nat.reduceSub, Nat.reduceMul, Nat.reduceEqDiff, Nat.reduceLT, Nat.reduceLeDiff, Nat.reduceBEq, Nat.reduceBNe, Int.reduceLT, Int.reduceLE, Int.reduceEq, Int.reduceAdd, Int.reduceSub, Int.reduceNeg, reduceCtorEq]
  refine loop_ok (N := 3000) (ι := Nat × GW)
    (fun i => match i with | (v, G) => ⟨[(0, .c (.v (.slice A l.length c))), (3, .c (.v (.int .i64 ((l.take v).flatten.length : Int)))), (9, .c (.v (.slice A l.length c))), (10, .c (.v (.int .i64 (l.length : Int)))), (11, .c (.v (.int .i64 (v : Int))))], [], [], [], [G], 0⟩)
    (fun i => match i with | (v, G) => v ≤ l.length ∧ SafG G (.slice A l.length c) l)
    (fun i => l.length - i.1) (QOk_body _ _ _) (0, G0) ⟨by omega, h⟩ (by simp only [go_sem, Nat.reduceAdd, Nat.reduceSub, Nat.reduceMul, Nat.reduceEqDiff, Nat.reduceLT, Nat.reduceLeDiff, Nat.reduceBEq, Nat.reduceBNe, Int.reduceLT, Int.reduceLE, Int.reduceEq, Int.reduceAdd, Int.reduceSub, Int.reduceNeg, reduceCtorEq]; simp) ?_
  clear h
  rintro ⟨v, G1⟩ ⟨hv, hl⟩
  simp only
  have hfl := flat_le l v
  by_cases hlt : v < l.length
  · have q1 : decide ((v : Int) < (l.length : Int)) = true := decide_eq_true (by omega)
    obtain ⟨x, hx⟩ : ∃ x, l[v]? = some x := ⟨_, List.getElem?_eq_getElem hlt⟩
    have hfs := flat_succ hx
    have hfl2 := flat_le l (v + 1)
    have hlen : (l.take (v + 1)).flatten.length = (l.take v).flatten.length + x.length := by rw [hfs, List.length_append]
    simp only [go_sem, Nat.reduceAdd, Nat.reduceSub, Nat.reduceMul, Nat.reduceEqDiff, Nat.reduceLT, Nat.reduceLeDiff, Nat.reduceBEq, Nat.reduceBNe, Int.reduceLT, Int.reduceLE, Int.reduceEq, Int.reduceAdd, Int.reduceSub, Int.reduceNeg, reduceCtorEq, q1]
    refine plain_ok (N := 3000) (elem_does (R := RowG) (l := l) (m := v) rfl tySlice29 tySize23 rfl rfl (by simp only [dOk_some, dOk_none, Nat.reduceLT]) rfl hx (fun G hG => Sq.mono hl rowG_mono (hG.le G1 (by simp)))) (QOk_body _ _ _) (by first | exact .inl rfl | exact .inr ⟨_, _, rfl, rfl⟩) ?_
    rintro _ ⟨gw, ow, cs, G2, _, hcR, rfl⟩
    obtain ⟨A7, c7, rfl, hb7⟩ := rowcell hcR
    have q2 : decide (((l.take v).flatten.length : Int) + (x.length : Int) < 0) = false := decide_eq_false (by omega)
    have hcast : ((l.take v).flatten.length : Int) + (x.length : Int) = ((l.take (v + 1)).flatten.length : Int) := by rw [hlen]; exact (Int.natCast_add _ _).symm
    simp only [go_sem, Nat.reduceAdd, Nat.reduceSub, Nat.reduceMul, Nat.reduceEqDiff, Nat.reduceLT, Nat.reduceLeDiff, Nat.reduceBEq, Nat.reduceBNe, Int.reduceLT, Int.reduceLE, Int.reduceEq, Int.reduceAdd, Int.reduceSub, Int.reduceNeg, reduceCtorEq, q2]
    refine ⟨by omega, by omega, ?_⟩
    rw [hcast]
    exact again_ok (v + 1, G1) ⟨by omega, hl⟩ (by simp only; omega) (by simp only [go_sem, Nat.reduceAdd, Nat.reduceSub, Nat.reduceMul, Nat.reduceEqDiff, Nat.reduceLT, Nat.reduceLeDiff, Nat.reduceBEq, Nat.reduceBNe, Int.reduceLT, Int.reduceLE, Int.reduceEq, Int.reduceAdd, Int.reduceSub, Int.reduceNeg, reduceCtorEq]; simp)
  · have q1 : decide ((v : Int) < (l.length : Int)) = false := decide_eq_false (by omega)
    obtain rfl : v = l.length := by omega
    simp only [go_sem, Nat.reduceAdd, Nat.reduceSub, Nat.reduceMul, Nat.reduceEqDiff, Nat.reduceLT, Nat.reduceLeDiff, Nat.reduceBEq, Nat.reduceBNe, Int.reduceLT, Int.reduceLE, Int.reduceEq, Int.reduceAdd, Int.reduceSub, Int.reduceNeg, reduceCtorEq, q1]
    rw [List.take_length]
    refine plain_ok (N := 3000) (callO_does (fun v R _ => ∃ A c, v = .slice A 0 c ∧ R = [⟨.slice A 0 c, 5, 1, 0, []⟩]) rfl rfl (by kernel_rfl) rfl (by simp only [dOk_some, dOk_none, Nat.reduceLT]) (fun G hG => grow_does (by omega) (by omega) hG.wf)) (QOk_body _ _ _) (by first | exact .inl rfl | exact .inr ⟨_, _, rfl, rfl⟩) ?_
    rintro _ ⟨v, R, G2, ⟨A2, c2, rfl, rfl⟩, hn2, rfl⟩
    have hl12 : G1.Le G2 := hn2.le G1 (by simp [St.rowsTo])
    clear hn2
    simp only [List.cons_append, List.nil_append]
    simp only [go_sem, Nat.reduceAdd, Nat.reduceSub, Nat.reduceMul, Nat.reduceEqDiff, Nat.reduceLT, Nat.reduceLeDiff, Nat.reduceBEq, Nat.reduceBNe, Int.reduceLT, Int.reduceLE, Int.reduceEq, Int.reduceAdd, Int.reduceSub, Int.reduceNeg, reduceCtorEq]
    refine loop_ok (N := 3000) (ι := Nat × Option Addr × Nat × GW)
      (fun i => match i with | (v, A', c', G) => ⟨[(6, .c (.v (.slice A' (l.take v).flatten.length c'))), (25, .c (.v (.slice A l.length c))), (26, .c (.v (.int .i64 (l.length : Int)))), (27, .c (.v (.int .i64 (v : Int))))], [], [⟨.slice A' (l.take v).flatten.length c', 5, 1, (l.take v).flatten.length, (l.take v).flatten.map enc8⟩], [], [G], 0⟩)
      (fun i => match i with | (v, _, _, G) => v ≤ l.length ∧ SafG G (.slice A l.length c) l)
      (fun i => l.length - i.1) (QOk_body _ _ _) (0, A2, c2, G2) ⟨by omega, Sq.mono hl rowG_mono hl12⟩ (by simp only [go_sem, Nat.reduceAdd, Nat.reduceSub, Nat.reduceMul, Nat.reduceEqDiff, Nat.reduceLT, Nat.reduceLeDiff, Nat.reduceBEq, Nat.reduceBNe, Int.reduceLT, Int.reduceLE, Int.reduceEq, Int.reduceAdd, Int.reduceSub, Int.reduceNeg, reduceCtorEq]; simp) ?_
    clear hl hl12 hfl hv hlt q1
    rintro ⟨v, A', c', G3⟩ ⟨hv, hl⟩
    simp only
    have hfl := flat_le l v
    by_cases hlt : v < l.length
    · have q1 : decide ((v : Int) < (l.length : Int)) = true := decide_eq_true (by omega)
      obtain ⟨x, hx⟩ : ∃ x, l[v]? = some x := ⟨_, List.getElem?_eq_getElem hlt⟩
      have hfs := flat_succ hx
      have hfl2 := flat_le l (v + 1)
      have hlen : (l.take (v + 1)).flatten.length = (l.take v).flatten.length + x.length := by rw [hfs, List.length_append]
      simp only [go_sem, Nat.reduceAdd, Nat.reduceSub, Nat.reduceMul, Nat.reduceEqDiff, Nat.reduceLT, Nat.reduceLeDiff, Nat.reduceBEq, Nat.reduceBNe, Int.reduceLT, Int.reduceLE, Int.reduceEq, Int.reduceAdd, Int.reduceSub, Int.reduceNeg, reduceCtorEq, q1]
      refine plain_ok (N := 3000) (elem_does (R := RowG) (l := l) (m := v) rfl tySlice29 tySize23 rfl rfl (by simp only [dOk_some, dOk_none, Nat.reduceLT]) rfl hx (fun G hG => Sq.mono hl rowG_mono (hG.le G3 (by simp)))) (QOk_body _ _ _) (by first | exact .inl rfl | exact .inr ⟨_, _, rfl, rfl⟩) ?_
      rintro _ ⟨gw, ow, cs, G4, _, hcR, hn4, rfl⟩
      obtain ⟨A7, c7, rfl, hb7⟩ := rowcell hcR
      simp only [go_sem, Nat.reduceAdd, Nat.reduceSub, Nat.reduceMul, Nat.reduceEqDiff, Nat.reduceLT, Nat.reduceLeDiff, Nat.reduceBEq, Nat.reduceBNe, Int.reduceLT, Int.reduceLE, Int.reduceEq, Int.reduceAdd, Int.reduceSub, Int.reduceNeg, reduceCtorEq]
      refine plain_ok (N := 3000) (append_does (R1 := []) (m := x.length) (news := x.map enc8) rfl tySlice23 tyApp5 rfl rfl rfl rfl (by simp only [dOk_some, dOk_none, Nat.reduceLT]) (enc8_one _) (by unfold maxLen; omega) (by omega) (fun G hG => (hb7.mono (hG.le G4 (by simp))).r)) (QOk_body _ _ _) (by first | exact .inl rfl | exact .inr ⟨_, _, rfl, rfl⟩) ?_
      rintro _ ⟨A'', c'', rfl⟩
      simp only [go_sem, Nat.reduceAdd, Nat.reduceSub, Nat.reduceMul, Nat.reduceEqDiff, Nat.reduceLT, Nat.reduceLeDiff, Nat.reduceBEq, Nat.reduceBNe, Int.reduceLT, Int.reduceLE, Int.reduceEq, Int.reduceAdd, Int.reduceSub, Int.reduceNeg, reduceCtorEq]
      rw [← hlen, ← List.map_append, ← hfs]
      exact ⟨by omega, again_ok (v + 1, A'', c'', G3) ⟨by omega, hl⟩ (by simp only; omega) (by simp only [go_sem, Nat.reduceAdd, Nat.reduceSub, Nat.reduceMul, Nat.reduceEqDiff, Nat.reduceLT, Nat.reduceLeDiff, Nat.reduceBEq, Nat.reduceBNe, Int.reduceLT, Int.reduceLE, Int.reduceEq, Int.reduceAdd, Int.reduceSub, Int.reduceNeg, reduceCtorEq]; simp)⟩
    · have q1 : decide ((v : Int) < (l.length : Int)) = false := decide_eq_false (by omega)
      obtain rfl : v = l.length := by omega
      simp only [go_sem, Nat.reduceAdd, Nat.reduceSub, Nat.reduceMul, Nat.reduceEqDiff, Nat.reduceLT, Nat.reduceLeDiff, Nat.reduceBEq, Nat.reduceBNe, Int.reduceLT, Int.reduceLE, Int.reduceEq, Int.reduceAdd, Int.reduceSub, Int.reduceNeg, reduceCtorEq, q1]
      rw [List.take_length]
      refine read_ok (R1 := []) rfl fun G4 _ hs4 => ?_
      refine fin_ret (G := G0) Try.results56 ?_
      simp only [go_sem, Nat.reduceAdd, Nat.reduceSub, Nat.reduceMul, Nat.reduceEqDiff, Nat.reduceLT, Nat.reduceLeDiff, Nat.reduceBEq, Nat.reduceBNe, Int.reduceLT, Int.reduceLE, Int.reduceEq, Int.reduceAdd, Int.reduceSub, Int.reduceNeg, reduceCtorEq]
      intro a w' _ hle
      exact ⟨A', c', rfl, Sl.mono hs4 (hle G4 (by simp))⟩
end Go.Proofs.Ytomfladifefomaa
