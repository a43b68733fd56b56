/- picked. Conditions: as each law states them. -/
import Derived.Test.YtohdfcnjcpjdcaaDoorS17q
import Derived.Test.YtohdfcnjcpjdcaaDoorE0q
namespace Go.Proofs.YtohdfcnjcpjdcaaDoor
open Go.RowKit
set_option linter.unusedSimpArgs false
section
variable {P : Program} {E : Env} {σ : St} {o : Oper}
/-- an element of a literal's row of the call's own -/
theorem lit_elem_does {t e kc : Nat} {x i : Operand} {g n c m id : Nat} {kk : IntKind} {j : Int} (ho : o.op = .indexAddr t x i) (ht : tSlice P t = some e) (hk : tSize P e = some kc)
    (hx : ev σ x = some (.c (.s id g 0 n c))) (hi : ev σ i = some (.c (.v (.int kk j)))) (hd : dOk E o.dst) (hj : j = (m : Int)) (hm : m < n) :
    Does P E σ o (fun σ' => σ' = σ.put o.dst (.c (.p id g (m * kc)))) := by
  intro a w Q next hr hn
  have hx' : a.eval x = .slice (some ⟨g, 0, none⟩) n c := ev_den hr.see hx
  have hi' : a.eval i = .int kk j := ev_den hr.see hi
  obtain ⟨inf, hinf, hsz⟩ := tSize_spec hk
  have hrun : (execOp a.eval o).run P w = .ok (.value (.pointer (some ⟨g, m * kc, none⟩))) w := by
    unfold execOp
    subst hj
    have hc1 : 0 ≤ (m : Int) ∧ (m : Int) < (n : Int) := ⟨by omega, by omega⟩
    simp only [ho, hx', hi', Instr.indexAt, Sem.run_bind, asIntOf, Sem.run_pure, Result.andThen_ok, run_underlying (tSlice_spec ht), hc1, and_self, if_true, sizeOf, typeInfo, run_program, hinf, hsz, Int.toNat_natCast, Addr.add_mid, Nat.zero_add]
  exact wp_of_value hrun (hn _ _ _ rfl (hr.put o.dst (.c (.p id g (m * kc))) (dOk_lt hd)))
/-- an element of a literal's row of the call's own, in a region that draws -/
theorem take_lit {rec_ : Cmd → St → Prop} {dr : Dr} {q : Nat} {p : Plan} {t e kc : Nat} {x i : Operand} {g n c m id : Nat} {kk : IntKind} {j : Int} (ho : o.op = .indexAddr t x i) (ht : tSlice P t = some e) (hk : tSize P e = some kc)
    (hx : ev σ x = some (.c (.s id g 0 n c))) (hi : ev σ i = some (.c (.v (.int kk j)))) (hd : dOk E o.dst) (hj : j = (m : Int)) (hm : m < n)
    (h : rec_ (dr.next q p) (σ.put o.dst (.c (.p id g (m * kc))))) : TakeStop P E rec_ dr q p o σ := by
  refine ⟨.c (.p id g (m * kc)), hd, fun a w hr => ?_, h⟩
  have hx' : a.eval x = .slice (some ⟨g, 0, none⟩) n c := ev_den hr hx
  have hi' : a.eval i = .int kk j := ev_den hr hi
  obtain ⟨inf, hinf, hsz⟩ := tSize_spec hk
  show (execOp a.eval o).run P w = .ok (.value (.pointer (some ⟨g, m * kc, none⟩))) w
  unfold execOp
  subst hj
  have hc1 : 0 ≤ (m : Int) ∧ (m : Int) < (n : Int) := ⟨by omega, by omega⟩
  simp only [ho, hx', hi', Instr.indexAt, Sem.run_bind, asIntOf, Sem.run_pure, Result.andThen_ok, run_underlying (tSlice_spec ht), hc1, and_self, if_true, sizeOf, typeInfo, run_program, hinf, hsz, Int.toNat_natCast, Addr.add_mid, Nat.zero_add]
end
theorem pickN (n m : Int) (hm : 0 < m) : ∃ k : Nat, pick n m = (k : Int) ∧ (k : Int) < m := by
  obtain ⟨h1, h2⟩ := pick_bd n m hm
  exact ⟨(pick n m).toNat, by omega, by omega⟩
set_option maxRecDepth 100000 in
set_option maxHeartbeats 4000000 in
theorem picked_does {n m : Int} {G0 : GW} (hW : G0.Wf) (hn : i64 n) (hm : 1 ≤ m) (hm2 : m ≤ 9223372036854775807) :
    Calls Tryd.prog 5 #[.int .i64 n, .int .i64 m] G0.w (Ret G0 fun v _ => v = .int .i64 (pick n m)) := by
  obtain ⟨n1, n2⟩ := hn
  refine enterS (G := G0) (n := 13) 3000 hW Tryd.func5 rfl Tryd.ntmps5 (by simp) ?_
  simp only [go_sem, simprocAttr]
  refine Wb_mk (fun h => ?_) (fun h => ?_)
  · have h' := of_decide_eq_true h
    refine ⟨by omega, by omega, by omega, ?_⟩
    refine fin_ret (G := G0) Tryd.results5 ?_
    simp only [go_sem, simprocAttr]
    intro aa w' _ _
    unfold pick
    rw [if_pos h', ← Int.zero_sub]
    rfl
  · have h' := of_decide_eq_false h
    refine ⟨by omega, ?_⟩
    refine fin_ret (G := G0) Tryd.results5 ?_
    simp only [go_sem, simprocAttr]
    intro aa w' _ _
    unfold pick
    rw [if_neg h']
    rfl
end Go.Proofs.YtohdfcnjcpjdcaaDoor
