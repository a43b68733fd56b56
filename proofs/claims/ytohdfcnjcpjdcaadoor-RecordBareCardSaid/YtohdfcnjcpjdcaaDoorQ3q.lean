/- The kinds' table; small functions of the records' codes. Conditions: as each law states them. -/
import Derived.Test.YtohdfcnjcpjdcaaDoorQ2q
namespace Go.Proofs.YtohdfcnjcpjdcaaDoor
open Go.RowKit
set_option linter.unusedSimpArgs false
section
variable {P : Program} {E : Env} {σ : St} {o : Oper}
/-- an element's address in an array that is a package variable -/
theorem globElem_does {t e n kc g m : Nat} {i : Operand} {kk : IntKind} {j : Int} {cs : List Value} (ho : o.op = .indexAddr t (.global g) i) (hu : P.underlying t = some (.array n e)) (hk : tSize P e = some kc)
    (hi : ev σ i = some (.c (.v (.int kk j)))) (hd : dOk E o.dst) (hj : j = (m : Int)) (hm : m < n) (h1 : 1 < n) (hs : ∀ G : GW, Now E σ G → g < G.w.heap.size ∧ ¬ G.M g ∧ G.w.rangeAt g (m * kc) cs) :
    Does P E σ o (fun σ' => ∃ G, σ' = ((σ.seen G).view g (m * kc) cs).put o.dst (.c (.q σ.next g (m * kc) 0))) := by
  intro a w Q next hr hn
  obtain ⟨hg, hM, hrg⟩ := hs ⟨σ.M E, w⟩ hr.now
  have hi' : a.eval i = .int kk j := ev_den hr.see hi
  obtain ⟨inf, hinf, hsz⟩ := tSize_spec hk
  have hadd : (⟨g, 0, none⟩ : Addr).add (m * kc) = ⟨g, m * kc, none⟩ := by unfold Addr.add; split <;> simp_all
  have hgl : a.eval (.global g) = .pointer (some ⟨g, 0, none⟩) := rfl
  have hrun : (execOp a.eval o).run P w = .ok (.value (.pointer (some ⟨g, m * kc, none⟩))) w := by
    unfold execOp
    subst hj
    have hc1 : 0 ≤ (m : Int) ∧ (m : Int) < (n : Int) := ⟨by omega, by omega⟩
    simp only [ho, hi', hgl, Instr.indexAt, Instr.sureAddr, Sem.run_bind, asIntOf, Sem.run_pure, Result.andThen_ok, run_underlying hu, hc1, and_self, if_true, sizeOf, typeInfo, run_program, hinf, hsz, Int.toNat_natCast, hadd]
  refine wp_of_value hrun (hn _ _ _ ⟨⟨σ.M E, w⟩, rfl⟩ ?_)
  exact (((hr.called (Chg.refl _ _)).addV hg (fun q => hM q) hrg).put o.dst (.c (.q σ.next g (m * kc) 0)) (dOk_lt hd))
end
def kdC (k : Kd) : List Value := [.bool k.id, .bool k.n, .bool k.name, .bool k.key, .bool k.rule, .bool k.ver, .bool k.ask, .bool k.part, .bool k.secs, .bool k.vol, .bool k.at_]
def kdb (k : Kd) : List Bool := [k.id, k.n, k.name, k.key, k.rule, k.ver, k.ask, k.part, k.secs, k.vol, k.at_]
theorem kdC_eq (k : Kd) : kdC k = (kdb k).map Value.bool := rfl
theorem kdL_eq : kdL.flatMap kdC = (kdL.flatMap kdb).map Value.bool := by
  rw [List.map_flatMap]
  rfl
/-- the table of kinds, as it lies in memory -/
abbrev KindsG (G : GW) : Prop := BlkG G 0 (kdL.flatMap kdC)
theorem kinds_at {G : GW} (h : KindsG G) {m : Nat} (hm : m < 15) : 0 < G.w.heap.size ∧ ¬ G.M 0 ∧ G.w.rangeAt 0 (m * 11) (kdC (kd (m : Int))) := by
  obtain ⟨h1, h2, h3⟩ := h
  refine ⟨h1, h2, fun j u hj => ?_⟩
  have hjl : j < 11 := (List.getElem?_eq_some_iff.1 hj).1
  have h4 := h3 (m * 11 + j) u (by
    rw [← hj]
    have : ∀ m : Fin 15, ∀ j : Fin 11, (kdL.flatMap kdb)[m.1 * 11 + j.1]? = (kdb (kd (m.1 : Int)))[j.1]? := by decide
    rw [kdL_eq, kdC_eq, List.getElem?_map, List.getElem?_map]
    exact congrArg (Option.map Value.bool) (this ⟨m, hm⟩ ⟨j, hjl⟩))
  rw [Nat.zero_add] at h4
  exact h4
def nothingB (x : Prt) : Bool := (decide (x.n = 0) && decide (x.size = 0)) && decide ((x.secs.length : Int) = 0)
def noT : ByteArray := ⟨#[]⟩
theorem strE (t : ByteArray) : (t.toList == noT.toList) = decide (t.size = 0) := by
  rw [ByteArray.toList_eq, ByteArray.toList_eq, show t.size = t.data.toList.length from Array.length_toList.symm]
  show (t.data.toList == []) = _
  cases t.data.toList with
  | nil => rfl
  | cons a l => simp
theorem strE_iff (t : ByteArray) : t.size = 0 ↔ t = noT := by
  constructor
  · intro h
    obtain ⟨⟨l⟩⟩ := t
    cases l with
    | nil => rfl
    | cons a l => exact absurd h (by show ¬ (a :: l).length = 0; simp)
  · rintro rfl
    rfl
def emptyB (x : Ver) : Bool := ((((((((((decide (x.id = 0) && (x.bucket.toList == noT.toList)) && (x.key.toList == noT.toList)) && !x.null) && !x.marker) && decide (x.size = 0)) && decide (x.time = 0)) && decide (x.tier = 0)) && decide ((x.secs.length : Int) = 0)) && decide (x.vol = 0)) && decide (x.at_ = 0)) && decide (x.till = 0)
set_option maxRecDepth 100000 in
set_option maxHeartbeats 8000000 in
theorem nothing_does {x : Prt} {sv : Value} {G0 : GW} (hW : G0.Wf) (h : IntsG G0 sv x.secs) :
    Calls Tryd.prog 29 #[.agg #[.int .i64 x.n, .int .i64 x.size, sv]] G0.w (Ret G0 fun y _ => y = .bool (nothingB x)) := by
  obtain ⟨A, c, rfl, hc1, hc2⟩ := Sq.form h
  have hml := max_le
  refine enterS (G := G0) (n := 17) 3000 hW Tryd.func29 rfl Tryd.ntmps29 (by simp) ?_
  simp only [go_sem, simprocAttr]
  intro g
  refine fin_ret (G := G0) Tryd.results29 ?_
  simp only [go_sem, simprocAttr]
  intro aa w' _ _
  rfl
set_option maxRecDepth 100000 in
set_option maxHeartbeats 8000000 in
theorem empty_does {x : Ver} {sv : Value} {G0 : GW} (hW : G0.Wf) (h : IntsG G0 sv x.secs) :
    Calls Tryd.prog 28 #[.agg (verV x sv).toArray] G0.w (Ret G0 fun y _ => y = .bool (emptyB x)) := by
  obtain ⟨A, c, rfl, hc1, hc2⟩ := Sq.form h
  have hml := max_le
  refine enterS (G := G0) (n := 62) 3000 hW Tryd.func28 rfl Tryd.ntmps28 (by simp) ?_
  simp only [go_sem, simprocAttr, verV]
  intro g
  refine fin_ret (G := G0) Tryd.results28 ?_
  simp only [go_sem, simprocAttr]
  intro aa w' _ _
  rfl
theorem nothing_iff (x : Prt) : nothingB x = true ↔ x = noP := by
  obtain ⟨n, z, l⟩ := x
  unfold nothingB noP
  simp only [Bool.and_eq_true, decide_eq_true_eq, Prt.mk.injEq]
  constructor
  · rintro ⟨⟨h1, h2⟩, h3⟩
    exact ⟨h1, h2, List.eq_nil_of_length_eq_zero (by omega)⟩
  · rintro ⟨h1, h2, h3⟩
    subst h3
    exact ⟨⟨h1, h2⟩, rfl⟩
theorem empty_iff (x : Ver) : emptyB x = true ↔ x = noV := by
  obtain ⟨a, b, c, d, e, f, g, h, l, i, j, k⟩ := x
  unfold emptyB noV
  simp only [Bool.and_eq_true, decide_eq_true_eq, strE, strE_iff, Bool.not_eq_true', Ver.mk.injEq]
  constructor
  · rintro ⟨⟨⟨⟨⟨⟨⟨⟨⟨⟨⟨h1, h2⟩, h3⟩, h4⟩, h5⟩, h6⟩, h7⟩, h8⟩, h9⟩, h10⟩, h11⟩, h12⟩
    exact ⟨h1, h2, h3, h4, h5, h6, h7, h8, List.eq_nil_of_length_eq_zero (by omega), h10, h11, h12⟩
  · rintro ⟨h1, h2, h3, h4, h5, h6, h7, h8, h9, h10, h11, h12⟩
    subst h9
    exact ⟨⟨⟨⟨⟨⟨⟨⟨⟨⟨⟨h1, h2⟩, h3⟩, h4⟩, h5⟩, h6⟩, h7⟩, h8⟩, rfl⟩, h10⟩, h11⟩, h12⟩
end Go.Proofs.YtohdfcnjcpjdcaaDoor
