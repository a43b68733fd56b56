/- Cuts of slices that are only read. Names no program. Conditions: as each law states them. -/
import Derived.Test.YtomfladifefomaaOp
namespace Go.Proofs.Ytomfladifefomaa
open Go.RowKit
abbrev cutArg (σ : St) (x : Option Operand) (d r : Nat) : Prop := match x with
  | none => r = d
  | some x => ∃ kk j, ev σ x = some (.c (.v (.int kk j))) ∧ j = (r : Int)
theorem Sl.cut {G : GW} {t k n c l n' c' : Nat} {A : Option Addr} {cells : List Value} (h : Sl G t k n (.slice A n c) cells) (h1 : l + n' ≤ n) (h2 : n' ≤ c') (h3 : l + c' ≤ c) :
    Sl G t k n' (.slice (if l + c' = l then A else A.map (·.add (l * k))) n' c') ((cells.drop (l * k)).take (n' * k)) := by
  obtain ⟨A', c0, e, q1, q2, q3, q4⟩ := h
  cases e
  refine ⟨_, c', rfl, h2, by omega, ?_, fun hn => ?_⟩
  · rw [List.length_take, List.length_drop, q3, ← Nat.sub_mul]
    exact Nat.min_eq_left (Nat.mul_le_mul_right k (by omega))
  · obtain ⟨g, o, cur, fr, rfl, hm, hb, hc⟩ := q4 (by omega)
    refine ⟨g, o + l * k, cur, fr, ?_, hm, hb, fun j u hj => ?_⟩
    · rw [if_neg (by omega), Option.map_some, Addr.add_mid]
    · rw [List.getElem?_take] at hj
      split at hj
      · rw [List.getElem?_drop] at hj
        rw [Nat.add_assoc]
        exact hc _ _ hj
      · cases hj
section
variable {P : Program} {E : Env} {σ : St} {o : Oper}
theorem run_bounds (w : World) (n c l h m : Nat) (lo hi mx : Option Value) (hlo : lo = none ∧ l = 0 ∨ ∃ kk, lo = some (.int kk (l : Int))) (hhi : (hi = none ∧ h = n) ∨ ∃ kk, hi = some (.int kk (h : Int))) (hmx : (mx = none ∧ m = c) ∨ ∃ kk, mx = some (.int kk (m : Int)))
    (hmh : mx.isSome = true → hi.isSome = true) (h1 : l ≤ h) (h2 : h ≤ m) (h3 : m ≤ c) : (Instr.sliceBounds true n c lo hi mx).run P w = .ok (l, h, m) w := by
  have bnd : ∀ (kk : IntKind) (i y : Nat) (code : BoundsCode), i ≤ y → (Instr.sliceBound (.int kk (i : Int)) y code).run P w = .ok i w := fun kk i y code h => by
    have := run_sliceBound (P := P) w kk (i : Int) y code (by omega) (by omega)
    simpa using this
  rcases hlo with ⟨rfl, hl⟩ | ⟨k1, rfl⟩ <;> rcases hhi with ⟨rfl, hh⟩ | ⟨k2, rfl⟩ <;> rcases hmx with ⟨rfl, hm⟩ | ⟨k3, rfl⟩
  · subst hl; subst hh; subst hm; simp [Instr.sliceBounds]
  · simp at hmh
  · subst hl; subst hm; simp [Instr.sliceBounds, *]
  · subst hl; simp [Instr.sliceBounds, *]
  · subst hh; subst hm; simp [Instr.sliceBounds, *]
  · simp at hmh
  · subst hm; simp [Instr.sliceBounds, *]
  · simp [Instr.sliceBounds, *]
theorem run_cut {t e : TypeId} {inf : TypeInfo} (hu : P.underlying t = some (.slice e)) (hi0 : P.info? e = some inf) (w : World) (A : Option Addr) (n c l n' c' : Nat) (lo hi mx : Option Value)
    (hb : (Instr.sliceBounds true n c lo hi mx).run P w = .ok (l, l + n', l + c') w) :
    (Instr.sliceAt t (.slice A n c) lo hi mx).run P w = .ok (.slice (if l + c' = l then A else A.map (·.add (l * inf.size))) n' c') w := by
  have e1 : l + n' - l = n' := by omega
  have e2 : l + c' - l = c' := by omega
  simp only [Instr.sliceAt, Instr.slice, Sem.run_bind, run_underlying hu, Result.andThen_ok, hb, sizeOf, typeInfo, run_program, hi0, Sem.run_pure, e1, e2]
theorem cut_does {t e k : Nat} {x : Operand} {lo hi mx : Option Operand} {A : Option Addr} {n c : Nat} {cells : List Value} (l n' c' : Nat) (ho : o.op = .slice t x lo hi mx) (ht : tSlice P t = some e) (hk : tSize P e = some k)
    (hx : ev σ x = some (.c (.v (.slice A n c)))) (hlo : cutArg σ lo 0 l) (hhi : cutArg σ hi n (l + n')) (hmx : cutArg σ mx c (l + c')) (hmh : mx.isSome = true → hi.isSome = true) (hd : dOk E o.dst) (h1 : l + n' ≤ n) (h2 : n' ≤ c') (h3 : l + c' ≤ c)
    (hs : ∀ G : GW, Now E σ G → Sl G e k n (.slice A n c) cells) :
    Does P E σ o (fun σ' => ∃ A' G, Sl G e k n' (.slice A' n' c') ((cells.drop (l * k)).take (n' * k)) ∧ Now E σ G ∧ σ' = (σ.seen G).put o.dst (.c (.v (.slice A' n' c')))) := by
  intro a w Q next hr hn
  obtain ⟨inf, hinf, hsz⟩ := tSize_spec hk
  have hS := hs ⟨σ.M E, w⟩ hr.now
  have hnc : n ≤ c := by obtain ⟨A0, c0, e0, q, _⟩ := hS; cases e0; exact q
  have hx' : a.eval x = .slice A n c := ev_den hr.see hx
  have arg : ∀ (y : Option Operand) (d r : Nat), cutArg σ y d r → (y.map a.eval = none ∧ r = d) ∨ ∃ kk, y.map a.eval = some (.int kk (r : Int)) := by
    intro y d r h
    cases y with
    | none => exact .inl ⟨rfl, h⟩
    | some y =>
      obtain ⟨kk, j, hy, rfl⟩ := h
      exact .inr ⟨kk, congrArg some (ev_den hr.see hy)⟩
  have hrun : (execOp a.eval o).run P w = .ok (.value (.slice (if l + c' = l then A else A.map (·.add (l * k))) n' c')) w := by
    have := run_cut (tSlice_spec ht) hinf w A n c l n' c' _ _ _ (run_bounds w n c l (l + n') (l + c') _ _ _ (arg lo 0 l hlo) (arg hi n (l + n') hhi) (arg mx c (l + c') hmx) (by simpa using hmh) (by omega) (by omega) h3)
    rw [hsz] at this
    unfold execOp
    simp only [ho, hx', Sem.run_bind, this, Result.andThen_ok, Sem.run_pure]
  exact wp_of_value hrun (hn _ _ _ ⟨_, _, hS.cut h1 h2 h3, hr.now, rfl⟩ ((hr.called (Chg.refl _ _)).put o.dst (.c (.v _)) (dOk_lt hd)))
end
end Go.Proofs.Ytomfladifefomaa
