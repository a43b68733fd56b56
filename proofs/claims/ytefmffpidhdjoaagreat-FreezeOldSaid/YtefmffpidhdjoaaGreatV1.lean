/- 'icehousekeep.StateGood' returns true for every slice of raw things. Conditions: none. -/
import Derived.Test.YtefmffpidhdjoaaGreatO3
import Derived.Test.YtefmffpidhdjoaaGreatL2
namespace Go.Proofs.YtefmffpidhdjoaaGreat
open Go.RowKit
set_option linter.unusedSimpArgs false
theorem errSt_ok {s : Sta} (h : okSt s = true) : errSt s = 0 := by unfold errSt; rw [if_pos h]
theorem fold_len : ∀ (l : List Raw) (p : Sta × List Rec), p.2.length ≤ (l.foldl stepS p).2.length
  | [], p => Nat.le_refl _
  | r :: l, p => by
    refine Nat.le_trans ?_ (fold_len l _)
    unfold stepS stepA
    split
    · simp
    · exact Nat.le_refl _
set_option maxRecDepth 100000 in
theorem two_recs : (stepS (stepS (startS, []) (rawA 0)) (rawA 1)).2.length = 2 := by kernel_rfl
theorem stateS_two (l : List Raw) (most : Nat) : 2 ≤ (stateS l most).2.length := by
  have := fold_len (l.take most) (stepS (stepS (startS, []) (rawA 0)) (rawA 1))
  rw [two_recs] at this
  exact this
theorem applyS_of {s : Sta} (h : okSt s = true) (r : Rec) : applyS s r = applyC (changeS s r) := by unfold applyS; rw [if_pos h]
theorem apply15 {s : Sta} (h : okSt s = true) : applyS s (rec0 15) = (zeroS, 3) := by
  rw [applyS_of h]
  rfl
theorem err_zero : errSt zeroS = 9 := by rfl
theorem ret_walk {P : Program} {f : FuncId} {args : Array Value} {w : World} (h : Calls P f args w (Ret ⟨Non, w⟩ fun v _ => v = .bool true)) : Calls P f args w fun e w' => e = .returned (.bool true) ∧ Below w.heap.size w w' :=
  h.mono fun e w' ⟨v, he, hv, hc⟩ => ⟨by rw [he, hv], hc.below⟩
end Go.Proofs.YtefmffpidhdjoaaGreat
