/- 'icehousekeep.StateGood' returns true for every slice of raw things. Conditions: none. -/
import Derived.Test.YtohdfcnjcpjdcaaGreatO3w
import Derived.Test.YtohdfcnjcpjdcaaGreatLAw
namespace Go.Proofs.YtohdfcnjcpjdcaaGreat
open Go.RowKit
set_option linter.unusedSimpArgs false
theorem errSt_ok {s : Sta} (h : okSt s = true) : errSt s = 0 := by unfold errSt; rw [if_pos h]
theorem applyS_of {s : Sta} (h : okSt s = true) (r : Rec) : applyS s r = applyC (changeS s r) := by unfold applyS; rw [if_pos h]
theorem ret_walk {P : Program} {f : FuncId} {args : Array Value} {w : World} (h : Calls P f args w (Ret ⟨Non, w⟩ fun v _ => v = .bool true)) : Calls P f args w fun e w' => e = .returned (.bool true) ∧ Below w.heap.size w w' :=
 h.mono fun e w' ⟨v, he, hv, hc⟩ => ⟨by rw [he, hv], hc.below⟩
end Go.Proofs.YtohdfcnjcpjdcaaGreat
