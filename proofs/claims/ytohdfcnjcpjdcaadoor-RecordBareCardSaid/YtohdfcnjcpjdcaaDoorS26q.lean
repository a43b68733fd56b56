/- Small laws. Conditions: as each law states them. -/
import Derived.Test.YtohdfcnjcpjdcaaDoorS15q
import Derived.Test.YtohdfcnjcpjdcaaDoorP9q
import Derived.Test.YtohdfcnjcpjdcaaDoorP10q
namespace Go.Proofs.YtohdfcnjcpjdcaaDoor
open Go.RowKit
set_option linter.unusedSimpArgs false
/-- an operation that hangs on one that was not carried out -/
theorem wg_undef {P : Program} {E : Env} {k : Cont} {N : Nat} {ops : Array Oper} {rest : List Oper} {o : Oper} {σ : St} {j t : Nat} {want : Bool} {x : Option Bool} (hx : x = none) (hg : o.guard = some (j, want)) (hj : gTmp ops j = some t) (hl : look σ.tmps t = some (.c (.v undef))) (hd : dOk E o.dst) (hk : k.ok)
    (h : W P E N k (.ops ops rest) (σ.put o.dst (.c (.v undef)))) : Wg P E (W P E N k) k ops rest o σ want x := by
  rw [hx]
  intro a w hr
  have hy : yielded ops a.tmps j = none := by
    have hd' : (ops[j]?).bind (·.dst) = some t := hj
    have := hr.tmps t _ hl
    simp only [yielded, hd', Option.bind_some, this, SV.den, SC.den]
    rfl
  unfold wpList
  rw [if_neg (by simp [Region.wanted, hg, hy])]
  exact W_sound N k _ _ hk h trivial _ _ (hr.put _ (.c (.v undef)) (dOk_lt hd))
theorem ints_of {G : GW} {v : Value} {l : List Int} (h : Sl G 3 1 l.length v (l.flatMap intC)) : IntsG G v l := sq_of_flat (f := intC) (fun _ _ => rfl) (fun _ => rfl) h
end Go.Proofs.YtohdfcnjcpjdcaaDoor
