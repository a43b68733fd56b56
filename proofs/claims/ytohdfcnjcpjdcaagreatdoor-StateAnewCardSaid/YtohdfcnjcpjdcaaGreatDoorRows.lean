/-
  NARROWER THAN 'FOR EVERY INPUT', by the rows' own cells (each row's printed sentence says how): RecordsBack: laid · StateAnew: laid.
  DERIVED. THE GIVEN ROWS OF THIS SEAT. 2 by the template 'for every input the law returns true; each argument reads behind the call as it read before'; 0 by the template 'total and deterministic' (their statements: YtohdfcnjcpjdcaaGreatDoorTotals.lean).
  GIVEN WITH THE SEED: the statements are not yours to turn. If you find one false, say at which input.
  Laid BY PROGRAM, IN A SANDBOX (cutbox-rows.mjs): the forced cells as the released guide's own fill.sh prints them over the translation ca061d4f0ec3b040… (all of the seat's roots in one cut). By AI agents, Wed Nov 11 2026. No macro, syntax, notation, axiom, sorry.
-/
import Derived.Test.YtohdfcnjcpjdcaaGreatDoorChecked
import GoSem.Claim
import GoSem.ClaimJoined
import GoSem.ClaimMapViews
import Derived.JoinedTies
import Derived.KernelRfl
namespace Go.Proofs.YtohdfcnjcpjdcaaGreatDoor
/- THE CELL 'sum', in the pinned program and in every row, IS THE sha256 OF THE DUMP (.gsa) THAT YtohdfcnjcpjdcaaGreatDoorProg.lean LOADS. Nothing in Lean hashes anything: it is a label: what it is worth is what the hold of that sum in a sandbox is worth. -/
noncomputable def Tryz.pinned : Pinned := { name := "ytohdfcnjcpjdcaagreatdoor", sum := "ca061d4f0ec3b040f7ad1d99e9972aa0c92e98368056fdfd76f1658ae1fd8763", checked := Tryz.checked }
namespace Rows
def none {H : Type} : Left H := { results := [], args := [] }

/- WHAT THE LISTED PACKAGE-LEVEL VARIABLES READ AS WHEN THE CALL BEGINS. Each datum BY PROGRAM (the guide's laid-datum.mjs) off the statement by which the dump's own 'gosem.cut.vars' lays the variable. In a bare row this is a premise. The card (YtohdfcnjcpjdcaaGreatDoorCards.lean) ties it to the program's text. -/
def laid_icehouse_code_kinds {H : Type} : DataW H := .agg [.agg [.lit (.bool false), .lit (.bool false), .lit (.bool false), .lit (.bool false), .lit (.bool false), .lit (.bool false), .lit (.bool false), .lit (.bool false), .lit (.bool false), .lit (.bool false), .lit (.bool false)], .agg [.lit (.bool false), .lit (.bool false), .lit (.bool true), .lit (.bool false), .lit (.bool false), .lit (.bool false), .lit (.bool false), .lit (.bool false), .lit (.bool false), .lit (.bool false), .lit (.bool false)], .agg [.lit (.bool false), .lit (.bool true), .lit (.bool true), .lit (.bool false), .lit (.bool false), .lit (.bool false), .lit (.bool false), .lit (.bool false), .lit (.bool false), .lit (.bool false), .lit (.bool false)], .agg [.lit (.bool false), .lit (.bool false), .lit (.bool true), .lit (.bool false), .lit (.bool true), .lit (.bool false), .lit (.bool false), .lit (.bool false), .lit (.bool false), .lit (.bool false), .lit (.bool false)], .agg [.lit (.bool false), .lit (.bool false), .lit (.bool false), .lit (.bool false), .lit (.bool false), .lit (.bool true), .lit (.bool false), .lit (.bool false), .lit (.bool false), .lit (.bool false), .lit (.bool false)], .agg [.lit (.bool true), .lit (.bool false), .lit (.bool false), .lit (.bool false), .lit (.bool false), .lit (.bool false), .lit (.bool false), .lit (.bool false), .lit (.bool false), .lit (.bool false), .lit (.bool false)], .agg [.lit (.bool true), .lit (.bool false), .lit (.bool false), .lit (.bool false), .lit (.bool false), .lit (.bool false), .lit (.bool false), .lit (.bool false), .lit (.bool false), .lit (.bool true), .lit (.bool true)], .agg [.lit (.bool false), .lit (.bool false), .lit (.bool false), .lit (.bool false), .lit (.bool false), .lit (.bool false), .lit (.bool true), .lit (.bool false), .lit (.bool false), .lit (.bool false), .lit (.bool false)], .agg [.lit (.bool true), .lit (.bool true), .lit (.bool false), .lit (.bool false), .lit (.bool false), .lit (.bool false), .lit (.bool false), .lit (.bool false), .lit (.bool true), .lit (.bool false), .lit (.bool false)], .agg [.lit (.bool true), .lit (.bool false), .lit (.bool false), .lit (.bool false), .lit (.bool false), .lit (.bool false), .lit (.bool false), .lit (.bool false), .lit (.bool false), .lit (.bool false), .lit (.bool false)], .agg [.lit (.bool true), .lit (.bool false), .lit (.bool true), .lit (.bool true), .lit (.bool false), .lit (.bool false), .lit (.bool false), .lit (.bool false), .lit (.bool false), .lit (.bool false), .lit (.bool false)], .agg [.lit (.bool true), .lit (.bool false), .lit (.bool false), .lit (.bool false), .lit (.bool false), .lit (.bool false), .lit (.bool false), .lit (.bool true), .lit (.bool false), .lit (.bool false), .lit (.bool false)], .agg [.lit (.bool true), .lit (.bool false), .lit (.bool false), .lit (.bool false), .lit (.bool false), .lit (.bool false), .lit (.bool false), .lit (.bool false), .lit (.bool false), .lit (.bool false), .lit (.bool false)], .agg [.lit (.bool false), .lit (.bool true), .lit (.bool false), .lit (.bool false), .lit (.bool false), .lit (.bool false), .lit (.bool false), .lit (.bool false), .lit (.bool false), .lit (.bool false), .lit (.bool false)], .agg [.lit (.bool false), .lit (.bool false), .lit (.bool false), .lit (.bool false), .lit (.bool false), .lit (.bool false), .lit (.bool false), .lit (.bool false), .lit (.bool false), .lit (.bool true), .lit (.bool false)]]

/-- 'icehousekeep.RecordsBack': WHATEVER THE INPUT: true; the input reads as it did. -/
def recordsBackSpec : ChangeSpec := { name := "recordsBack", fn := fun _ => fun
  | [d1, d2, d3] => { results := [.lit (.bool true)], args := [d1, d2, d3] }
  | _ => none }
def recordsBackRow : OpenClaim := { program := "ytohdfcnjcpjdcaagreatdoor", sum := "ca061d4f0ec3b040f7ad1d99e9972aa0c92e98368056fdfd76f1658ae1fd8763", func := "icehouse/icehousekeep.RecordsBack", spec := "recordsBack", inPlace := ["internal/bytealg.abigen_runtime_cmpstring", "slices.overlaps[icehouse/api.Bucket]", "slices.overlaps[icehouse/api.Part]", "slices.overlaps[int]"], unfollowed := true, recurses := true, named := ["icehouse/code.kinds"], plainKeys := false, apart := false, laid := [("icehouse/code.kinds", laid_icehouse_code_kinds)] }
def RecordsBackSaid : Prop := recordsBackRow.holds Tryz.pinned (OpenSpec.ofChange recordsBackSpec)

/-- ITS FALSE NEIGHBOUR: 'it returns false'. Refute it at one input. -/
def recordsBackWrong : ChangeSpec := { name := "recordsBack", fn := fun _ => fun
  | [d1, d2, d3] => { results := [.lit (.bool false)], args := [d1, d2, d3] }
  | _ => none }
def RecordsBackWrongFalsely : Prop := recordsBackRow.holds Tryz.pinned (OpenSpec.ofChange recordsBackWrong)

/-- 'icehousekeep.StateAnew': WHATEVER THE INPUT: true; the input reads as it did. -/
def stateAnewSpec : ChangeSpec := { name := "stateAnew", fn := fun _ => fun
  | [d] => { results := [.lit (.bool true)], args := [d] }
  | _ => none }
def stateAnewRow : OpenClaim := { program := "ytohdfcnjcpjdcaagreatdoor", sum := "ca061d4f0ec3b040f7ad1d99e9972aa0c92e98368056fdfd76f1658ae1fd8763", func := "icehouse/icehousekeep.StateAnew", spec := "stateAnew", inPlace := ["internal/bytealg.abigen_runtime_cmpstring", "slices.overlaps[icehouse/api.Bucket]", "slices.overlaps[icehouse/api.Part]", "slices.overlaps[int]"], unfollowed := true, recurses := true, named := ["icehouse/code.kinds"], plainKeys := false, apart := false, laid := [("icehouse/code.kinds", laid_icehouse_code_kinds)] }
def StateAnewSaid : Prop := stateAnewRow.holds Tryz.pinned (OpenSpec.ofChange stateAnewSpec)

/-- ITS FALSE NEIGHBOUR: 'it returns false'. Refute it at one input. -/
def stateAnewWrong : ChangeSpec := { name := "stateAnew", fn := fun _ => fun
  | [d] => { results := [.lit (.bool false)], args := [d] }
  | _ => none }
def StateAnewWrongFalsely : Prop := stateAnewRow.holds Tryz.pinned (OpenSpec.ofChange stateAnewWrong)

/- THE SECOND FORM. 'bulk': how many values and letters a reading holds, each counted each time it is reached (what is shared counts as often as it is met; a slice's spare places count too). A statement '..UptoSaid' is the law's where the arguments, and the package variables that the reading takes, are together of bulk at most 1048576: NARROWER than '..Said'. Prove '..Said' where nothing that the law and all that it calls make is longer than what came in: it says more and counts as full. Else prove '..UptoSaid'. A law counts once. -/
mutual
def uptoBulk {H : Type} : DataW H → Nat
  | .lit (.string bytes) => bytes.length + 1
  | .lit _ => 1
  | .nil => 1
  | .ptr d => uptoBulk d + 1
  | .slice elems spare => uptoBulkAll elems + uptoBulkAll spare + 1
  | .agg parts => uptoBulkAll parts + 1
  | .iface _ d => uptoBulk d + 1
  | .map entries => uptoBulkEntries entries + 1
  | .held _ => 1
def uptoBulkAll {H : Type} : List (DataW H) → Nat
  | [] => 0
  | d :: r => uptoBulk d + uptoBulkAll r
def uptoBulkEntries {H : Type} : List (Lit × DataW H) → Nat
  | [] => 0
  | x :: r => uptoBulkEntry x + uptoBulkEntries r
def uptoBulkEntry {H : Type} : Lit × DataW H → Nat
  | (.string bytes, d) => bytes.length + uptoBulk d + 1
  | (_, d) => uptoBulk d + 1
 end
def uptoSmall : (H : Type) → List (DataW H) → Bool := fun _ ds => decide (uptoBulkAll ds ≤ 1048576)
def OpenSpec.upto (s : _root_.Go.ChangeSpec) : _root_.Go.OpenSpec := { _root_.Go.OpenSpec.ofChange s with cond := some uptoSmall }

/-- 'icehousekeep.RecordsBack', WHERE WHAT IT READS IS OF BULK AT MOST 1048576: true; the input reads as it did. -/
def recordsBackUptoRow : OpenClaim := { program := "ytohdfcnjcpjdcaagreatdoor", sum := "ca061d4f0ec3b040f7ad1d99e9972aa0c92e98368056fdfd76f1658ae1fd8763", func := "icehouse/icehousekeep.RecordsBack", spec := "recordsBack", inPlace := ["internal/bytealg.abigen_runtime_cmpstring", "slices.overlaps[icehouse/api.Bucket]", "slices.overlaps[icehouse/api.Part]", "slices.overlaps[int]"], unfollowed := true, recurses := true, named := ["icehouse/code.kinds"], plainKeys := false, apart := false, laid := [("icehouse/code.kinds", laid_icehouse_code_kinds)], narrowed := true }
def RecordsBackUptoSaid : Prop := recordsBackUptoRow.holds Tryz.pinned (OpenSpec.upto recordsBackSpec)

/-- 'icehousekeep.StateAnew', WHERE WHAT IT READS IS OF BULK AT MOST 1048576: true; the input reads as it did. -/
def stateAnewUptoRow : OpenClaim := { program := "ytohdfcnjcpjdcaagreatdoor", sum := "ca061d4f0ec3b040f7ad1d99e9972aa0c92e98368056fdfd76f1658ae1fd8763", func := "icehouse/icehousekeep.StateAnew", spec := "stateAnew", inPlace := ["internal/bytealg.abigen_runtime_cmpstring", "slices.overlaps[icehouse/api.Bucket]", "slices.overlaps[icehouse/api.Part]", "slices.overlaps[int]"], unfollowed := true, recurses := true, named := ["icehouse/code.kinds"], plainKeys := false, apart := false, laid := [("icehouse/code.kinds", laid_icehouse_code_kinds)], narrowed := true }
def StateAnewUptoSaid : Prop := stateAnewUptoRow.holds Tryz.pinned (OpenSpec.upto stateAnewSpec)

end Rows
end Go.Proofs.YtohdfcnjcpjdcaaGreatDoor
