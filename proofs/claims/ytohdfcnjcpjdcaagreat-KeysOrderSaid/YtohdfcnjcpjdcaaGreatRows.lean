/-
  No cell of these rows narrows 'for every input' (looked for: loops, veiled, ifaces, maps, wideKeys, modest, calm, conditions, laid).
  DERIVED. THE GIVEN ROWS OF THIS SEAT. 6 by the template 'for every input the law returns true; each argument reads behind the call as it read before'; 0 by the template 'total and deterministic' (their statements: YtohdfcnjcpjdcaaGreatTotals.lean).
  GIVEN WITH THE SEED: the statements are not yours to turn. If you find one false, say at which input.
  Laid BY PROGRAM, IN A SANDBOX (cutbox-rows.mjs): the forced cells as the released guide's own fill.sh prints them over the translation fd720779bb1fee10… (all of the seat's roots in one cut). By AI agents, Wed Nov 11 2026. No macro, syntax, notation, axiom, sorry.
-/
import Derived.Test.YtohdfcnjcpjdcaaGreatChecked
import GoSem.Claim
import GoSem.ClaimJoined
import GoSem.ClaimMapViews
import Derived.JoinedTies
import Derived.KernelRfl
namespace Go.Proofs.YtohdfcnjcpjdcaaGreat
/- THE CELL 'sum', in the pinned program and in every row, IS THE sha256 OF THE DUMP (.gsa) THAT YtohdfcnjcpjdcaaGreatProg.lean LOADS. Nothing in Lean hashes anything: it is a label: what it is worth is what the hold of that sum in a sandbox is worth. -/
noncomputable def Tryz.pinned : Pinned := { name := "ytohdfcnjcpjdcaagreat", sum := "fd720779bb1fee105f3fb5b335cc864263ab1bd9bcc0c5f6beee56b5b99c4628", checked := Tryz.checked }
namespace Rows
def none {H : Type} : Left H := { results := [], args := [] }

/-- 'icehousekeep.FreezeOld': WHATEVER THE INPUT: true; the input reads as it did. -/
def freezeOldSpec : ChangeSpec := { name := "freezeOld", fn := fun _ => fun
  | [d] => { results := [.lit (.bool true)], args := [d] }
  | _ => none }
def freezeOldRow : OpenClaim := { program := "ytohdfcnjcpjdcaagreat", sum := "fd720779bb1fee105f3fb5b335cc864263ab1bd9bcc0c5f6beee56b5b99c4628", func := "icehouse/icehousekeep.FreezeOld", spec := "freezeOld", inPlace := ["internal/bytealg.abigen_runtime_cmpstring", "slices.overlaps[icehouse/api.Bucket]", "slices.overlaps[icehouse/api.Part]", "slices.overlaps[int]"], unfollowed := true, recurses := true, plainKeys := false, apart := false }
def FreezeOldSaid : Prop := freezeOldRow.holds Tryz.pinned (OpenSpec.ofChange freezeOldSpec)

/-- ITS FALSE NEIGHBOUR: 'it returns false'. Refute it at one input. -/
def freezeOldWrong : ChangeSpec := { name := "freezeOld", fn := fun _ => fun
  | [d] => { results := [.lit (.bool false)], args := [d] }
  | _ => none }
def FreezeOldWrongFalsely : Prop := freezeOldRow.holds Tryz.pinned (OpenSpec.ofChange freezeOldWrong)

/-- 'icehousekeep.StateBack': WHATEVER THE INPUT: true; the input reads as it did. -/
def stateBackSpec : ChangeSpec := { name := "stateBack", fn := fun _ => fun
  | [d1, d2, d3] => { results := [.lit (.bool true)], args := [d1, d2, d3] }
  | _ => none }
def stateBackRow : OpenClaim := { program := "ytohdfcnjcpjdcaagreat", sum := "fd720779bb1fee105f3fb5b335cc864263ab1bd9bcc0c5f6beee56b5b99c4628", func := "icehouse/icehousekeep.StateBack", spec := "stateBack", inPlace := ["internal/bytealg.abigen_runtime_cmpstring", "slices.overlaps[icehouse/api.Bucket]", "slices.overlaps[icehouse/api.Part]", "slices.overlaps[int]"], unfollowed := true, recurses := true, plainKeys := false, apart := false }
def StateBackSaid : Prop := stateBackRow.holds Tryz.pinned (OpenSpec.ofChange stateBackSpec)

/-- ITS FALSE NEIGHBOUR: 'it returns false'. Refute it at one input. -/
def stateBackWrong : ChangeSpec := { name := "stateBack", fn := fun _ => fun
  | [d1, d2, d3] => { results := [.lit (.bool false)], args := [d1, d2, d3] }
  | _ => none }
def StateBackWrongFalsely : Prop := stateBackRow.holds Tryz.pinned (OpenSpec.ofChange stateBackWrong)

/-- 'icehousekeep.KeysCommon': WHATEVER THE INPUT: true; the input reads as it did. -/
def keysCommonSpec : ChangeSpec := { name := "keysCommon", fn := fun _ => fun
  | [d1, d2] => { results := [.lit (.bool true)], args := [d1, d2] }
  | _ => none }
def keysCommonRow : OpenClaim := { program := "ytohdfcnjcpjdcaagreat", sum := "fd720779bb1fee105f3fb5b335cc864263ab1bd9bcc0c5f6beee56b5b99c4628", func := "icehouse/icehousekeep.KeysCommon", spec := "keysCommon", inPlace := ["internal/bytealg.abigen_runtime_cmpstring", "slices.overlaps[icehouse/api.Bucket]", "slices.overlaps[icehouse/api.Part]", "slices.overlaps[int]", "internal/bytealg.IndexByteString", "internal/bytealg.IndexString"], unfollowed := true, recurses := true, named := ["internal/bytealg.MaxLen"], plainKeys := false, apart := false }
def KeysCommonSaid : Prop := keysCommonRow.holds Tryz.pinned (OpenSpec.ofChange keysCommonSpec)

/-- ITS FALSE NEIGHBOUR: 'it returns false'. Refute it at one input. -/
def keysCommonWrong : ChangeSpec := { name := "keysCommon", fn := fun _ => fun
  | [d1, d2] => { results := [.lit (.bool false)], args := [d1, d2] }
  | _ => none }
def KeysCommonWrongFalsely : Prop := keysCommonRow.holds Tryz.pinned (OpenSpec.ofChange keysCommonWrong)

/-- 'icehousekeep.KeysPages': WHATEVER THE INPUT: true; the input reads as it did. -/
def keysPagesSpec : ChangeSpec := { name := "keysPages", fn := fun _ => fun
  | [d1, d2, d3, d4] => { results := [.lit (.bool true)], args := [d1, d2, d3, d4] }
  | _ => none }
def keysPagesRow : OpenClaim := { program := "ytohdfcnjcpjdcaagreat", sum := "fd720779bb1fee105f3fb5b335cc864263ab1bd9bcc0c5f6beee56b5b99c4628", func := "icehouse/icehousekeep.KeysPages", spec := "keysPages", inPlace := ["internal/bytealg.abigen_runtime_cmpstring", "internal/bytealg.IndexByteString", "internal/bytealg.IndexString", "slices.overlaps[icehouse/api.Bucket]", "slices.overlaps[icehouse/api.Part]", "slices.overlaps[int]"], unfollowed := true, recurses := true, named := ["internal/bytealg.MaxLen"], plainKeys := false, apart := false }
def KeysPagesSaid : Prop := keysPagesRow.holds Tryz.pinned (OpenSpec.ofChange keysPagesSpec)

/-- ITS FALSE NEIGHBOUR: 'it returns false'. Refute it at one input. -/
def keysPagesWrong : ChangeSpec := { name := "keysPages", fn := fun _ => fun
  | [d1, d2, d3, d4] => { results := [.lit (.bool false)], args := [d1, d2, d3, d4] }
  | _ => none }
def KeysPagesWrongFalsely : Prop := keysPagesRow.holds Tryz.pinned (OpenSpec.ofChange keysPagesWrong)

/-- 'icehousekeep.VersionsAll': WHATEVER THE INPUT: true; the input reads as it did. -/
def versionsAllSpec : ChangeSpec := { name := "versionsAll", fn := fun _ => fun
  | [d1, d2] => { results := [.lit (.bool true)], args := [d1, d2] }
  | _ => none }
def versionsAllRow : OpenClaim := { program := "ytohdfcnjcpjdcaagreat", sum := "fd720779bb1fee105f3fb5b335cc864263ab1bd9bcc0c5f6beee56b5b99c4628", func := "icehouse/icehousekeep.VersionsAll", spec := "versionsAll", inPlace := ["internal/bytealg.abigen_runtime_cmpstring", "internal/bytealg.IndexByteString", "internal/bytealg.IndexString", "slices.overlaps[icehouse/api.Bucket]", "slices.overlaps[icehouse/api.Part]", "slices.overlaps[int]"], unfollowed := true, recurses := true, named := ["internal/bytealg.MaxLen"], plainKeys := false, apart := false }
def VersionsAllSaid : Prop := versionsAllRow.holds Tryz.pinned (OpenSpec.ofChange versionsAllSpec)

/-- ITS FALSE NEIGHBOUR: 'it returns false'. Refute it at one input. -/
def versionsAllWrong : ChangeSpec := { name := "versionsAll", fn := fun _ => fun
  | [d1, d2] => { results := [.lit (.bool false)], args := [d1, d2] }
  | _ => none }
def VersionsAllWrongFalsely : Prop := versionsAllRow.holds Tryz.pinned (OpenSpec.ofChange versionsAllWrong)

/-- 'icehousekeep.KeysOrder': WHATEVER THE INPUT: true; the input reads as it did. -/
def keysOrderSpec : ChangeSpec := { name := "keysOrder", fn := fun _ => fun
  | [d1, d2, d3] => { results := [.lit (.bool true)], args := [d1, d2, d3] }
  | _ => none }
def keysOrderRow : OpenClaim := { program := "ytohdfcnjcpjdcaagreat", sum := "fd720779bb1fee105f3fb5b335cc864263ab1bd9bcc0c5f6beee56b5b99c4628", func := "icehouse/icehousekeep.KeysOrder", spec := "keysOrder", inPlace := ["internal/bytealg.abigen_runtime_cmpstring", "slices.overlaps[icehouse/api.Bucket]", "slices.overlaps[icehouse/api.Part]", "slices.overlaps[int]", "internal/bytealg.IndexByteString", "internal/bytealg.IndexString"], unfollowed := true, recurses := true, named := ["internal/bytealg.MaxLen"], plainKeys := false, apart := false }
def KeysOrderSaid : Prop := keysOrderRow.holds Tryz.pinned (OpenSpec.ofChange keysOrderSpec)

/-- ITS FALSE NEIGHBOUR: 'it returns false'. Refute it at one input. -/
def keysOrderWrong : ChangeSpec := { name := "keysOrder", fn := fun _ => fun
  | [d1, d2, d3] => { results := [.lit (.bool false)], args := [d1, d2, d3] }
  | _ => none }
def KeysOrderWrongFalsely : Prop := keysOrderRow.holds Tryz.pinned (OpenSpec.ofChange keysOrderWrong)

/- THE SECOND FORM. 'bulk': how many values and letters a reading holds, each counted each time it is reached (what is shared counts as often as it is met; a slice's spare places count too). A statement '..UptoSaid' is the law's where the arguments, and the package variables that the reading takes, are together of bulk at most 1048576: NARROWER than '..Said'. Prove '..Said' where nothing that the law and all that it calls make is longer than what came in: it says more and counts as full. Else prove '..UptoSaid'. A law counts once. -/
mutual
def uptoBulk {H : Type} : DataW H → Nat
  | .lit (.string bytes) => bytes.length + 1
  | .lit _ => 1
  | .nil => 1
  | .ptr d => uptoBulk d + 1
  | .slice elems spare => uptoBulkAll elems + uptoBulkAll spare + 1
  | .agg parts => uptoBulkAll parts + 1
  | .iface _ d => uptoBulk d + 1
  | .map entries => uptoBulkEntries entries + 1
  | .held _ => 1
def uptoBulkAll {H : Type} : List (DataW H) → Nat
  | [] => 0
  | d :: r => uptoBulk d + uptoBulkAll r
def uptoBulkEntries {H : Type} : List (Lit × DataW H) → Nat
  | [] => 0
  | x :: r => uptoBulkEntry x + uptoBulkEntries r
def uptoBulkEntry {H : Type} : Lit × DataW H → Nat
  | (.string bytes, d) => bytes.length + uptoBulk d + 1
  | (_, d) => uptoBulk d + 1
 end
def uptoSmall : (H : Type) → List (DataW H) → Bool := fun _ ds => decide (uptoBulkAll ds ≤ 1048576)
def OpenSpec.upto (s : _root_.Go.ChangeSpec) : _root_.Go.OpenSpec := { _root_.Go.OpenSpec.ofChange s with cond := some uptoSmall }

/-- 'icehousekeep.FreezeOld', WHERE WHAT IT READS IS OF BULK AT MOST 1048576: true; the input reads as it did. -/
def freezeOldUptoRow : OpenClaim := { program := "ytohdfcnjcpjdcaagreat", sum := "fd720779bb1fee105f3fb5b335cc864263ab1bd9bcc0c5f6beee56b5b99c4628", func := "icehouse/icehousekeep.FreezeOld", spec := "freezeOld", inPlace := ["internal/bytealg.abigen_runtime_cmpstring", "slices.overlaps[icehouse/api.Bucket]", "slices.overlaps[icehouse/api.Part]", "slices.overlaps[int]"], unfollowed := true, recurses := true, plainKeys := false, apart := false, narrowed := true }
def FreezeOldUptoSaid : Prop := freezeOldUptoRow.holds Tryz.pinned (OpenSpec.upto freezeOldSpec)

/-- 'icehousekeep.StateBack', WHERE WHAT IT READS IS OF BULK AT MOST 1048576: true; the input reads as it did. -/
def stateBackUptoRow : OpenClaim := { program := "ytohdfcnjcpjdcaagreat", sum := "fd720779bb1fee105f3fb5b335cc864263ab1bd9bcc0c5f6beee56b5b99c4628", func := "icehouse/icehousekeep.StateBack", spec := "stateBack", inPlace := ["internal/bytealg.abigen_runtime_cmpstring", "slices.overlaps[icehouse/api.Bucket]", "slices.overlaps[icehouse/api.Part]", "slices.overlaps[int]"], unfollowed := true, recurses := true, plainKeys := false, apart := false, narrowed := true }
def StateBackUptoSaid : Prop := stateBackUptoRow.holds Tryz.pinned (OpenSpec.upto stateBackSpec)

/-- 'icehousekeep.KeysCommon', WHERE WHAT IT READS IS OF BULK AT MOST 1048576: true; the input reads as it did. -/
def keysCommonUptoRow : OpenClaim := { program := "ytohdfcnjcpjdcaagreat", sum := "fd720779bb1fee105f3fb5b335cc864263ab1bd9bcc0c5f6beee56b5b99c4628", func := "icehouse/icehousekeep.KeysCommon", spec := "keysCommon", inPlace := ["internal/bytealg.abigen_runtime_cmpstring", "slices.overlaps[icehouse/api.Bucket]", "slices.overlaps[icehouse/api.Part]", "slices.overlaps[int]", "internal/bytealg.IndexByteString", "internal/bytealg.IndexString"], unfollowed := true, recurses := true, named := ["internal/bytealg.MaxLen"], plainKeys := false, apart := false, narrowed := true }
def KeysCommonUptoSaid : Prop := keysCommonUptoRow.holds Tryz.pinned (OpenSpec.upto keysCommonSpec)

/-- 'icehousekeep.KeysPages', WHERE WHAT IT READS IS OF BULK AT MOST 1048576: true; the input reads as it did. -/
def keysPagesUptoRow : OpenClaim := { program := "ytohdfcnjcpjdcaagreat", sum := "fd720779bb1fee105f3fb5b335cc864263ab1bd9bcc0c5f6beee56b5b99c4628", func := "icehouse/icehousekeep.KeysPages", spec := "keysPages", inPlace := ["internal/bytealg.abigen_runtime_cmpstring", "internal/bytealg.IndexByteString", "internal/bytealg.IndexString", "slices.overlaps[icehouse/api.Bucket]", "slices.overlaps[icehouse/api.Part]", "slices.overlaps[int]"], unfollowed := true, recurses := true, named := ["internal/bytealg.MaxLen"], plainKeys := false, apart := false, narrowed := true }
def KeysPagesUptoSaid : Prop := keysPagesUptoRow.holds Tryz.pinned (OpenSpec.upto keysPagesSpec)

/-- 'icehousekeep.VersionsAll', WHERE WHAT IT READS IS OF BULK AT MOST 1048576: true; the input reads as it did. -/
def versionsAllUptoRow : OpenClaim := { program := "ytohdfcnjcpjdcaagreat", sum := "fd720779bb1fee105f3fb5b335cc864263ab1bd9bcc0c5f6beee56b5b99c4628", func := "icehouse/icehousekeep.VersionsAll", spec := "versionsAll", inPlace := ["internal/bytealg.abigen_runtime_cmpstring", "internal/bytealg.IndexByteString", "internal/bytealg.IndexString", "slices.overlaps[icehouse/api.Bucket]", "slices.overlaps[icehouse/api.Part]", "slices.overlaps[int]"], unfollowed := true, recurses := true, named := ["internal/bytealg.MaxLen"], plainKeys := false, apart := false, narrowed := true }
def VersionsAllUptoSaid : Prop := versionsAllUptoRow.holds Tryz.pinned (OpenSpec.upto versionsAllSpec)

/-- 'icehousekeep.KeysOrder', WHERE WHAT IT READS IS OF BULK AT MOST 1048576: true; the input reads as it did. -/
def keysOrderUptoRow : OpenClaim := { program := "ytohdfcnjcpjdcaagreat", sum := "fd720779bb1fee105f3fb5b335cc864263ab1bd9bcc0c5f6beee56b5b99c4628", func := "icehouse/icehousekeep.KeysOrder", spec := "keysOrder", inPlace := ["internal/bytealg.abigen_runtime_cmpstring", "slices.overlaps[icehouse/api.Bucket]", "slices.overlaps[icehouse/api.Part]", "slices.overlaps[int]", "internal/bytealg.IndexByteString", "internal/bytealg.IndexString"], unfollowed := true, recurses := true, named := ["internal/bytealg.MaxLen"], plainKeys := false, apart := false, narrowed := true }
def KeysOrderUptoSaid : Prop := keysOrderUptoRow.holds Tryz.pinned (OpenSpec.upto keysOrderSpec)

end Rows
end Go.Proofs.YtohdfcnjcpjdcaaGreat
