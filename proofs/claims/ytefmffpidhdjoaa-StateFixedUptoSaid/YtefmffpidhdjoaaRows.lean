/-
  No cell of these rows narrows 'for every input' (looked for: loops, veiled, ifaces, maps, wideKeys, modest, calm, conditions, laid).
  DERIVED. THE GIVEN ROWS OF THIS SEAT. 15 by the template 'for every input the law returns true; each argument reads behind the call as it read before'; 0 by the template 'total and deterministic' (their statements: YtefmffpidhdjoaaTotals.lean).
  GIVEN WITH THE SEED: the statements are not yours to turn. If you find one false, say at which input.
  Laid BY PROGRAM, IN A SANDBOX (cutbox-rows.mjs): the forced cells as the released guide's own fill.sh prints them over the translation cd78766539268af4… (all of the seat's roots in one cut). By AI agents, Wed Nov 11 2026. No macro, syntax, notation, axiom, sorry.
-/
import Derived.Test.YtefmffpidhdjoaaChecked
import GoSem.Claim
import GoSem.ClaimJoined
import GoSem.ClaimMapViews
import Derived.JoinedTies
import Derived.KernelRfl
namespace Go.Proofs.Ytefmffpidhdjoaa
/- THE CELL 'sum', in the pinned program and in every row, IS THE sha256 OF THE DUMP (.gsa) THAT YtefmffpidhdjoaaProg.lean LOADS. Nothing in Lean hashes anything: it is a label: what it is worth is what the hold of that sum in a sandbox is worth. -/
noncomputable def Try.pinned : Pinned := { name := "ytefmffpidhdjoaa", sum := "cd78766539268af4befba13e4bc76ceb0325499e6fe9f64ec643c8f147d09cd7", checked := Try.checked }
namespace Rows
def none {H : Type} : Left H := { results := [], args := [] }

/-- 'icehousekeep.StateFixed': WHATEVER THE INPUT: true; the input reads as it did. -/
def stateFixedSpec : ChangeSpec := { name := "stateFixed", fn := fun _ => fun
  | [d] => { results := [.lit (.bool true)], args := [d] }
  | _ => none }
def stateFixedRow : OpenClaim := { program := "ytefmffpidhdjoaa", sum := "cd78766539268af4befba13e4bc76ceb0325499e6fe9f64ec643c8f147d09cd7", func := "icehouse/icehousekeep.StateFixed", spec := "stateFixed", inPlace := ["internal/bytealg.abigen_runtime_cmpstring"], unfollowed := true, recurses := true, plainKeys := false, apart := false }
def StateFixedSaid : Prop := stateFixedRow.holds Try.pinned (OpenSpec.ofChange stateFixedSpec)

/-- ITS FALSE NEIGHBOUR: 'it returns false'. Refute it at one input. -/
def stateFixedWrong : ChangeSpec := { name := "stateFixed", fn := fun _ => fun
  | [d] => { results := [.lit (.bool false)], args := [d] }
  | _ => none }
def StateFixedWrongFalsely : Prop := stateFixedRow.holds Try.pinned (OpenSpec.ofChange stateFixedWrong)

/-- 'icehousekeep.StateGood': WHATEVER THE INPUT: true; the input reads as it did. -/
def stateGoodSpec : ChangeSpec := { name := "stateGood", fn := fun _ => fun
  | [d] => { results := [.lit (.bool true)], args := [d] }
  | _ => none }
def stateGoodRow : OpenClaim := { program := "ytefmffpidhdjoaa", sum := "cd78766539268af4befba13e4bc76ceb0325499e6fe9f64ec643c8f147d09cd7", func := "icehouse/icehousekeep.StateGood", spec := "stateGood", inPlace := ["internal/bytealg.abigen_runtime_cmpstring", "slices.overlaps[icehouse/api.Bucket]", "slices.overlaps[icehouse/api.Part]", "slices.overlaps[int]"], unfollowed := true, recurses := true, plainKeys := false, apart := false }
def StateGoodSaid : Prop := stateGoodRow.holds Try.pinned (OpenSpec.ofChange stateGoodSpec)

/-- ITS FALSE NEIGHBOUR: 'it returns false'. Refute it at one input. -/
def stateGoodWrong : ChangeSpec := { name := "stateGood", fn := fun _ => fun
  | [d] => { results := [.lit (.bool false)], args := [d] }
  | _ => none }
def StateGoodWrongFalsely : Prop := stateGoodRow.holds Try.pinned (OpenSpec.ofChange stateGoodWrong)

/-- 'icehousekeep.NextRises': WHATEVER THE INPUT: true; the input reads as it did. -/
def nextRisesSpec : ChangeSpec := { name := "nextRises", fn := fun _ => fun
  | [d1, d2] => { results := [.lit (.bool true)], args := [d1, d2] }
  | _ => none }
def nextRisesRow : OpenClaim := { program := "ytefmffpidhdjoaa", sum := "cd78766539268af4befba13e4bc76ceb0325499e6fe9f64ec643c8f147d09cd7", func := "icehouse/icehousekeep.NextRises", spec := "nextRises", inPlace := ["internal/bytealg.abigen_runtime_cmpstring", "slices.overlaps[icehouse/api.Bucket]", "slices.overlaps[icehouse/api.Part]", "slices.overlaps[int]"], unfollowed := true, recurses := true, plainKeys := false, apart := false }
def NextRisesSaid : Prop := nextRisesRow.holds Try.pinned (OpenSpec.ofChange nextRisesSpec)

/-- ITS FALSE NEIGHBOUR: 'it returns false'. Refute it at one input. -/
def nextRisesWrong : ChangeSpec := { name := "nextRises", fn := fun _ => fun
  | [d1, d2] => { results := [.lit (.bool false)], args := [d1, d2] }
  | _ => none }
def NextRisesWrongFalsely : Prop := nextRisesRow.holds Try.pinned (OpenSpec.ofChange nextRisesWrong)

/-- 'icehousekeep.DropForgets': WHATEVER THE INPUT: true; the input reads as it did. -/
def dropForgetsSpec : ChangeSpec := { name := "dropForgets", fn := fun _ => fun
  | [d1, d2] => { results := [.lit (.bool true)], args := [d1, d2] }
  | _ => none }
def dropForgetsRow : OpenClaim := { program := "ytefmffpidhdjoaa", sum := "cd78766539268af4befba13e4bc76ceb0325499e6fe9f64ec643c8f147d09cd7", func := "icehouse/icehousekeep.DropForgets", spec := "dropForgets", inPlace := ["internal/bytealg.abigen_runtime_cmpstring", "slices.overlaps[icehouse/api.Bucket]", "slices.overlaps[icehouse/api.Part]", "slices.overlaps[int]"], unfollowed := true, recurses := true, plainKeys := false, apart := false }
def DropForgetsSaid : Prop := dropForgetsRow.holds Try.pinned (OpenSpec.ofChange dropForgetsSpec)

/-- ITS FALSE NEIGHBOUR: 'it returns false'. Refute it at one input. -/
def dropForgetsWrong : ChangeSpec := { name := "dropForgets", fn := fun _ => fun
  | [d1, d2] => { results := [.lit (.bool false)], args := [d1, d2] }
  | _ => none }
def DropForgetsWrongFalsely : Prop := dropForgetsRow.holds Try.pinned (OpenSpec.ofChange dropForgetsWrong)

/-- 'icehousekeep.FreeApart': WHATEVER THE INPUT: true; the input reads as it did. -/
def freeApartSpec : ChangeSpec := { name := "freeApart", fn := fun _ => fun
  | [d1, d2] => { results := [.lit (.bool true)], args := [d1, d2] }
  | _ => none }
def freeApartRow : OpenClaim := { program := "ytefmffpidhdjoaa", sum := "cd78766539268af4befba13e4bc76ceb0325499e6fe9f64ec643c8f147d09cd7", func := "icehouse/icehousekeep.FreeApart", spec := "freeApart", inPlace := ["internal/bytealg.abigen_runtime_cmpstring", "slices.overlaps[icehouse/api.Bucket]", "slices.overlaps[icehouse/api.Part]", "slices.overlaps[int]"], unfollowed := true, recurses := true, plainKeys := false, apart := false }
def FreeApartSaid : Prop := freeApartRow.holds Try.pinned (OpenSpec.ofChange freeApartSpec)

/-- ITS FALSE NEIGHBOUR: 'it returns false'. Refute it at one input. -/
def freeApartWrong : ChangeSpec := { name := "freeApart", fn := fun _ => fun
  | [d1, d2] => { results := [.lit (.bool false)], args := [d1, d2] }
  | _ => none }
def FreeApartWrongFalsely : Prop := freeApartRow.holds Try.pinned (OpenSpec.ofChange freeApartWrong)

/-- 'icehousekeep.AskCold': WHATEVER THE INPUT: true; the input reads as it did. -/
def askColdSpec : ChangeSpec := { name := "askCold", fn := fun _ => fun
  | [d1, d2] => { results := [.lit (.bool true)], args := [d1, d2] }
  | _ => none }
def askColdRow : OpenClaim := { program := "ytefmffpidhdjoaa", sum := "cd78766539268af4befba13e4bc76ceb0325499e6fe9f64ec643c8f147d09cd7", func := "icehouse/icehousekeep.AskCold", spec := "askCold", inPlace := ["internal/bytealg.abigen_runtime_cmpstring", "slices.overlaps[icehouse/api.Bucket]", "slices.overlaps[icehouse/api.Part]", "slices.overlaps[int]"], unfollowed := true, recurses := true, plainKeys := false, apart := false }
def AskColdSaid : Prop := askColdRow.holds Try.pinned (OpenSpec.ofChange askColdSpec)

/-- ITS FALSE NEIGHBOUR: 'it returns false'. Refute it at one input. -/
def askColdWrong : ChangeSpec := { name := "askCold", fn := fun _ => fun
  | [d1, d2] => { results := [.lit (.bool false)], args := [d1, d2] }
  | _ => none }
def AskColdWrongFalsely : Prop := askColdRow.holds Try.pinned (OpenSpec.ofChange askColdWrong)

/-- 'icehousekeep.GoneEmpty': WHATEVER THE INPUT: true; the input reads as it did. -/
def goneEmptySpec : ChangeSpec := { name := "goneEmpty", fn := fun _ => fun
  | [d1, d2] => { results := [.lit (.bool true)], args := [d1, d2] }
  | _ => none }
def goneEmptyRow : OpenClaim := { program := "ytefmffpidhdjoaa", sum := "cd78766539268af4befba13e4bc76ceb0325499e6fe9f64ec643c8f147d09cd7", func := "icehouse/icehousekeep.GoneEmpty", spec := "goneEmpty", inPlace := ["internal/bytealg.abigen_runtime_cmpstring", "slices.overlaps[icehouse/api.Bucket]", "slices.overlaps[icehouse/api.Part]", "slices.overlaps[int]"], unfollowed := true, recurses := true, plainKeys := false, apart := false }
def GoneEmptySaid : Prop := goneEmptyRow.holds Try.pinned (OpenSpec.ofChange goneEmptySpec)

/-- ITS FALSE NEIGHBOUR: 'it returns false'. Refute it at one input. -/
def goneEmptyWrong : ChangeSpec := { name := "goneEmpty", fn := fun _ => fun
  | [d1, d2] => { results := [.lit (.bool false)], args := [d1, d2] }
  | _ => none }
def GoneEmptyWrongFalsely : Prop := goneEmptyRow.holds Try.pinned (OpenSpec.ofChange goneEmptyWrong)

/-- 'icehousekeep.ModeOn': WHATEVER THE INPUT: true; the input reads as it did. -/
def modeOnSpec : ChangeSpec := { name := "modeOn", fn := fun _ => fun
  | [d1, d2] => { results := [.lit (.bool true)], args := [d1, d2] }
  | _ => none }
def modeOnRow : OpenClaim := { program := "ytefmffpidhdjoaa", sum := "cd78766539268af4befba13e4bc76ceb0325499e6fe9f64ec643c8f147d09cd7", func := "icehouse/icehousekeep.ModeOn", spec := "modeOn", inPlace := ["internal/bytealg.abigen_runtime_cmpstring", "slices.overlaps[icehouse/api.Bucket]", "slices.overlaps[icehouse/api.Part]", "slices.overlaps[int]"], unfollowed := true, recurses := true, plainKeys := false, apart := false }
def ModeOnSaid : Prop := modeOnRow.holds Try.pinned (OpenSpec.ofChange modeOnSpec)

/-- ITS FALSE NEIGHBOUR: 'it returns false'. Refute it at one input. -/
def modeOnWrong : ChangeSpec := { name := "modeOn", fn := fun _ => fun
  | [d1, d2] => { results := [.lit (.bool false)], args := [d1, d2] }
  | _ => none }
def ModeOnWrongFalsely : Prop := modeOnRow.holds Try.pinned (OpenSpec.ofChange modeOnWrong)

/-- 'icehousekeep.PlaceRoom': WHATEVER THE INPUT: true; the input reads as it did. -/
def placeRoomSpec : ChangeSpec := { name := "placeRoom", fn := fun _ => fun
  | [d1, d2, d3, d4, d5] => { results := [.lit (.bool true)], args := [d1, d2, d3, d4, d5] }
  | _ => none }
def placeRoomRow : OpenClaim := { program := "ytefmffpidhdjoaa", sum := "cd78766539268af4befba13e4bc76ceb0325499e6fe9f64ec643c8f147d09cd7", func := "icehouse/icehousekeep.PlaceRoom", spec := "placeRoom", inPlace := ["internal/bytealg.abigen_runtime_cmpstring", "slices.overlaps[icehouse/api.Bucket]", "slices.overlaps[icehouse/api.Part]", "slices.overlaps[int]"], unfollowed := true, recurses := true, plainKeys := false, apart := false }
def PlaceRoomSaid : Prop := placeRoomRow.holds Try.pinned (OpenSpec.ofChange placeRoomSpec)

/-- ITS FALSE NEIGHBOUR: 'it returns false'. Refute it at one input. -/
def placeRoomWrong : ChangeSpec := { name := "placeRoom", fn := fun _ => fun
  | [d1, d2, d3, d4, d5] => { results := [.lit (.bool false)], args := [d1, d2, d3, d4, d5] }
  | _ => none }
def PlaceRoomWrongFalsely : Prop := placeRoomRow.holds Try.pinned (OpenSpec.ofChange placeRoomWrong)

/-- 'icehousekeep.LiveSum': WHATEVER THE INPUT: true; the input reads as it did. -/
def liveSumSpec : ChangeSpec := { name := "liveSum", fn := fun _ => fun
  | [d] => { results := [.lit (.bool true)], args := [d] }
  | _ => none }
def liveSumRow : OpenClaim := { program := "ytefmffpidhdjoaa", sum := "cd78766539268af4befba13e4bc76ceb0325499e6fe9f64ec643c8f147d09cd7", func := "icehouse/icehousekeep.LiveSum", spec := "liveSum", inPlace := ["internal/bytealg.abigen_runtime_cmpstring", "slices.overlaps[icehouse/api.Bucket]", "slices.overlaps[icehouse/api.Part]", "slices.overlaps[int]"], unfollowed := true, recurses := true, plainKeys := false, apart := false }
def LiveSumSaid : Prop := liveSumRow.holds Try.pinned (OpenSpec.ofChange liveSumSpec)

/-- ITS FALSE NEIGHBOUR: 'it returns false'. Refute it at one input. -/
def liveSumWrong : ChangeSpec := { name := "liveSum", fn := fun _ => fun
  | [d] => { results := [.lit (.bool false)], args := [d] }
  | _ => none }
def LiveSumWrongFalsely : Prop := liveSumRow.holds Try.pinned (OpenSpec.ofChange liveSumWrong)

/-- 'icehousekeep.NullOne': WHATEVER THE INPUT: true; the input reads as it did. -/
def nullOneSpec : ChangeSpec := { name := "nullOne", fn := fun _ => fun
  | [d1, d2, d3, d4] => { results := [.lit (.bool true)], args := [d1, d2, d3, d4] }
  | _ => none }
def nullOneRow : OpenClaim := { program := "ytefmffpidhdjoaa", sum := "cd78766539268af4befba13e4bc76ceb0325499e6fe9f64ec643c8f147d09cd7", func := "icehouse/icehousekeep.NullOne", spec := "nullOne", inPlace := ["internal/bytealg.abigen_runtime_cmpstring", "slices.overlaps[icehouse/api.Bucket]", "slices.overlaps[icehouse/api.Part]", "slices.overlaps[int]"], unfollowed := true, recurses := true, plainKeys := false, apart := false }
def NullOneSaid : Prop := nullOneRow.holds Try.pinned (OpenSpec.ofChange nullOneSpec)

/-- ITS FALSE NEIGHBOUR: 'it returns false'. Refute it at one input. -/
def nullOneWrong : ChangeSpec := { name := "nullOne", fn := fun _ => fun
  | [d1, d2, d3, d4] => { results := [.lit (.bool false)], args := [d1, d2, d3, d4] }
  | _ => none }
def NullOneWrongFalsely : Prop := nullOneRow.holds Try.pinned (OpenSpec.ofChange nullOneWrong)

/-- 'icehousekeep.TiersRound': WHATEVER THE INPUT: true; the input reads as it did. -/
def tiersRoundSpec : ChangeSpec := { name := "tiersRound", fn := fun _ => fun
  | [d1, d2, d3, d4, d5] => { results := [.lit (.bool true)], args := [d1, d2, d3, d4, d5] }
  | _ => none }
def tiersRoundRow : OpenClaim := { program := "ytefmffpidhdjoaa", sum := "cd78766539268af4befba13e4bc76ceb0325499e6fe9f64ec643c8f147d09cd7", func := "icehouse/icehousekeep.TiersRound", spec := "tiersRound", inPlace := ["internal/bytealg.abigen_runtime_cmpstring", "slices.overlaps[icehouse/api.Bucket]", "slices.overlaps[icehouse/api.Part]", "slices.overlaps[int]"], unfollowed := true, recurses := true, plainKeys := false, apart := false }
def TiersRoundSaid : Prop := tiersRoundRow.holds Try.pinned (OpenSpec.ofChange tiersRoundSpec)

/-- ITS FALSE NEIGHBOUR: 'it returns false'. Refute it at one input. -/
def tiersRoundWrong : ChangeSpec := { name := "tiersRound", fn := fun _ => fun
  | [d1, d2, d3, d4, d5] => { results := [.lit (.bool false)], args := [d1, d2, d3, d4, d5] }
  | _ => none }
def TiersRoundWrongFalsely : Prop := tiersRoundRow.holds Try.pinned (OpenSpec.ofChange tiersRoundWrong)

/-- 'icehousekeep.NextClass': WHATEVER THE INPUT: true; the input reads as it did. -/
def nextClassSpec : ChangeSpec := { name := "nextClass", fn := fun _ => fun
  | [d] => { results := [.lit (.bool true)], args := [d] }
  | _ => none }
def nextClassRow : OpenClaim := { program := "ytefmffpidhdjoaa", sum := "cd78766539268af4befba13e4bc76ceb0325499e6fe9f64ec643c8f147d09cd7", func := "icehouse/icehousekeep.NextClass", spec := "nextClass", inPlace := ["internal/bytealg.abigen_runtime_cmpstring", "slices.overlaps[icehouse/api.Bucket]", "slices.overlaps[icehouse/api.Part]", "slices.overlaps[int]"], unfollowed := true, recurses := true, plainKeys := false, apart := false }
def NextClassSaid : Prop := nextClassRow.holds Try.pinned (OpenSpec.ofChange nextClassSpec)

/-- ITS FALSE NEIGHBOUR: 'it returns false'. Refute it at one input. -/
def nextClassWrong : ChangeSpec := { name := "nextClass", fn := fun _ => fun
  | [d] => { results := [.lit (.bool false)], args := [d] }
  | _ => none }
def NextClassWrongFalsely : Prop := nextClassRow.holds Try.pinned (OpenSpec.ofChange nextClassWrong)

/-- 'icehousekeep.ChillOver': WHATEVER THE INPUT: true; the input reads as it did. -/
def chillOverSpec : ChangeSpec := { name := "chillOver", fn := fun _ => fun
  | [d1, d2] => { results := [.lit (.bool true)], args := [d1, d2] }
  | _ => none }
def chillOverRow : OpenClaim := { program := "ytefmffpidhdjoaa", sum := "cd78766539268af4befba13e4bc76ceb0325499e6fe9f64ec643c8f147d09cd7", func := "icehouse/icehousekeep.ChillOver", spec := "chillOver", inPlace := ["internal/bytealg.abigen_runtime_cmpstring", "slices.overlaps[icehouse/api.Bucket]", "slices.overlaps[icehouse/api.Part]", "slices.overlaps[int]"], unfollowed := true, recurses := true, plainKeys := false, apart := false }
def ChillOverSaid : Prop := chillOverRow.holds Try.pinned (OpenSpec.ofChange chillOverSpec)

/-- ITS FALSE NEIGHBOUR: 'it returns false'. Refute it at one input. -/
def chillOverWrong : ChangeSpec := { name := "chillOver", fn := fun _ => fun
  | [d1, d2] => { results := [.lit (.bool false)], args := [d1, d2] }
  | _ => none }
def ChillOverWrongFalsely : Prop := chillOverRow.holds Try.pinned (OpenSpec.ofChange chillOverWrong)

/-- 'icehousekeep.HalfDead': WHATEVER THE INPUT: true; the input reads as it did. -/
def halfDeadSpec : ChangeSpec := { name := "halfDead", fn := fun _ => fun
  | [d1, d2] => { results := [.lit (.bool true)], args := [d1, d2] }
  | _ => none }
def halfDeadRow : OpenClaim := { program := "ytefmffpidhdjoaa", sum := "cd78766539268af4befba13e4bc76ceb0325499e6fe9f64ec643c8f147d09cd7", func := "icehouse/icehousekeep.HalfDead", spec := "halfDead", inPlace := ["internal/bytealg.abigen_runtime_cmpstring", "slices.overlaps[icehouse/api.Bucket]", "slices.overlaps[icehouse/api.Part]", "slices.overlaps[int]"], unfollowed := true, recurses := true, plainKeys := false, apart := false }
def HalfDeadSaid : Prop := halfDeadRow.holds Try.pinned (OpenSpec.ofChange halfDeadSpec)

/-- ITS FALSE NEIGHBOUR: 'it returns false'. Refute it at one input. -/
def halfDeadWrong : ChangeSpec := { name := "halfDead", fn := fun _ => fun
  | [d1, d2] => { results := [.lit (.bool false)], args := [d1, d2] }
  | _ => none }
def HalfDeadWrongFalsely : Prop := halfDeadRow.holds Try.pinned (OpenSpec.ofChange halfDeadWrong)

/- THE SECOND FORM. 'bulk': how many values and letters a reading holds, each counted each time it is reached (what is shared counts as often as it is met; a slice's spare places count too). A statement '..UptoSaid' is the law's where the arguments, and the package variables that the reading takes, are together of bulk at most 1048576: NARROWER than '..Said'. Prove '..Said' where nothing that the law and all that it calls make is longer than what came in: it says more and counts as full. Else prove '..UptoSaid'. A law counts once. -/
mutual
def uptoBulk {H : Type} : DataW H → Nat
  | .lit (.string bytes) => bytes.length + 1
  | .lit _ => 1
  | .nil => 1
  | .ptr d => uptoBulk d + 1
  | .slice elems spare => uptoBulkAll elems + uptoBulkAll spare + 1
  | .agg parts => uptoBulkAll parts + 1
  | .iface _ d => uptoBulk d + 1
  | .map entries => uptoBulkEntries entries + 1
  | .held _ => 1
def uptoBulkAll {H : Type} : List (DataW H) → Nat
  | [] => 0
  | d :: r => uptoBulk d + uptoBulkAll r
def uptoBulkEntries {H : Type} : List (Lit × DataW H) → Nat
  | [] => 0
  | x :: r => uptoBulkEntry x + uptoBulkEntries r
def uptoBulkEntry {H : Type} : Lit × DataW H → Nat
  | (.string bytes, d) => bytes.length + uptoBulk d + 1
  | (_, d) => uptoBulk d + 1
 end
def uptoSmall : (H : Type) → List (DataW H) → Bool := fun _ ds => decide (uptoBulkAll ds ≤ 1048576)
def OpenSpec.upto (s : _root_.Go.ChangeSpec) : _root_.Go.OpenSpec := { _root_.Go.OpenSpec.ofChange s with cond := some uptoSmall }

/-- 'icehousekeep.StateFixed', WHERE WHAT IT READS IS OF BULK AT MOST 1048576: true; the input reads as it did. -/
def stateFixedUptoRow : OpenClaim := { program := "ytefmffpidhdjoaa", sum := "cd78766539268af4befba13e4bc76ceb0325499e6fe9f64ec643c8f147d09cd7", func := "icehouse/icehousekeep.StateFixed", spec := "stateFixed", inPlace := ["internal/bytealg.abigen_runtime_cmpstring"], unfollowed := true, recurses := true, plainKeys := false, apart := false, narrowed := true }
def StateFixedUptoSaid : Prop := stateFixedUptoRow.holds Try.pinned (OpenSpec.upto stateFixedSpec)

/-- 'icehousekeep.StateGood', WHERE WHAT IT READS IS OF BULK AT MOST 1048576: true; the input reads as it did. -/
def stateGoodUptoRow : OpenClaim := { program := "ytefmffpidhdjoaa", sum := "cd78766539268af4befba13e4bc76ceb0325499e6fe9f64ec643c8f147d09cd7", func := "icehouse/icehousekeep.StateGood", spec := "stateGood", inPlace := ["internal/bytealg.abigen_runtime_cmpstring", "slices.overlaps[icehouse/api.Bucket]", "slices.overlaps[icehouse/api.Part]", "slices.overlaps[int]"], unfollowed := true, recurses := true, plainKeys := false, apart := false, narrowed := true }
def StateGoodUptoSaid : Prop := stateGoodUptoRow.holds Try.pinned (OpenSpec.upto stateGoodSpec)

/-- 'icehousekeep.NextRises', WHERE WHAT IT READS IS OF BULK AT MOST 1048576: true; the input reads as it did. -/
def nextRisesUptoRow : OpenClaim := { program := "ytefmffpidhdjoaa", sum := "cd78766539268af4befba13e4bc76ceb0325499e6fe9f64ec643c8f147d09cd7", func := "icehouse/icehousekeep.NextRises", spec := "nextRises", inPlace := ["internal/bytealg.abigen_runtime_cmpstring", "slices.overlaps[icehouse/api.Bucket]", "slices.overlaps[icehouse/api.Part]", "slices.overlaps[int]"], unfollowed := true, recurses := true, plainKeys := false, apart := false, narrowed := true }
def NextRisesUptoSaid : Prop := nextRisesUptoRow.holds Try.pinned (OpenSpec.upto nextRisesSpec)

/-- 'icehousekeep.DropForgets', WHERE WHAT IT READS IS OF BULK AT MOST 1048576: true; the input reads as it did. -/
def dropForgetsUptoRow : OpenClaim := { program := "ytefmffpidhdjoaa", sum := "cd78766539268af4befba13e4bc76ceb0325499e6fe9f64ec643c8f147d09cd7", func := "icehouse/icehousekeep.DropForgets", spec := "dropForgets", inPlace := ["internal/bytealg.abigen_runtime_cmpstring", "slices.overlaps[icehouse/api.Bucket]", "slices.overlaps[icehouse/api.Part]", "slices.overlaps[int]"], unfollowed := true, recurses := true, plainKeys := false, apart := false, narrowed := true }
def DropForgetsUptoSaid : Prop := dropForgetsUptoRow.holds Try.pinned (OpenSpec.upto dropForgetsSpec)

/-- 'icehousekeep.FreeApart', WHERE WHAT IT READS IS OF BULK AT MOST 1048576: true; the input reads as it did. -/
def freeApartUptoRow : OpenClaim := { program := "ytefmffpidhdjoaa", sum := "cd78766539268af4befba13e4bc76ceb0325499e6fe9f64ec643c8f147d09cd7", func := "icehouse/icehousekeep.FreeApart", spec := "freeApart", inPlace := ["internal/bytealg.abigen_runtime_cmpstring", "slices.overlaps[icehouse/api.Bucket]", "slices.overlaps[icehouse/api.Part]", "slices.overlaps[int]"], unfollowed := true, recurses := true, plainKeys := false, apart := false, narrowed := true }
def FreeApartUptoSaid : Prop := freeApartUptoRow.holds Try.pinned (OpenSpec.upto freeApartSpec)

/-- 'icehousekeep.AskCold', WHERE WHAT IT READS IS OF BULK AT MOST 1048576: true; the input reads as it did. -/
def askColdUptoRow : OpenClaim := { program := "ytefmffpidhdjoaa", sum := "cd78766539268af4befba13e4bc76ceb0325499e6fe9f64ec643c8f147d09cd7", func := "icehouse/icehousekeep.AskCold", spec := "askCold", inPlace := ["internal/bytealg.abigen_runtime_cmpstring", "slices.overlaps[icehouse/api.Bucket]", "slices.overlaps[icehouse/api.Part]", "slices.overlaps[int]"], unfollowed := true, recurses := true, plainKeys := false, apart := false, narrowed := true }
def AskColdUptoSaid : Prop := askColdUptoRow.holds Try.pinned (OpenSpec.upto askColdSpec)

/-- 'icehousekeep.GoneEmpty', WHERE WHAT IT READS IS OF BULK AT MOST 1048576: true; the input reads as it did. -/
def goneEmptyUptoRow : OpenClaim := { program := "ytefmffpidhdjoaa", sum := "cd78766539268af4befba13e4bc76ceb0325499e6fe9f64ec643c8f147d09cd7", func := "icehouse/icehousekeep.GoneEmpty", spec := "goneEmpty", inPlace := ["internal/bytealg.abigen_runtime_cmpstring", "slices.overlaps[icehouse/api.Bucket]", "slices.overlaps[icehouse/api.Part]", "slices.overlaps[int]"], unfollowed := true, recurses := true, plainKeys := false, apart := false, narrowed := true }
def GoneEmptyUptoSaid : Prop := goneEmptyUptoRow.holds Try.pinned (OpenSpec.upto goneEmptySpec)

/-- 'icehousekeep.ModeOn', WHERE WHAT IT READS IS OF BULK AT MOST 1048576: true; the input reads as it did. -/
def modeOnUptoRow : OpenClaim := { program := "ytefmffpidhdjoaa", sum := "cd78766539268af4befba13e4bc76ceb0325499e6fe9f64ec643c8f147d09cd7", func := "icehouse/icehousekeep.ModeOn", spec := "modeOn", inPlace := ["internal/bytealg.abigen_runtime_cmpstring", "slices.overlaps[icehouse/api.Bucket]", "slices.overlaps[icehouse/api.Part]", "slices.overlaps[int]"], unfollowed := true, recurses := true, plainKeys := false, apart := false, narrowed := true }
def ModeOnUptoSaid : Prop := modeOnUptoRow.holds Try.pinned (OpenSpec.upto modeOnSpec)

/-- 'icehousekeep.PlaceRoom', WHERE WHAT IT READS IS OF BULK AT MOST 1048576: true; the input reads as it did. -/
def placeRoomUptoRow : OpenClaim := { program := "ytefmffpidhdjoaa", sum := "cd78766539268af4befba13e4bc76ceb0325499e6fe9f64ec643c8f147d09cd7", func := "icehouse/icehousekeep.PlaceRoom", spec := "placeRoom", inPlace := ["internal/bytealg.abigen_runtime_cmpstring", "slices.overlaps[icehouse/api.Bucket]", "slices.overlaps[icehouse/api.Part]", "slices.overlaps[int]"], unfollowed := true, recurses := true, plainKeys := false, apart := false, narrowed := true }
def PlaceRoomUptoSaid : Prop := placeRoomUptoRow.holds Try.pinned (OpenSpec.upto placeRoomSpec)

/-- 'icehousekeep.LiveSum', WHERE WHAT IT READS IS OF BULK AT MOST 1048576: true; the input reads as it did. -/
def liveSumUptoRow : OpenClaim := { program := "ytefmffpidhdjoaa", sum := "cd78766539268af4befba13e4bc76ceb0325499e6fe9f64ec643c8f147d09cd7", func := "icehouse/icehousekeep.LiveSum", spec := "liveSum", inPlace := ["internal/bytealg.abigen_runtime_cmpstring", "slices.overlaps[icehouse/api.Bucket]", "slices.overlaps[icehouse/api.Part]", "slices.overlaps[int]"], unfollowed := true, recurses := true, plainKeys := false, apart := false, narrowed := true }
def LiveSumUptoSaid : Prop := liveSumUptoRow.holds Try.pinned (OpenSpec.upto liveSumSpec)

/-- 'icehousekeep.NullOne', WHERE WHAT IT READS IS OF BULK AT MOST 1048576: true; the input reads as it did. -/
def nullOneUptoRow : OpenClaim := { program := "ytefmffpidhdjoaa", sum := "cd78766539268af4befba13e4bc76ceb0325499e6fe9f64ec643c8f147d09cd7", func := "icehouse/icehousekeep.NullOne", spec := "nullOne", inPlace := ["internal/bytealg.abigen_runtime_cmpstring", "slices.overlaps[icehouse/api.Bucket]", "slices.overlaps[icehouse/api.Part]", "slices.overlaps[int]"], unfollowed := true, recurses := true, plainKeys := false, apart := false, narrowed := true }
def NullOneUptoSaid : Prop := nullOneUptoRow.holds Try.pinned (OpenSpec.upto nullOneSpec)

/-- 'icehousekeep.TiersRound', WHERE WHAT IT READS IS OF BULK AT MOST 1048576: true; the input reads as it did. -/
def tiersRoundUptoRow : OpenClaim := { program := "ytefmffpidhdjoaa", sum := "cd78766539268af4befba13e4bc76ceb0325499e6fe9f64ec643c8f147d09cd7", func := "icehouse/icehousekeep.TiersRound", spec := "tiersRound", inPlace := ["internal/bytealg.abigen_runtime_cmpstring", "slices.overlaps[icehouse/api.Bucket]", "slices.overlaps[icehouse/api.Part]", "slices.overlaps[int]"], unfollowed := true, recurses := true, plainKeys := false, apart := false, narrowed := true }
def TiersRoundUptoSaid : Prop := tiersRoundUptoRow.holds Try.pinned (OpenSpec.upto tiersRoundSpec)

/-- 'icehousekeep.NextClass', WHERE WHAT IT READS IS OF BULK AT MOST 1048576: true; the input reads as it did. -/
def nextClassUptoRow : OpenClaim := { program := "ytefmffpidhdjoaa", sum := "cd78766539268af4befba13e4bc76ceb0325499e6fe9f64ec643c8f147d09cd7", func := "icehouse/icehousekeep.NextClass", spec := "nextClass", inPlace := ["internal/bytealg.abigen_runtime_cmpstring", "slices.overlaps[icehouse/api.Bucket]", "slices.overlaps[icehouse/api.Part]", "slices.overlaps[int]"], unfollowed := true, recurses := true, plainKeys := false, apart := false, narrowed := true }
def NextClassUptoSaid : Prop := nextClassUptoRow.holds Try.pinned (OpenSpec.upto nextClassSpec)

/-- 'icehousekeep.ChillOver', WHERE WHAT IT READS IS OF BULK AT MOST 1048576: true; the input reads as it did. -/
def chillOverUptoRow : OpenClaim := { program := "ytefmffpidhdjoaa", sum := "cd78766539268af4befba13e4bc76ceb0325499e6fe9f64ec643c8f147d09cd7", func := "icehouse/icehousekeep.ChillOver", spec := "chillOver", inPlace := ["internal/bytealg.abigen_runtime_cmpstring", "slices.overlaps[icehouse/api.Bucket]", "slices.overlaps[icehouse/api.Part]", "slices.overlaps[int]"], unfollowed := true, recurses := true, plainKeys := false, apart := false, narrowed := true }
def ChillOverUptoSaid : Prop := chillOverUptoRow.holds Try.pinned (OpenSpec.upto chillOverSpec)

/-- 'icehousekeep.HalfDead', WHERE WHAT IT READS IS OF BULK AT MOST 1048576: true; the input reads as it did. -/
def halfDeadUptoRow : OpenClaim := { program := "ytefmffpidhdjoaa", sum := "cd78766539268af4befba13e4bc76ceb0325499e6fe9f64ec643c8f147d09cd7", func := "icehouse/icehousekeep.HalfDead", spec := "halfDead", inPlace := ["internal/bytealg.abigen_runtime_cmpstring", "slices.overlaps[icehouse/api.Bucket]", "slices.overlaps[icehouse/api.Part]", "slices.overlaps[int]"], unfollowed := true, recurses := true, plainKeys := false, apart := false, narrowed := true }
def HalfDeadUptoSaid : Prop := halfDeadUptoRow.holds Try.pinned (OpenSpec.upto halfDeadSpec)

end Rows
end Go.Proofs.Ytefmffpidhdjoaa
