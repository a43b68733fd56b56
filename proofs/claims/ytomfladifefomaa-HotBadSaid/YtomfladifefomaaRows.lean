/-
  No cell of these rows narrows 'for every input' (looked for: loops, veiled, ifaces, maps, wideKeys, modest, calm, conditions, laid).
  DERIVED. THE GIVEN ROWS OF THIS SEAT. 22 by the template 'for every input the law returns true; each argument reads behind the call as it read before'; 0 by the template 'total and deterministic' (their statements: YtomfladifefomaaTotals.lean).
  GIVEN WITH THE SEED: the statements are not yours to turn. If you find one false, say at which input.
  Laid BY PROGRAM, IN A SANDBOX (cutbox-rows.mjs): the forced cells as the released guide's own fill.sh prints them over the translation d7817d1c3eae4be9… (all of the seat's roots in one cut). By AI agents, Wed Nov 11 2026. No macro, syntax, notation, axiom, sorry.
-/
import Derived.Test.YtomfladifefomaaChecked
import GoSem.Claim
import GoSem.ClaimJoined
import GoSem.ClaimMapViews
import Derived.JoinedTies
import Derived.KernelRfl
namespace Go.Proofs.Ytomfladifefomaa
/- THE CELL 'sum', in the pinned program and in every row, IS THE sha256 OF THE DUMP (.gsa) THAT YtomfladifefomaaProg.lean LOADS. Nothing in Lean hashes anything: it is a label: what it is worth is what the hold of that sum in a sandbox is worth. -/
noncomputable def Try.pinned : Pinned := { name := "ytomfladifefomaa", sum := "d7817d1c3eae4be949c89c24f76e886db4b6c182766ab35b59f7e046c9ebbb89", checked := Try.checked }
namespace Rows
def none {H : Type} : Left H := { results := [], args := [] }

/-- 'icehousekeep.PackBad': WHATEVER THE INPUT: true; the input reads as it did. -/
def packBadSpec : ChangeSpec := { name := "packBad", fn := fun _ => fun
  | [d] => { results := [.lit (.bool true)], args := [d] }
  | _ => none }
def packBadRow : OpenClaim := { program := "ytomfladifefomaa", sum := "d7817d1c3eae4be949c89c24f76e886db4b6c182766ab35b59f7e046c9ebbb89", func := "icehouse/icehousekeep.PackBad", spec := "packBad", apart := false }
def PackBadSaid : Prop := packBadRow.holds Try.pinned (OpenSpec.ofChange packBadSpec)

/-- ITS FALSE NEIGHBOUR: 'it returns false'. Refute it at one input. -/
def packBadWrong : ChangeSpec := { name := "packBad", fn := fun _ => fun
  | [d] => { results := [.lit (.bool false)], args := [d] }
  | _ => none }
def PackBadWrongFalsely : Prop := packBadRow.holds Try.pinned (OpenSpec.ofChange packBadWrong)

/-- 'icehousekeep.TakeGone': WHATEVER THE INPUT: true; the input reads as it did. -/
def takeGoneSpec : ChangeSpec := { name := "takeGone", fn := fun _ => fun
  | [d1, d2] => { results := [.lit (.bool true)], args := [d1, d2] }
  | _ => none }
def takeGoneRow : OpenClaim := { program := "ytomfladifefomaa", sum := "d7817d1c3eae4be949c89c24f76e886db4b6c182766ab35b59f7e046c9ebbb89", func := "icehouse/icehousekeep.TakeGone", spec := "takeGone", unfollowed := true, recurses := true, apart := false }
def TakeGoneSaid : Prop := takeGoneRow.holds Try.pinned (OpenSpec.ofChange takeGoneSpec)

/-- ITS FALSE NEIGHBOUR: 'it returns false'. Refute it at one input. -/
def takeGoneWrong : ChangeSpec := { name := "takeGone", fn := fun _ => fun
  | [d1, d2] => { results := [.lit (.bool false)], args := [d1, d2] }
  | _ => none }
def TakeGoneWrongFalsely : Prop := takeGoneRow.holds Try.pinned (OpenSpec.ofChange takeGoneWrong)

/-- 'icehousekeep.TapeTail': WHATEVER THE INPUT: true; the input reads as it did. -/
def tapeTailSpec : ChangeSpec := { name := "tapeTail", fn := fun _ => fun
  | [d1, d2, d3] => { results := [.lit (.bool true)], args := [d1, d2, d3] }
  | _ => none }
def tapeTailRow : OpenClaim := { program := "ytomfladifefomaa", sum := "d7817d1c3eae4be949c89c24f76e886db4b6c182766ab35b59f7e046c9ebbb89", func := "icehouse/icehousekeep.TapeTail", spec := "tapeTail", unfollowed := true, recurses := true, apart := false }
def TapeTailSaid : Prop := tapeTailRow.holds Try.pinned (OpenSpec.ofChange tapeTailSpec)

/-- ITS FALSE NEIGHBOUR: 'it returns false'. Refute it at one input. -/
def tapeTailWrong : ChangeSpec := { name := "tapeTail", fn := fun _ => fun
  | [d1, d2, d3] => { results := [.lit (.bool false)], args := [d1, d2, d3] }
  | _ => none }
def TapeTailWrongFalsely : Prop := tapeTailRow.holds Try.pinned (OpenSpec.ofChange tapeTailWrong)

/-- 'icehousekeep.DevGood': WHATEVER THE INPUT: true; the input reads as it did. -/
def devGoodSpec : ChangeSpec := { name := "devGood", fn := fun _ => fun
  | [d] => { results := [.lit (.bool true)], args := [d] }
  | _ => none }
def devGoodRow : OpenClaim := { program := "ytomfladifefomaa", sum := "d7817d1c3eae4be949c89c24f76e886db4b6c182766ab35b59f7e046c9ebbb89", func := "icehouse/icehousekeep.DevGood", spec := "devGood", unfollowed := true, recurses := true, apart := false }
def DevGoodSaid : Prop := devGoodRow.holds Try.pinned (OpenSpec.ofChange devGoodSpec)

/-- ITS FALSE NEIGHBOUR: 'it returns false'. Refute it at one input. -/
def devGoodWrong : ChangeSpec := { name := "devGood", fn := fun _ => fun
  | [d] => { results := [.lit (.bool false)], args := [d] }
  | _ => none }
def DevGoodWrongFalsely : Prop := devGoodRow.holds Try.pinned (OpenSpec.ofChange devGoodWrong)

/-- 'icehousekeep.PutGet': WHATEVER THE INPUT: true; the input reads as it did. -/
def putGetSpec : ChangeSpec := { name := "putGet", fn := fun _ => fun
  | [d1, d2, d3, d4] => { results := [.lit (.bool true)], args := [d1, d2, d3, d4] }
  | _ => none }
def putGetRow : OpenClaim := { program := "ytomfladifefomaa", sum := "d7817d1c3eae4be949c89c24f76e886db4b6c182766ab35b59f7e046c9ebbb89", func := "icehouse/icehousekeep.PutGet", spec := "putGet", unfollowed := true, recurses := true, apart := false }
def PutGetSaid : Prop := putGetRow.holds Try.pinned (OpenSpec.ofChange putGetSpec)

/-- ITS FALSE NEIGHBOUR: 'it returns false'. Refute it at one input. -/
def putGetWrong : ChangeSpec := { name := "putGet", fn := fun _ => fun
  | [d1, d2, d3, d4] => { results := [.lit (.bool false)], args := [d1, d2, d3, d4] }
  | _ => none }
def PutGetWrongFalsely : Prop := putGetRow.holds Try.pinned (OpenSpec.ofChange putGetWrong)

/-- 'icehousekeep.FlushSafe': WHATEVER THE INPUT: true; the input reads as it did. -/
def flushSafeSpec : ChangeSpec := { name := "flushSafe", fn := fun _ => fun
  | [d1, d2, d3, d4] => { results := [.lit (.bool true)], args := [d1, d2, d3, d4] }
  | _ => none }
def flushSafeRow : OpenClaim := { program := "ytomfladifefomaa", sum := "d7817d1c3eae4be949c89c24f76e886db4b6c182766ab35b59f7e046c9ebbb89", func := "icehouse/icehousekeep.FlushSafe", spec := "flushSafe", unfollowed := true, recurses := true, apart := false }
def FlushSafeSaid : Prop := flushSafeRow.holds Try.pinned (OpenSpec.ofChange flushSafeSpec)

/-- ITS FALSE NEIGHBOUR: 'it returns false'. Refute it at one input. -/
def flushSafeWrong : ChangeSpec := { name := "flushSafe", fn := fun _ => fun
  | [d1, d2, d3, d4] => { results := [.lit (.bool false)], args := [d1, d2, d3, d4] }
  | _ => none }
def FlushSafeWrongFalsely : Prop := flushSafeRow.holds Try.pinned (OpenSpec.ofChange flushSafeWrong)

/-- 'icehousekeep.CrashEither': WHATEVER THE INPUT: true; the input reads as it did. -/
def crashEitherSpec : ChangeSpec := { name := "crashEither", fn := fun _ => fun
  | [d1, d2, d3] => { results := [.lit (.bool true)], args := [d1, d2, d3] }
  | _ => none }
def crashEitherRow : OpenClaim := { program := "ytomfladifefomaa", sum := "d7817d1c3eae4be949c89c24f76e886db4b6c182766ab35b59f7e046c9ebbb89", func := "icehouse/icehousekeep.CrashEither", spec := "crashEither", unfollowed := true, recurses := true, apart := false }
def CrashEitherSaid : Prop := crashEitherRow.holds Try.pinned (OpenSpec.ofChange crashEitherSpec)

/-- ITS FALSE NEIGHBOUR: 'it returns false'. Refute it at one input. -/
def crashEitherWrong : ChangeSpec := { name := "crashEither", fn := fun _ => fun
  | [d1, d2, d3] => { results := [.lit (.bool false)], args := [d1, d2, d3] }
  | _ => none }
def CrashEitherWrongFalsely : Prop := crashEitherRow.holds Try.pinned (OpenSpec.ofChange crashEitherWrong)

/-- 'icehousekeep.WriteApart': WHATEVER THE INPUT: true; the input reads as it did. -/
def writeApartSpec : ChangeSpec := { name := "writeApart", fn := fun _ => fun
  | [d1, d2, d3, d4, d5] => { results := [.lit (.bool true)], args := [d1, d2, d3, d4, d5] }
  | _ => none }
def writeApartRow : OpenClaim := { program := "ytomfladifefomaa", sum := "d7817d1c3eae4be949c89c24f76e886db4b6c182766ab35b59f7e046c9ebbb89", func := "icehouse/icehousekeep.WriteApart", spec := "writeApart", unfollowed := true, recurses := true, apart := false }
def WriteApartSaid : Prop := writeApartRow.holds Try.pinned (OpenSpec.ofChange writeApartSpec)

/-- ITS FALSE NEIGHBOUR: 'it returns false'. Refute it at one input. -/
def writeApartWrong : ChangeSpec := { name := "writeApart", fn := fun _ => fun
  | [d1, d2, d3, d4, d5] => { results := [.lit (.bool false)], args := [d1, d2, d3, d4, d5] }
  | _ => none }
def WriteApartWrongFalsely : Prop := writeApartRow.holds Try.pinned (OpenSpec.ofChange writeApartWrong)

/-- 'icehousekeep.HotBad': WHATEVER THE INPUT: true; the input reads as it did. -/
def hotBadSpec : ChangeSpec := { name := "hotBad", fn := fun _ => fun
  | [d1, d2] => { results := [.lit (.bool true)], args := [d1, d2] }
  | _ => none }
def hotBadRow : OpenClaim := { program := "ytomfladifefomaa", sum := "d7817d1c3eae4be949c89c24f76e886db4b6c182766ab35b59f7e046c9ebbb89", func := "icehouse/icehousekeep.HotBad", spec := "hotBad", unfollowed := true, recurses := true, apart := false }
def HotBadSaid : Prop := hotBadRow.holds Try.pinned (OpenSpec.ofChange hotBadSpec)

/-- ITS FALSE NEIGHBOUR: 'it returns false'. Refute it at one input. -/
def hotBadWrong : ChangeSpec := { name := "hotBad", fn := fun _ => fun
  | [d1, d2] => { results := [.lit (.bool false)], args := [d1, d2] }
  | _ => none }
def HotBadWrongFalsely : Prop := hotBadRow.holds Try.pinned (OpenSpec.ofChange hotBadWrong)

/-- 'icehousekeep.PackFetch': WHATEVER THE INPUT: true; the input reads as it did. -/
def packFetchSpec : ChangeSpec := { name := "packFetch", fn := fun _ => fun
  | [d1, d2] => { results := [.lit (.bool true)], args := [d1, d2] }
  | _ => none }
def packFetchRow : OpenClaim := { program := "ytomfladifefomaa", sum := "d7817d1c3eae4be949c89c24f76e886db4b6c182766ab35b59f7e046c9ebbb89", func := "icehouse/icehousekeep.PackFetch", spec := "packFetch", unfollowed := true, recurses := true, apart := false }
def PackFetchSaid : Prop := packFetchRow.holds Try.pinned (OpenSpec.ofChange packFetchSpec)

/-- ITS FALSE NEIGHBOUR: 'it returns false'. Refute it at one input. -/
def packFetchWrong : ChangeSpec := { name := "packFetch", fn := fun _ => fun
  | [d1, d2] => { results := [.lit (.bool false)], args := [d1, d2] }
  | _ => none }
def PackFetchWrongFalsely : Prop := packFetchRow.holds Try.pinned (OpenSpec.ofChange packFetchWrong)

/-- 'icehousekeep.FuelCounts': WHATEVER THE INPUT: true; the input reads as it did. -/
def fuelCountsSpec : ChangeSpec := { name := "fuelCounts", fn := fun _ => fun
  | [d1, d2] => { results := [.lit (.bool true)], args := [d1, d2] }
  | _ => none }
def fuelCountsRow : OpenClaim := { program := "ytomfladifefomaa", sum := "d7817d1c3eae4be949c89c24f76e886db4b6c182766ab35b59f7e046c9ebbb89", func := "icehouse/icehousekeep.FuelCounts", spec := "fuelCounts", unfollowed := true, recurses := true, apart := false }
def FuelCountsSaid : Prop := fuelCountsRow.holds Try.pinned (OpenSpec.ofChange fuelCountsSpec)

/-- ITS FALSE NEIGHBOUR: 'it returns false'. Refute it at one input. -/
def fuelCountsWrong : ChangeSpec := { name := "fuelCounts", fn := fun _ => fun
  | [d1, d2] => { results := [.lit (.bool false)], args := [d1, d2] }
  | _ => none }
def FuelCountsWrongFalsely : Prop := fuelCountsRow.holds Try.pinned (OpenSpec.ofChange fuelCountsWrong)

/-- 'icehousekeep.WriteRead': WHATEVER THE INPUT: true; the input reads as it did. -/
def writeReadSpec : ChangeSpec := { name := "writeRead", fn := fun _ => fun
  | [d1, d2, d3, d4, d5] => { results := [.lit (.bool true)], args := [d1, d2, d3, d4, d5] }
  | _ => none }
def writeReadRow : OpenClaim := { program := "ytomfladifefomaa", sum := "d7817d1c3eae4be949c89c24f76e886db4b6c182766ab35b59f7e046c9ebbb89", func := "icehouse/icehousekeep.WriteRead", spec := "writeRead", unfollowed := true, recurses := true, apart := false }
def WriteReadSaid : Prop := writeReadRow.holds Try.pinned (OpenSpec.ofChange writeReadSpec)

/-- ITS FALSE NEIGHBOUR: 'it returns false'. Refute it at one input. -/
def writeReadWrong : ChangeSpec := { name := "writeRead", fn := fun _ => fun
  | [d1, d2, d3, d4, d5] => { results := [.lit (.bool false)], args := [d1, d2, d3, d4, d5] }
  | _ => none }
def WriteReadWrongFalsely : Prop := writeReadRow.holds Try.pinned (OpenSpec.ofChange writeReadWrong)

/-- 'icehousekeep.WriteDies': WHATEVER THE INPUT: true; the input reads as it did. -/
def writeDiesSpec : ChangeSpec := { name := "writeDies", fn := fun _ => fun
  | [d1, d2, d3, d4, d5] => { results := [.lit (.bool true)], args := [d1, d2, d3, d4, d5] }
  | _ => none }
def writeDiesRow : OpenClaim := { program := "ytomfladifefomaa", sum := "d7817d1c3eae4be949c89c24f76e886db4b6c182766ab35b59f7e046c9ebbb89", func := "icehouse/icehousekeep.WriteDies", spec := "writeDies", unfollowed := true, recurses := true, apart := false }
def WriteDiesSaid : Prop := writeDiesRow.holds Try.pinned (OpenSpec.ofChange writeDiesSpec)

/-- ITS FALSE NEIGHBOUR: 'it returns false'. Refute it at one input. -/
def writeDiesWrong : ChangeSpec := { name := "writeDies", fn := fun _ => fun
  | [d1, d2, d3, d4, d5] => { results := [.lit (.bool false)], args := [d1, d2, d3, d4, d5] }
  | _ => none }
def WriteDiesWrongFalsely : Prop := writeDiesRow.holds Try.pinned (OpenSpec.ofChange writeDiesWrong)

/-- 'icehousekeep.RingFull': WHATEVER THE INPUT: true; the input reads as it did. -/
def ringFullSpec : ChangeSpec := { name := "ringFull", fn := fun _ => fun
  | [d1, d2] => { results := [.lit (.bool true)], args := [d1, d2] }
  | _ => none }
def ringFullRow : OpenClaim := { program := "ytomfladifefomaa", sum := "d7817d1c3eae4be949c89c24f76e886db4b6c182766ab35b59f7e046c9ebbb89", func := "icehouse/icehousekeep.RingFull", spec := "ringFull", unfollowed := true, recurses := true, apart := false }
def RingFullSaid : Prop := ringFullRow.holds Try.pinned (OpenSpec.ofChange ringFullSpec)

/-- ITS FALSE NEIGHBOUR: 'it returns false'. Refute it at one input. -/
def ringFullWrong : ChangeSpec := { name := "ringFull", fn := fun _ => fun
  | [d1, d2] => { results := [.lit (.bool false)], args := [d1, d2] }
  | _ => none }
def RingFullWrongFalsely : Prop := ringFullRow.holds Try.pinned (OpenSpec.ofChange ringFullWrong)

/-- 'icehousekeep.FormatEmpty': WHATEVER THE INPUT: true; the input reads as it did. -/
def formatEmptySpec : ChangeSpec := { name := "formatEmpty", fn := fun _ => fun
  | [d1, d2, d3, d4] => { results := [.lit (.bool true)], args := [d1, d2, d3, d4] }
  | _ => none }
def formatEmptyRow : OpenClaim := { program := "ytomfladifefomaa", sum := "d7817d1c3eae4be949c89c24f76e886db4b6c182766ab35b59f7e046c9ebbb89", func := "icehouse/icehousekeep.FormatEmpty", spec := "formatEmpty", unfollowed := true, recurses := true, apart := false }
def FormatEmptySaid : Prop := formatEmptyRow.holds Try.pinned (OpenSpec.ofChange formatEmptySpec)

/-- ITS FALSE NEIGHBOUR: 'it returns false'. Refute it at one input. -/
def formatEmptyWrong : ChangeSpec := { name := "formatEmpty", fn := fun _ => fun
  | [d1, d2, d3, d4] => { results := [.lit (.bool false)], args := [d1, d2, d3, d4] }
  | _ => none }
def FormatEmptyWrongFalsely : Prop := formatEmptyRow.holds Try.pinned (OpenSpec.ofChange formatEmptyWrong)

/-- 'icehousekeep.CommitFound': WHATEVER THE INPUT: true; the input reads as it did. -/
def commitFoundSpec : ChangeSpec := { name := "commitFound", fn := fun _ => fun
  | [d1, d2, d3] => { results := [.lit (.bool true)], args := [d1, d2, d3] }
  | _ => none }
def commitFoundRow : OpenClaim := { program := "ytomfladifefomaa", sum := "d7817d1c3eae4be949c89c24f76e886db4b6c182766ab35b59f7e046c9ebbb89", func := "icehouse/icehousekeep.CommitFound", spec := "commitFound", unfollowed := true, recurses := true, apart := false }
def CommitFoundSaid : Prop := commitFoundRow.holds Try.pinned (OpenSpec.ofChange commitFoundSpec)

/-- ITS FALSE NEIGHBOUR: 'it returns false'. Refute it at one input. -/
def commitFoundWrong : ChangeSpec := { name := "commitFound", fn := fun _ => fun
  | [d1, d2, d3] => { results := [.lit (.bool false)], args := [d1, d2, d3] }
  | _ => none }
def CommitFoundWrongFalsely : Prop := commitFoundRow.holds Try.pinned (OpenSpec.ofChange commitFoundWrong)

/-- 'icehousekeep.OpenOften': WHATEVER THE INPUT: true; the input reads as it did. -/
def openOftenSpec : ChangeSpec := { name := "openOften", fn := fun _ => fun
  | [d1, d2, d3] => { results := [.lit (.bool true)], args := [d1, d2, d3] }
  | _ => none }
def openOftenRow : OpenClaim := { program := "ytomfladifefomaa", sum := "d7817d1c3eae4be949c89c24f76e886db4b6c182766ab35b59f7e046c9ebbb89", func := "icehouse/icehousekeep.OpenOften", spec := "openOften", unfollowed := true, recurses := true, apart := false }
def OpenOftenSaid : Prop := openOftenRow.holds Try.pinned (OpenSpec.ofChange openOftenSpec)

/-- ITS FALSE NEIGHBOUR: 'it returns false'. Refute it at one input. -/
def openOftenWrong : ChangeSpec := { name := "openOften", fn := fun _ => fun
  | [d1, d2, d3] => { results := [.lit (.bool false)], args := [d1, d2, d3] }
  | _ => none }
def OpenOftenWrongFalsely : Prop := openOftenRow.holds Try.pinned (OpenSpec.ofChange openOftenWrong)

/-- 'icehousekeep.CommitDies': WHATEVER THE INPUT: true; the input reads as it did. -/
def commitDiesSpec : ChangeSpec := { name := "commitDies", fn := fun _ => fun
  | [d1, d2, d3, d4, d5] => { results := [.lit (.bool true)], args := [d1, d2, d3, d4, d5] }
  | _ => none }
def commitDiesRow : OpenClaim := { program := "ytomfladifefomaa", sum := "d7817d1c3eae4be949c89c24f76e886db4b6c182766ab35b59f7e046c9ebbb89", func := "icehouse/icehousekeep.CommitDies", spec := "commitDies", unfollowed := true, recurses := true, apart := false }
def CommitDiesSaid : Prop := commitDiesRow.holds Try.pinned (OpenSpec.ofChange commitDiesSpec)

/-- ITS FALSE NEIGHBOUR: 'it returns false'. Refute it at one input. -/
def commitDiesWrong : ChangeSpec := { name := "commitDies", fn := fun _ => fun
  | [d1, d2, d3, d4, d5] => { results := [.lit (.bool false)], args := [d1, d2, d3, d4, d5] }
  | _ => none }
def CommitDiesWrongFalsely : Prop := commitDiesRow.holds Try.pinned (OpenSpec.ofChange commitDiesWrong)

/-- 'icehousekeep.CommitAgain': WHATEVER THE INPUT: true; the input reads as it did. -/
def commitAgainSpec : ChangeSpec := { name := "commitAgain", fn := fun _ => fun
  | [d1, d2, d3, d4, d5, d6] => { results := [.lit (.bool true)], args := [d1, d2, d3, d4, d5, d6] }
  | _ => none }
def commitAgainRow : OpenClaim := { program := "ytomfladifefomaa", sum := "d7817d1c3eae4be949c89c24f76e886db4b6c182766ab35b59f7e046c9ebbb89", func := "icehouse/icehousekeep.CommitAgain", spec := "commitAgain", unfollowed := true, recurses := true, apart := false }
def CommitAgainSaid : Prop := commitAgainRow.holds Try.pinned (OpenSpec.ofChange commitAgainSpec)

/-- ITS FALSE NEIGHBOUR: 'it returns false'. Refute it at one input. -/
def commitAgainWrong : ChangeSpec := { name := "commitAgain", fn := fun _ => fun
  | [d1, d2, d3, d4, d5, d6] => { results := [.lit (.bool false)], args := [d1, d2, d3, d4, d5, d6] }
  | _ => none }
def CommitAgainWrongFalsely : Prop := commitAgainRow.holds Try.pinned (OpenSpec.ofChange commitAgainWrong)

/-- 'icehousekeep.SaveFound': WHATEVER THE INPUT: true; the input reads as it did. -/
def saveFoundSpec : ChangeSpec := { name := "saveFound", fn := fun _ => fun
  | [d1, d2, d3, d4, d5] => { results := [.lit (.bool true)], args := [d1, d2, d3, d4, d5] }
  | _ => none }
def saveFoundRow : OpenClaim := { program := "ytomfladifefomaa", sum := "d7817d1c3eae4be949c89c24f76e886db4b6c182766ab35b59f7e046c9ebbb89", func := "icehouse/icehousekeep.SaveFound", spec := "saveFound", unfollowed := true, recurses := true, apart := false }
def SaveFoundSaid : Prop := saveFoundRow.holds Try.pinned (OpenSpec.ofChange saveFoundSpec)

/-- ITS FALSE NEIGHBOUR: 'it returns false'. Refute it at one input. -/
def saveFoundWrong : ChangeSpec := { name := "saveFound", fn := fun _ => fun
  | [d1, d2, d3, d4, d5] => { results := [.lit (.bool false)], args := [d1, d2, d3, d4, d5] }
  | _ => none }
def SaveFoundWrongFalsely : Prop := saveFoundRow.holds Try.pinned (OpenSpec.ofChange saveFoundWrong)

/-- 'icehousekeep.RingRound': WHATEVER THE INPUT: true; the input reads as it did. -/
def ringRoundSpec : ChangeSpec := { name := "ringRound", fn := fun _ => fun
  | [d1, d2] => { results := [.lit (.bool true)], args := [d1, d2] }
  | _ => none }
def ringRoundRow : OpenClaim := { program := "ytomfladifefomaa", sum := "d7817d1c3eae4be949c89c24f76e886db4b6c182766ab35b59f7e046c9ebbb89", func := "icehouse/icehousekeep.RingRound", spec := "ringRound", unfollowed := true, recurses := true, apart := false }
def RingRoundSaid : Prop := ringRoundRow.holds Try.pinned (OpenSpec.ofChange ringRoundSpec)

/-- ITS FALSE NEIGHBOUR: 'it returns false'. Refute it at one input. -/
def ringRoundWrong : ChangeSpec := { name := "ringRound", fn := fun _ => fun
  | [d1, d2] => { results := [.lit (.bool false)], args := [d1, d2] }
  | _ => none }
def RingRoundWrongFalsely : Prop := ringRoundRow.holds Try.pinned (OpenSpec.ofChange ringRoundWrong)

/-- 'icehousekeep.SaveDies': WHATEVER THE INPUT: true; the input reads as it did. -/
def saveDiesSpec : ChangeSpec := { name := "saveDies", fn := fun _ => fun
  | [d1, d2, d3, d4, d5] => { results := [.lit (.bool true)], args := [d1, d2, d3, d4, d5] }
  | _ => none }
def saveDiesRow : OpenClaim := { program := "ytomfladifefomaa", sum := "d7817d1c3eae4be949c89c24f76e886db4b6c182766ab35b59f7e046c9ebbb89", func := "icehouse/icehousekeep.SaveDies", spec := "saveDies", unfollowed := true, recurses := true, apart := false }
def SaveDiesSaid : Prop := saveDiesRow.holds Try.pinned (OpenSpec.ofChange saveDiesSpec)

/-- ITS FALSE NEIGHBOUR: 'it returns false'. Refute it at one input. -/
def saveDiesWrong : ChangeSpec := { name := "saveDies", fn := fun _ => fun
  | [d1, d2, d3, d4, d5] => { results := [.lit (.bool false)], args := [d1, d2, d3, d4, d5] }
  | _ => none }
def SaveDiesWrongFalsely : Prop := saveDiesRow.holds Try.pinned (OpenSpec.ofChange saveDiesWrong)

/- THE SECOND FORM. 'bulk': how many values and letters a reading holds, each counted each time it is reached (what is shared counts as often as it is met; a slice's spare places count too). A statement '..UptoSaid' is the law's where the arguments, and the package variables that the reading takes, are together of bulk at most 1048576: NARROWER than '..Said'. Prove '..Said' where nothing that the law and all that it calls make is longer than what came in: it says more and counts as full. Else prove '..UptoSaid'. A law counts once. -/
mutual
def uptoBulk {H : Type} : DataW H → Nat
  | .lit (.string bytes) => bytes.length + 1
  | .lit _ => 1
  | .nil => 1
  | .ptr d => uptoBulk d + 1
  | .slice elems spare => uptoBulkAll elems + uptoBulkAll spare + 1
  | .agg parts => uptoBulkAll parts + 1
  | .iface _ d => uptoBulk d + 1
  | .map entries => uptoBulkEntries entries + 1
  | .held _ => 1
def uptoBulkAll {H : Type} : List (DataW H) → Nat
  | [] => 0
  | d :: r => uptoBulk d + uptoBulkAll r
def uptoBulkEntries {H : Type} : List (Lit × DataW H) → Nat
  | [] => 0
  | x :: r => uptoBulkEntry x + uptoBulkEntries r
def uptoBulkEntry {H : Type} : Lit × DataW H → Nat
  | (.string bytes, d) => bytes.length + uptoBulk d + 1
  | (_, d) => uptoBulk d + 1
 end
def uptoSmall : (H : Type) → List (DataW H) → Bool := fun _ ds => decide (uptoBulkAll ds ≤ 1048576)
def OpenSpec.upto (s : _root_.Go.ChangeSpec) : _root_.Go.OpenSpec := { _root_.Go.OpenSpec.ofChange s with cond := some uptoSmall }

/-- 'icehousekeep.PackBad', WHERE WHAT IT READS IS OF BULK AT MOST 1048576: true; the input reads as it did. -/
def packBadUptoRow : OpenClaim := { program := "ytomfladifefomaa", sum := "d7817d1c3eae4be949c89c24f76e886db4b6c182766ab35b59f7e046c9ebbb89", func := "icehouse/icehousekeep.PackBad", spec := "packBad", apart := false, narrowed := true }
def PackBadUptoSaid : Prop := packBadUptoRow.holds Try.pinned (OpenSpec.upto packBadSpec)

/-- 'icehousekeep.TakeGone', WHERE WHAT IT READS IS OF BULK AT MOST 1048576: true; the input reads as it did. -/
def takeGoneUptoRow : OpenClaim := { program := "ytomfladifefomaa", sum := "d7817d1c3eae4be949c89c24f76e886db4b6c182766ab35b59f7e046c9ebbb89", func := "icehouse/icehousekeep.TakeGone", spec := "takeGone", unfollowed := true, recurses := true, apart := false, narrowed := true }
def TakeGoneUptoSaid : Prop := takeGoneUptoRow.holds Try.pinned (OpenSpec.upto takeGoneSpec)

/-- 'icehousekeep.TapeTail', WHERE WHAT IT READS IS OF BULK AT MOST 1048576: true; the input reads as it did. -/
def tapeTailUptoRow : OpenClaim := { program := "ytomfladifefomaa", sum := "d7817d1c3eae4be949c89c24f76e886db4b6c182766ab35b59f7e046c9ebbb89", func := "icehouse/icehousekeep.TapeTail", spec := "tapeTail", unfollowed := true, recurses := true, apart := false, narrowed := true }
def TapeTailUptoSaid : Prop := tapeTailUptoRow.holds Try.pinned (OpenSpec.upto tapeTailSpec)

/-- 'icehousekeep.DevGood', WHERE WHAT IT READS IS OF BULK AT MOST 1048576: true; the input reads as it did. -/
def devGoodUptoRow : OpenClaim := { program := "ytomfladifefomaa", sum := "d7817d1c3eae4be949c89c24f76e886db4b6c182766ab35b59f7e046c9ebbb89", func := "icehouse/icehousekeep.DevGood", spec := "devGood", unfollowed := true, recurses := true, apart := false, narrowed := true }
def DevGoodUptoSaid : Prop := devGoodUptoRow.holds Try.pinned (OpenSpec.upto devGoodSpec)

/-- 'icehousekeep.PutGet', WHERE WHAT IT READS IS OF BULK AT MOST 1048576: true; the input reads as it did. -/
def putGetUptoRow : OpenClaim := { program := "ytomfladifefomaa", sum := "d7817d1c3eae4be949c89c24f76e886db4b6c182766ab35b59f7e046c9ebbb89", func := "icehouse/icehousekeep.PutGet", spec := "putGet", unfollowed := true, recurses := true, apart := false, narrowed := true }
def PutGetUptoSaid : Prop := putGetUptoRow.holds Try.pinned (OpenSpec.upto putGetSpec)

/-- 'icehousekeep.FlushSafe', WHERE WHAT IT READS IS OF BULK AT MOST 1048576: true; the input reads as it did. -/
def flushSafeUptoRow : OpenClaim := { program := "ytomfladifefomaa", sum := "d7817d1c3eae4be949c89c24f76e886db4b6c182766ab35b59f7e046c9ebbb89", func := "icehouse/icehousekeep.FlushSafe", spec := "flushSafe", unfollowed := true, recurses := true, apart := false, narrowed := true }
def FlushSafeUptoSaid : Prop := flushSafeUptoRow.holds Try.pinned (OpenSpec.upto flushSafeSpec)

/-- 'icehousekeep.CrashEither', WHERE WHAT IT READS IS OF BULK AT MOST 1048576: true; the input reads as it did. -/
def crashEitherUptoRow : OpenClaim := { program := "ytomfladifefomaa", sum := "d7817d1c3eae4be949c89c24f76e886db4b6c182766ab35b59f7e046c9ebbb89", func := "icehouse/icehousekeep.CrashEither", spec := "crashEither", unfollowed := true, recurses := true, apart := false, narrowed := true }
def CrashEitherUptoSaid : Prop := crashEitherUptoRow.holds Try.pinned (OpenSpec.upto crashEitherSpec)

/-- 'icehousekeep.WriteApart', WHERE WHAT IT READS IS OF BULK AT MOST 1048576: true; the input reads as it did. -/
def writeApartUptoRow : OpenClaim := { program := "ytomfladifefomaa", sum := "d7817d1c3eae4be949c89c24f76e886db4b6c182766ab35b59f7e046c9ebbb89", func := "icehouse/icehousekeep.WriteApart", spec := "writeApart", unfollowed := true, recurses := true, apart := false, narrowed := true }
def WriteApartUptoSaid : Prop := writeApartUptoRow.holds Try.pinned (OpenSpec.upto writeApartSpec)

/-- 'icehousekeep.HotBad', WHERE WHAT IT READS IS OF BULK AT MOST 1048576: true; the input reads as it did. -/
def hotBadUptoRow : OpenClaim := { program := "ytomfladifefomaa", sum := "d7817d1c3eae4be949c89c24f76e886db4b6c182766ab35b59f7e046c9ebbb89", func := "icehouse/icehousekeep.HotBad", spec := "hotBad", unfollowed := true, recurses := true, apart := false, narrowed := true }
def HotBadUptoSaid : Prop := hotBadUptoRow.holds Try.pinned (OpenSpec.upto hotBadSpec)

/-- 'icehousekeep.PackFetch', WHERE WHAT IT READS IS OF BULK AT MOST 1048576: true; the input reads as it did. -/
def packFetchUptoRow : OpenClaim := { program := "ytomfladifefomaa", sum := "d7817d1c3eae4be949c89c24f76e886db4b6c182766ab35b59f7e046c9ebbb89", func := "icehouse/icehousekeep.PackFetch", spec := "packFetch", unfollowed := true, recurses := true, apart := false, narrowed := true }
def PackFetchUptoSaid : Prop := packFetchUptoRow.holds Try.pinned (OpenSpec.upto packFetchSpec)

/-- 'icehousekeep.FuelCounts', WHERE WHAT IT READS IS OF BULK AT MOST 1048576: true; the input reads as it did. -/
def fuelCountsUptoRow : OpenClaim := { program := "ytomfladifefomaa", sum := "d7817d1c3eae4be949c89c24f76e886db4b6c182766ab35b59f7e046c9ebbb89", func := "icehouse/icehousekeep.FuelCounts", spec := "fuelCounts", unfollowed := true, recurses := true, apart := false, narrowed := true }
def FuelCountsUptoSaid : Prop := fuelCountsUptoRow.holds Try.pinned (OpenSpec.upto fuelCountsSpec)

/-- 'icehousekeep.WriteRead', WHERE WHAT IT READS IS OF BULK AT MOST 1048576: true; the input reads as it did. -/
def writeReadUptoRow : OpenClaim := { program := "ytomfladifefomaa", sum := "d7817d1c3eae4be949c89c24f76e886db4b6c182766ab35b59f7e046c9ebbb89", func := "icehouse/icehousekeep.WriteRead", spec := "writeRead", unfollowed := true, recurses := true, apart := false, narrowed := true }
def WriteReadUptoSaid : Prop := writeReadUptoRow.holds Try.pinned (OpenSpec.upto writeReadSpec)

/-- 'icehousekeep.WriteDies', WHERE WHAT IT READS IS OF BULK AT MOST 1048576: true; the input reads as it did. -/
def writeDiesUptoRow : OpenClaim := { program := "ytomfladifefomaa", sum := "d7817d1c3eae4be949c89c24f76e886db4b6c182766ab35b59f7e046c9ebbb89", func := "icehouse/icehousekeep.WriteDies", spec := "writeDies", unfollowed := true, recurses := true, apart := false, narrowed := true }
def WriteDiesUptoSaid : Prop := writeDiesUptoRow.holds Try.pinned (OpenSpec.upto writeDiesSpec)

/-- 'icehousekeep.RingFull', WHERE WHAT IT READS IS OF BULK AT MOST 1048576: true; the input reads as it did. -/
def ringFullUptoRow : OpenClaim := { program := "ytomfladifefomaa", sum := "d7817d1c3eae4be949c89c24f76e886db4b6c182766ab35b59f7e046c9ebbb89", func := "icehouse/icehousekeep.RingFull", spec := "ringFull", unfollowed := true, recurses := true, apart := false, narrowed := true }
def RingFullUptoSaid : Prop := ringFullUptoRow.holds Try.pinned (OpenSpec.upto ringFullSpec)

/-- 'icehousekeep.FormatEmpty', WHERE WHAT IT READS IS OF BULK AT MOST 1048576: true; the input reads as it did. -/
def formatEmptyUptoRow : OpenClaim := { program := "ytomfladifefomaa", sum := "d7817d1c3eae4be949c89c24f76e886db4b6c182766ab35b59f7e046c9ebbb89", func := "icehouse/icehousekeep.FormatEmpty", spec := "formatEmpty", unfollowed := true, recurses := true, apart := false, narrowed := true }
def FormatEmptyUptoSaid : Prop := formatEmptyUptoRow.holds Try.pinned (OpenSpec.upto formatEmptySpec)

/-- 'icehousekeep.CommitFound', WHERE WHAT IT READS IS OF BULK AT MOST 1048576: true; the input reads as it did. -/
def commitFoundUptoRow : OpenClaim := { program := "ytomfladifefomaa", sum := "d7817d1c3eae4be949c89c24f76e886db4b6c182766ab35b59f7e046c9ebbb89", func := "icehouse/icehousekeep.CommitFound", spec := "commitFound", unfollowed := true, recurses := true, apart := false, narrowed := true }
def CommitFoundUptoSaid : Prop := commitFoundUptoRow.holds Try.pinned (OpenSpec.upto commitFoundSpec)

/-- 'icehousekeep.OpenOften', WHERE WHAT IT READS IS OF BULK AT MOST 1048576: true; the input reads as it did. -/
def openOftenUptoRow : OpenClaim := { program := "ytomfladifefomaa", sum := "d7817d1c3eae4be949c89c24f76e886db4b6c182766ab35b59f7e046c9ebbb89", func := "icehouse/icehousekeep.OpenOften", spec := "openOften", unfollowed := true, recurses := true, apart := false, narrowed := true }
def OpenOftenUptoSaid : Prop := openOftenUptoRow.holds Try.pinned (OpenSpec.upto openOftenSpec)

/-- 'icehousekeep.CommitDies', WHERE WHAT IT READS IS OF BULK AT MOST 1048576: true; the input reads as it did. -/
def commitDiesUptoRow : OpenClaim := { program := "ytomfladifefomaa", sum := "d7817d1c3eae4be949c89c24f76e886db4b6c182766ab35b59f7e046c9ebbb89", func := "icehouse/icehousekeep.CommitDies", spec := "commitDies", unfollowed := true, recurses := true, apart := false, narrowed := true }
def CommitDiesUptoSaid : Prop := commitDiesUptoRow.holds Try.pinned (OpenSpec.upto commitDiesSpec)

/-- 'icehousekeep.CommitAgain', WHERE WHAT IT READS IS OF BULK AT MOST 1048576: true; the input reads as it did. -/
def commitAgainUptoRow : OpenClaim := { program := "ytomfladifefomaa", sum := "d7817d1c3eae4be949c89c24f76e886db4b6c182766ab35b59f7e046c9ebbb89", func := "icehouse/icehousekeep.CommitAgain", spec := "commitAgain", unfollowed := true, recurses := true, apart := false, narrowed := true }
def CommitAgainUptoSaid : Prop := commitAgainUptoRow.holds Try.pinned (OpenSpec.upto commitAgainSpec)

/-- 'icehousekeep.SaveFound', WHERE WHAT IT READS IS OF BULK AT MOST 1048576: true; the input reads as it did. -/
def saveFoundUptoRow : OpenClaim := { program := "ytomfladifefomaa", sum := "d7817d1c3eae4be949c89c24f76e886db4b6c182766ab35b59f7e046c9ebbb89", func := "icehouse/icehousekeep.SaveFound", spec := "saveFound", unfollowed := true, recurses := true, apart := false, narrowed := true }
def SaveFoundUptoSaid : Prop := saveFoundUptoRow.holds Try.pinned (OpenSpec.upto saveFoundSpec)

/-- 'icehousekeep.RingRound', WHERE WHAT IT READS IS OF BULK AT MOST 1048576: true; the input reads as it did. -/
def ringRoundUptoRow : OpenClaim := { program := "ytomfladifefomaa", sum := "d7817d1c3eae4be949c89c24f76e886db4b6c182766ab35b59f7e046c9ebbb89", func := "icehouse/icehousekeep.RingRound", spec := "ringRound", unfollowed := true, recurses := true, apart := false, narrowed := true }
def RingRoundUptoSaid : Prop := ringRoundUptoRow.holds Try.pinned (OpenSpec.upto ringRoundSpec)

/-- 'icehousekeep.SaveDies', WHERE WHAT IT READS IS OF BULK AT MOST 1048576: true; the input reads as it did. -/
def saveDiesUptoRow : OpenClaim := { program := "ytomfladifefomaa", sum := "d7817d1c3eae4be949c89c24f76e886db4b6c182766ab35b59f7e046c9ebbb89", func := "icehouse/icehousekeep.SaveDies", spec := "saveDies", unfollowed := true, recurses := true, apart := false, narrowed := true }
def SaveDiesUptoSaid : Prop := saveDiesUptoRow.holds Try.pinned (OpenSpec.upto saveDiesSpec)

end Rows
end Go.Proofs.Ytomfladifefomaa
