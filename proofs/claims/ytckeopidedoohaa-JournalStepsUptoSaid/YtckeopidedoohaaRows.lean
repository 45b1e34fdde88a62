/-
  No cell of these rows narrows 'for every input' (looked for: loops, veiled, ifaces, maps, wideKeys, modest, calm, conditions, laid).
  DERIVED. THE GIVEN ROWS OF THIS SEAT. 20 by the template 'for every input the law returns true; each argument reads behind the call as it read before'; 0 by the template 'total and deterministic' (their statements: YtckeopidedoohaaTotals.lean).
  GIVEN WITH THE SEED: the statements are not yours to turn. If you find one false, say at which input.
  Laid BY PROGRAM, IN A SANDBOX (cutbox-rows.mjs): the forced cells as the released guide's own fill.sh prints them over the translation 96be99619ad261ef… (all of the seat's roots in one cut). By AI agents, Wed Nov 11 2026. No macro, syntax, notation, axiom, sorry.
-/
import Derived.Test.YtckeopidedoohaaChecked
import GoSem.Claim
import GoSem.ClaimJoined
import GoSem.ClaimMapViews
import Derived.JoinedTies
import Derived.KernelRfl
namespace Go.Proofs.Ytckeopidedoohaa
/- THE CELL 'sum', in the pinned program and in every row, IS THE sha256 OF THE DUMP (.gsa) THAT YtckeopidedoohaaProg.lean LOADS. Nothing in Lean hashes anything: it is a label: what it is worth is what the hold of that sum in a sandbox is worth. -/
noncomputable def Try.pinned : Pinned := { name := "ytckeopidedoohaa", sum := "96be99619ad261ef7312320ac3924acf4dee08aad9c6d831240670a0b57387f5", checked := Try.checked }
namespace Rows
def none {H : Type} : Left H := { results := [], args := [] }

/-- 'soundpostlaw04.DiskNewSpec': WHATEVER THE INPUT: true; the input reads as it did. -/
def diskNewSpecSpec : ChangeSpec := { name := "diskNewSpec", fn := fun _ => fun
  | [d1, d2] => { results := [.lit (.bool true)], args := [d1, d2] }
  | _ => none }
def diskNewSpecRow : OpenClaim := { program := "ytckeopidedoohaa", sum := "96be99619ad261ef7312320ac3924acf4dee08aad9c6d831240670a0b57387f5", func := "soundpost/soundpostlaw04.DiskNewSpec", spec := "diskNewSpec", unfollowed := true, recurses := true, apart := false }
def DiskNewSpecSaid : Prop := diskNewSpecRow.holds Try.pinned (OpenSpec.ofChange diskNewSpecSpec)

/-- ITS FALSE NEIGHBOUR: 'it returns false'. Refute it at one input. -/
def diskNewSpecWrong : ChangeSpec := { name := "diskNewSpec", fn := fun _ => fun
  | [d1, d2] => { results := [.lit (.bool false)], args := [d1, d2] }
  | _ => none }
def DiskNewSpecWrongFalsely : Prop := diskNewSpecRow.holds Try.pinned (OpenSpec.ofChange diskNewSpecWrong)

/-- 'soundpostlaw04.DiskWriteSpec': WHATEVER THE INPUT: true; the input reads as it did. -/
def diskWriteSpecSpec : ChangeSpec := { name := "diskWriteSpec", fn := fun _ => fun
  | [d1, d2, d3] => { results := [.lit (.bool true)], args := [d1, d2, d3] }
  | _ => none }
def diskWriteSpecRow : OpenClaim := { program := "ytckeopidedoohaa", sum := "96be99619ad261ef7312320ac3924acf4dee08aad9c6d831240670a0b57387f5", func := "soundpost/soundpostlaw04.DiskWriteSpec", spec := "diskWriteSpec", unfollowed := true, recurses := true, apart := false }
def DiskWriteSpecSaid : Prop := diskWriteSpecRow.holds Try.pinned (OpenSpec.ofChange diskWriteSpecSpec)

/-- ITS FALSE NEIGHBOUR: 'it returns false'. Refute it at one input. -/
def diskWriteSpecWrong : ChangeSpec := { name := "diskWriteSpec", fn := fun _ => fun
  | [d1, d2, d3] => { results := [.lit (.bool false)], args := [d1, d2, d3] }
  | _ => none }
def DiskWriteSpecWrongFalsely : Prop := diskWriteSpecRow.holds Try.pinned (OpenSpec.ofChange diskWriteSpecWrong)

/-- 'soundpostlaw04.DiskSyncSpec': WHATEVER THE INPUT: true; the input reads as it did. -/
def diskSyncSpecSpec : ChangeSpec := { name := "diskSyncSpec", fn := fun _ => fun
  | [d1, d2] => { results := [.lit (.bool true)], args := [d1, d2] }
  | _ => none }
def diskSyncSpecRow : OpenClaim := { program := "ytckeopidedoohaa", sum := "96be99619ad261ef7312320ac3924acf4dee08aad9c6d831240670a0b57387f5", func := "soundpost/soundpostlaw04.DiskSyncSpec", spec := "diskSyncSpec", unfollowed := true, recurses := true, apart := false }
def DiskSyncSpecSaid : Prop := diskSyncSpecRow.holds Try.pinned (OpenSpec.ofChange diskSyncSpecSpec)

/-- ITS FALSE NEIGHBOUR: 'it returns false'. Refute it at one input. -/
def diskSyncSpecWrong : ChangeSpec := { name := "diskSyncSpec", fn := fun _ => fun
  | [d1, d2] => { results := [.lit (.bool false)], args := [d1, d2] }
  | _ => none }
def DiskSyncSpecWrongFalsely : Prop := diskSyncSpecRow.holds Try.pinned (OpenSpec.ofChange diskSyncSpecWrong)

/-- 'soundpostlaw04.DiskHistory': WHATEVER THE INPUT: true; the input reads as it did. -/
def diskHistorySpec : ChangeSpec := { name := "diskHistory", fn := fun _ => fun
  | [d1, d2] => { results := [.lit (.bool true)], args := [d1, d2] }
  | _ => none }
def diskHistoryRow : OpenClaim := { program := "ytckeopidedoohaa", sum := "96be99619ad261ef7312320ac3924acf4dee08aad9c6d831240670a0b57387f5", func := "soundpost/soundpostlaw04.DiskHistory", spec := "diskHistory", unfollowed := true, recurses := true, apart := false }
def DiskHistorySaid : Prop := diskHistoryRow.holds Try.pinned (OpenSpec.ofChange diskHistorySpec)

/-- ITS FALSE NEIGHBOUR: 'it returns false'. Refute it at one input. -/
def diskHistoryWrong : ChangeSpec := { name := "diskHistory", fn := fun _ => fun
  | [d1, d2] => { results := [.lit (.bool false)], args := [d1, d2] }
  | _ => none }
def DiskHistoryWrongFalsely : Prop := diskHistoryRow.holds Try.pinned (OpenSpec.ofChange diskHistoryWrong)

/-- 'soundpostlaw04.DiskReads': WHATEVER THE INPUT: true; the input reads as it did. -/
def diskReadsSpec : ChangeSpec := { name := "diskReads", fn := fun _ => fun
  | [d1, d2, d3, d4, d5] => { results := [.lit (.bool true)], args := [d1, d2, d3, d4, d5] }
  | _ => none }
def diskReadsRow : OpenClaim := { program := "ytckeopidedoohaa", sum := "96be99619ad261ef7312320ac3924acf4dee08aad9c6d831240670a0b57387f5", func := "soundpost/soundpostlaw04.DiskReads", spec := "diskReads", unfollowed := true, recurses := true, apart := false }
def DiskReadsSaid : Prop := diskReadsRow.holds Try.pinned (OpenSpec.ofChange diskReadsSpec)

/-- ITS FALSE NEIGHBOUR: 'it returns false'. Refute it at one input. -/
def diskReadsWrong : ChangeSpec := { name := "diskReads", fn := fun _ => fun
  | [d1, d2, d3, d4, d5] => { results := [.lit (.bool false)], args := [d1, d2, d3, d4, d5] }
  | _ => none }
def DiskReadsWrongFalsely : Prop := diskReadsRow.holds Try.pinned (OpenSpec.ofChange diskReadsWrong)

/-- 'soundpostlaw04.DiskTogether': WHATEVER THE INPUT: true; the input reads as it did. -/
def diskTogetherSpec : ChangeSpec := { name := "diskTogether", fn := fun _ => fun
  | [d1, d2] => { results := [.lit (.bool true)], args := [d1, d2] }
  | _ => none }
def diskTogetherRow : OpenClaim := { program := "ytckeopidedoohaa", sum := "96be99619ad261ef7312320ac3924acf4dee08aad9c6d831240670a0b57387f5", func := "soundpost/soundpostlaw04.DiskTogether", spec := "diskTogether", unfollowed := true, recurses := true, apart := false }
def DiskTogetherSaid : Prop := diskTogetherRow.holds Try.pinned (OpenSpec.ofChange diskTogetherSpec)

/-- ITS FALSE NEIGHBOUR: 'it returns false'. Refute it at one input. -/
def diskTogetherWrong : ChangeSpec := { name := "diskTogether", fn := fun _ => fun
  | [d1, d2] => { results := [.lit (.bool false)], args := [d1, d2] }
  | _ => none }
def DiskTogetherWrongFalsely : Prop := diskTogetherRow.holds Try.pinned (OpenSpec.ofChange diskTogetherWrong)

/-- 'soundpostlaw04.DiskStopped': WHATEVER THE INPUT: true; the input reads as it did. -/
def diskStoppedSpec : ChangeSpec := { name := "diskStopped", fn := fun _ => fun
  | [d1, d2, d3, d4] => { results := [.lit (.bool true)], args := [d1, d2, d3, d4] }
  | _ => none }
def diskStoppedRow : OpenClaim := { program := "ytckeopidedoohaa", sum := "96be99619ad261ef7312320ac3924acf4dee08aad9c6d831240670a0b57387f5", func := "soundpost/soundpostlaw04.DiskStopped", spec := "diskStopped", unfollowed := true, recurses := true, apart := false }
def DiskStoppedSaid : Prop := diskStoppedRow.holds Try.pinned (OpenSpec.ofChange diskStoppedSpec)

/-- ITS FALSE NEIGHBOUR: 'it returns false'. Refute it at one input. -/
def diskStoppedWrong : ChangeSpec := { name := "diskStopped", fn := fun _ => fun
  | [d1, d2, d3, d4] => { results := [.lit (.bool false)], args := [d1, d2, d3, d4] }
  | _ => none }
def DiskStoppedWrongFalsely : Prop := diskStoppedRow.holds Try.pinned (OpenSpec.ofChange diskStoppedWrong)

/-- 'soundpostlaw05.JournalOpenSpec': WHATEVER THE INPUT: true; the input reads as it did. -/
def journalOpenSpecSpec : ChangeSpec := { name := "journalOpenSpec", fn := fun _ => fun
  | [d] => { results := [.lit (.bool true)], args := [d] }
  | _ => none }
def journalOpenSpecRow : OpenClaim := { program := "ytckeopidedoohaa", sum := "96be99619ad261ef7312320ac3924acf4dee08aad9c6d831240670a0b57387f5", func := "soundpost/soundpostlaw05.JournalOpenSpec", spec := "journalOpenSpec", unfollowed := true, recurses := true, apart := false }
def JournalOpenSpecSaid : Prop := journalOpenSpecRow.holds Try.pinned (OpenSpec.ofChange journalOpenSpecSpec)

/-- ITS FALSE NEIGHBOUR: 'it returns false'. Refute it at one input. -/
def journalOpenSpecWrong : ChangeSpec := { name := "journalOpenSpec", fn := fun _ => fun
  | [d] => { results := [.lit (.bool false)], args := [d] }
  | _ => none }
def JournalOpenSpecWrongFalsely : Prop := journalOpenSpecRow.holds Try.pinned (OpenSpec.ofChange journalOpenSpecWrong)

/-- 'soundpostlaw05.JournalAppendSpec': WHATEVER THE INPUT: true; the input reads as it did. -/
def journalAppendSpecSpec : ChangeSpec := { name := "journalAppendSpec", fn := fun _ => fun
  | [d1, d2] => { results := [.lit (.bool true)], args := [d1, d2] }
  | _ => none }
def journalAppendSpecRow : OpenClaim := { program := "ytckeopidedoohaa", sum := "96be99619ad261ef7312320ac3924acf4dee08aad9c6d831240670a0b57387f5", func := "soundpost/soundpostlaw05.JournalAppendSpec", spec := "journalAppendSpec", unfollowed := true, recurses := true, apart := false }
def JournalAppendSpecSaid : Prop := journalAppendSpecRow.holds Try.pinned (OpenSpec.ofChange journalAppendSpecSpec)

/-- ITS FALSE NEIGHBOUR: 'it returns false'. Refute it at one input. -/
def journalAppendSpecWrong : ChangeSpec := { name := "journalAppendSpec", fn := fun _ => fun
  | [d1, d2] => { results := [.lit (.bool false)], args := [d1, d2] }
  | _ => none }
def JournalAppendSpecWrongFalsely : Prop := journalAppendSpecRow.holds Try.pinned (OpenSpec.ofChange journalAppendSpecWrong)

/-- 'soundpostlaw05.JournalSyncSpec': WHATEVER THE INPUT: true; the input reads as it did. -/
def journalSyncSpecSpec : ChangeSpec := { name := "journalSyncSpec", fn := fun _ => fun
  | [d1, d2] => { results := [.lit (.bool true)], args := [d1, d2] }
  | _ => none }
def journalSyncSpecRow : OpenClaim := { program := "ytckeopidedoohaa", sum := "96be99619ad261ef7312320ac3924acf4dee08aad9c6d831240670a0b57387f5", func := "soundpost/soundpostlaw05.JournalSyncSpec", spec := "journalSyncSpec", unfollowed := true, recurses := true, apart := false }
def JournalSyncSpecSaid : Prop := journalSyncSpecRow.holds Try.pinned (OpenSpec.ofChange journalSyncSpecSpec)

/-- ITS FALSE NEIGHBOUR: 'it returns false'. Refute it at one input. -/
def journalSyncSpecWrong : ChangeSpec := { name := "journalSyncSpec", fn := fun _ => fun
  | [d1, d2] => { results := [.lit (.bool false)], args := [d1, d2] }
  | _ => none }
def JournalSyncSpecWrongFalsely : Prop := journalSyncSpecRow.holds Try.pinned (OpenSpec.ofChange journalSyncSpecWrong)

/-- 'soundpostlaw05.JournalRoom': WHATEVER THE INPUT: true; the input reads as it did. -/
def journalRoomSpec : ChangeSpec := { name := "journalRoom", fn := fun _ => fun
  | [d1, d2] => { results := [.lit (.bool true)], args := [d1, d2] }
  | _ => none }
def journalRoomRow : OpenClaim := { program := "ytckeopidedoohaa", sum := "96be99619ad261ef7312320ac3924acf4dee08aad9c6d831240670a0b57387f5", func := "soundpost/soundpostlaw05.JournalRoom", spec := "journalRoom", unfollowed := true, recurses := true, apart := false }
def JournalRoomSaid : Prop := journalRoomRow.holds Try.pinned (OpenSpec.ofChange journalRoomSpec)

/-- ITS FALSE NEIGHBOUR: 'it returns false'. Refute it at one input. -/
def journalRoomWrong : ChangeSpec := { name := "journalRoom", fn := fun _ => fun
  | [d1, d2] => { results := [.lit (.bool false)], args := [d1, d2] }
  | _ => none }
def JournalRoomWrongFalsely : Prop := journalRoomRow.holds Try.pinned (OpenSpec.ofChange journalRoomWrong)

/-- 'soundpostlaw05.JournalDamage': WHATEVER THE INPUT: true; the input reads as it did. -/
def journalDamageSpec : ChangeSpec := { name := "journalDamage", fn := fun _ => fun
  | [d1, d2, d3, d4] => { results := [.lit (.bool true)], args := [d1, d2, d3, d4] }
  | _ => none }
def journalDamageRow : OpenClaim := { program := "ytckeopidedoohaa", sum := "96be99619ad261ef7312320ac3924acf4dee08aad9c6d831240670a0b57387f5", func := "soundpost/soundpostlaw05.JournalDamage", spec := "journalDamage", unfollowed := true, recurses := true, apart := false }
def JournalDamageSaid : Prop := journalDamageRow.holds Try.pinned (OpenSpec.ofChange journalDamageSpec)

/-- ITS FALSE NEIGHBOUR: 'it returns false'. Refute it at one input. -/
def journalDamageWrong : ChangeSpec := { name := "journalDamage", fn := fun _ => fun
  | [d1, d2, d3, d4] => { results := [.lit (.bool false)], args := [d1, d2, d3, d4] }
  | _ => none }
def JournalDamageWrongFalsely : Prop := journalDamageRow.holds Try.pinned (OpenSpec.ofChange journalDamageWrong)

/-- 'soundpostlaw05.JournalSteps': WHATEVER THE INPUT: true; the input reads as it did. -/
def journalStepsSpec : ChangeSpec := { name := "journalSteps", fn := fun _ => fun
  | [d1, d2] => { results := [.lit (.bool true)], args := [d1, d2] }
  | _ => none }
def journalStepsRow : OpenClaim := { program := "ytckeopidedoohaa", sum := "96be99619ad261ef7312320ac3924acf4dee08aad9c6d831240670a0b57387f5", func := "soundpost/soundpostlaw05.JournalSteps", spec := "journalSteps", unfollowed := true, recurses := true, apart := false }
def JournalStepsSaid : Prop := journalStepsRow.holds Try.pinned (OpenSpec.ofChange journalStepsSpec)

/-- ITS FALSE NEIGHBOUR: 'it returns false'. Refute it at one input. -/
def journalStepsWrong : ChangeSpec := { name := "journalSteps", fn := fun _ => fun
  | [d1, d2] => { results := [.lit (.bool false)], args := [d1, d2] }
  | _ => none }
def JournalStepsWrongFalsely : Prop := journalStepsRow.holds Try.pinned (OpenSpec.ofChange journalStepsWrong)

/-- 'soundpostlaw05.JournalSurvives': WHATEVER THE INPUT: true; the input reads as it did. -/
def journalSurvivesSpec : ChangeSpec := { name := "journalSurvives", fn := fun _ => fun
  | [d1, d2] => { results := [.lit (.bool true)], args := [d1, d2] }
  | _ => none }
def journalSurvivesRow : OpenClaim := { program := "ytckeopidedoohaa", sum := "96be99619ad261ef7312320ac3924acf4dee08aad9c6d831240670a0b57387f5", func := "soundpost/soundpostlaw05.JournalSurvives", spec := "journalSurvives", unfollowed := true, recurses := true, apart := false }
def JournalSurvivesSaid : Prop := journalSurvivesRow.holds Try.pinned (OpenSpec.ofChange journalSurvivesSpec)

/-- ITS FALSE NEIGHBOUR: 'it returns false'. Refute it at one input. -/
def journalSurvivesWrong : ChangeSpec := { name := "journalSurvives", fn := fun _ => fun
  | [d1, d2] => { results := [.lit (.bool false)], args := [d1, d2] }
  | _ => none }
def JournalSurvivesWrongFalsely : Prop := journalSurvivesRow.holds Try.pinned (OpenSpec.ofChange journalSurvivesWrong)

/-- 'soundpostlaw43.RecorderDivided': WHATEVER THE INPUT: true; the input reads as it did. -/
def recorderDividedSpec : ChangeSpec := { name := "recorderDivided", fn := fun _ => fun
  | [d1, d2] => { results := [.lit (.bool true)], args := [d1, d2] }
  | _ => none }
def recorderDividedRow : OpenClaim := { program := "ytckeopidedoohaa", sum := "96be99619ad261ef7312320ac3924acf4dee08aad9c6d831240670a0b57387f5", func := "soundpost/soundpostlaw43.RecorderDivided", spec := "recorderDivided", unfollowed := true, recurses := true, apart := false }
def RecorderDividedSaid : Prop := recorderDividedRow.holds Try.pinned (OpenSpec.ofChange recorderDividedSpec)

/-- ITS FALSE NEIGHBOUR: 'it returns false'. Refute it at one input. -/
def recorderDividedWrong : ChangeSpec := { name := "recorderDivided", fn := fun _ => fun
  | [d1, d2] => { results := [.lit (.bool false)], args := [d1, d2] }
  | _ => none }
def RecorderDividedWrongFalsely : Prop := recorderDividedRow.holds Try.pinned (OpenSpec.ofChange recorderDividedWrong)

/-- 'soundpostlaw43.RecorderSurvives': WHATEVER THE INPUT: true; the input reads as it did. -/
def recorderSurvivesSpec : ChangeSpec := { name := "recorderSurvives", fn := fun _ => fun
  | [d1, d2] => { results := [.lit (.bool true)], args := [d1, d2] }
  | _ => none }
def recorderSurvivesRow : OpenClaim := { program := "ytckeopidedoohaa", sum := "96be99619ad261ef7312320ac3924acf4dee08aad9c6d831240670a0b57387f5", func := "soundpost/soundpostlaw43.RecorderSurvives", spec := "recorderSurvives", unfollowed := true, recurses := true, apart := false }
def RecorderSurvivesSaid : Prop := recorderSurvivesRow.holds Try.pinned (OpenSpec.ofChange recorderSurvivesSpec)

/-- ITS FALSE NEIGHBOUR: 'it returns false'. Refute it at one input. -/
def recorderSurvivesWrong : ChangeSpec := { name := "recorderSurvives", fn := fun _ => fun
  | [d1, d2] => { results := [.lit (.bool false)], args := [d1, d2] }
  | _ => none }
def RecorderSurvivesWrongFalsely : Prop := recorderSurvivesRow.holds Try.pinned (OpenSpec.ofChange recorderSurvivesWrong)

/-- 'soundpostlaw43.RecorderOpenSpec': WHATEVER THE INPUT: true; the input reads as it did. -/
def recorderOpenSpecSpec : ChangeSpec := { name := "recorderOpenSpec", fn := fun _ => fun
  | [d] => { results := [.lit (.bool true)], args := [d] }
  | _ => none }
def recorderOpenSpecRow : OpenClaim := { program := "ytckeopidedoohaa", sum := "96be99619ad261ef7312320ac3924acf4dee08aad9c6d831240670a0b57387f5", func := "soundpost/soundpostlaw43.RecorderOpenSpec", spec := "recorderOpenSpec", unfollowed := true, recurses := true, apart := false }
def RecorderOpenSpecSaid : Prop := recorderOpenSpecRow.holds Try.pinned (OpenSpec.ofChange recorderOpenSpecSpec)

/-- ITS FALSE NEIGHBOUR: 'it returns false'. Refute it at one input. -/
def recorderOpenSpecWrong : ChangeSpec := { name := "recorderOpenSpec", fn := fun _ => fun
  | [d] => { results := [.lit (.bool false)], args := [d] }
  | _ => none }
def RecorderOpenSpecWrongFalsely : Prop := recorderOpenSpecRow.holds Try.pinned (OpenSpec.ofChange recorderOpenSpecWrong)

/-- 'soundpostlaw43.RecorderWriteSpec': WHATEVER THE INPUT: true; the input reads as it did. -/
def recorderWriteSpecSpec : ChangeSpec := { name := "recorderWriteSpec", fn := fun _ => fun
  | [d1, d2] => { results := [.lit (.bool true)], args := [d1, d2] }
  | _ => none }
def recorderWriteSpecRow : OpenClaim := { program := "ytckeopidedoohaa", sum := "96be99619ad261ef7312320ac3924acf4dee08aad9c6d831240670a0b57387f5", func := "soundpost/soundpostlaw43.RecorderWriteSpec", spec := "recorderWriteSpec", unfollowed := true, recurses := true, apart := false }
def RecorderWriteSpecSaid : Prop := recorderWriteSpecRow.holds Try.pinned (OpenSpec.ofChange recorderWriteSpecSpec)

/-- ITS FALSE NEIGHBOUR: 'it returns false'. Refute it at one input. -/
def recorderWriteSpecWrong : ChangeSpec := { name := "recorderWriteSpec", fn := fun _ => fun
  | [d1, d2] => { results := [.lit (.bool false)], args := [d1, d2] }
  | _ => none }
def RecorderWriteSpecWrongFalsely : Prop := recorderWriteSpecRow.holds Try.pinned (OpenSpec.ofChange recorderWriteSpecWrong)

/-- 'soundpostlaw43.RecorderSyncSpec': WHATEVER THE INPUT: true; the input reads as it did. -/
def recorderSyncSpecSpec : ChangeSpec := { name := "recorderSyncSpec", fn := fun _ => fun
  | [d1, d2] => { results := [.lit (.bool true)], args := [d1, d2] }
  | _ => none }
def recorderSyncSpecRow : OpenClaim := { program := "ytckeopidedoohaa", sum := "96be99619ad261ef7312320ac3924acf4dee08aad9c6d831240670a0b57387f5", func := "soundpost/soundpostlaw43.RecorderSyncSpec", spec := "recorderSyncSpec", unfollowed := true, recurses := true, apart := false }
def RecorderSyncSpecSaid : Prop := recorderSyncSpecRow.holds Try.pinned (OpenSpec.ofChange recorderSyncSpecSpec)

/-- ITS FALSE NEIGHBOUR: 'it returns false'. Refute it at one input. -/
def recorderSyncSpecWrong : ChangeSpec := { name := "recorderSyncSpec", fn := fun _ => fun
  | [d1, d2] => { results := [.lit (.bool false)], args := [d1, d2] }
  | _ => none }
def RecorderSyncSpecWrongFalsely : Prop := recorderSyncSpecRow.holds Try.pinned (OpenSpec.ofChange recorderSyncSpecWrong)

/-- 'soundpostlaw43.RecorderBack': WHATEVER THE INPUT: true; the input reads as it did. -/
def recorderBackSpec : ChangeSpec := { name := "recorderBack", fn := fun _ => fun
  | [d1, d2] => { results := [.lit (.bool true)], args := [d1, d2] }
  | _ => none }
def recorderBackRow : OpenClaim := { program := "ytckeopidedoohaa", sum := "96be99619ad261ef7312320ac3924acf4dee08aad9c6d831240670a0b57387f5", func := "soundpost/soundpostlaw43.RecorderBack", spec := "recorderBack", unfollowed := true, recurses := true, apart := false }
def RecorderBackSaid : Prop := recorderBackRow.holds Try.pinned (OpenSpec.ofChange recorderBackSpec)

/-- ITS FALSE NEIGHBOUR: 'it returns false'. Refute it at one input. -/
def recorderBackWrong : ChangeSpec := { name := "recorderBack", fn := fun _ => fun
  | [d1, d2] => { results := [.lit (.bool false)], args := [d1, d2] }
  | _ => none }
def RecorderBackWrongFalsely : Prop := recorderBackRow.holds Try.pinned (OpenSpec.ofChange recorderBackWrong)

/- THE SECOND FORM. 'bulk': how many values and letters a reading holds, each counted each time it is reached (what is shared counts as often as it is met; a slice's spare places count too). A statement '..UptoSaid' is the law's where the arguments, and the package variables that the reading takes, are together of bulk at most 1048576: NARROWER than '..Said'. Prove '..Said' where nothing that the law and all that it calls make is longer than what came in: it says more and counts as full. Else prove '..UptoSaid'. A law counts once. -/
mutual
def uptoBulk {H : Type} : DataW H → Nat
  | .lit (.string bytes) => bytes.length + 1
  | .lit _ => 1
  | .nil => 1
  | .ptr d => uptoBulk d + 1
  | .slice elems spare => uptoBulkAll elems + uptoBulkAll spare + 1
  | .agg parts => uptoBulkAll parts + 1
  | .iface _ d => uptoBulk d + 1
  | .map entries => uptoBulkEntries entries + 1
  | .held _ => 1
def uptoBulkAll {H : Type} : List (DataW H) → Nat
  | [] => 0
  | d :: r => uptoBulk d + uptoBulkAll r
def uptoBulkEntries {H : Type} : List (Lit × DataW H) → Nat
  | [] => 0
  | x :: r => uptoBulkEntry x + uptoBulkEntries r
def uptoBulkEntry {H : Type} : Lit × DataW H → Nat
  | (.string bytes, d) => bytes.length + uptoBulk d + 1
  | (_, d) => uptoBulk d + 1
 end
def uptoSmall : (H : Type) → List (DataW H) → Bool := fun _ ds => decide (uptoBulkAll ds ≤ 1048576)
def OpenSpec.upto (s : _root_.Go.ChangeSpec) : _root_.Go.OpenSpec := { _root_.Go.OpenSpec.ofChange s with cond := some uptoSmall }

/-- 'soundpostlaw04.DiskNewSpec', WHERE WHAT IT READS IS OF BULK AT MOST 1048576: true; the input reads as it did. -/
def diskNewSpecUptoRow : OpenClaim := { program := "ytckeopidedoohaa", sum := "96be99619ad261ef7312320ac3924acf4dee08aad9c6d831240670a0b57387f5", func := "soundpost/soundpostlaw04.DiskNewSpec", spec := "diskNewSpec", unfollowed := true, recurses := true, apart := false, narrowed := true }
def DiskNewSpecUptoSaid : Prop := diskNewSpecUptoRow.holds Try.pinned (OpenSpec.upto diskNewSpecSpec)

/-- 'soundpostlaw04.DiskWriteSpec', WHERE WHAT IT READS IS OF BULK AT MOST 1048576: true; the input reads as it did. -/
def diskWriteSpecUptoRow : OpenClaim := { program := "ytckeopidedoohaa", sum := "96be99619ad261ef7312320ac3924acf4dee08aad9c6d831240670a0b57387f5", func := "soundpost/soundpostlaw04.DiskWriteSpec", spec := "diskWriteSpec", unfollowed := true, recurses := true, apart := false, narrowed := true }
def DiskWriteSpecUptoSaid : Prop := diskWriteSpecUptoRow.holds Try.pinned (OpenSpec.upto diskWriteSpecSpec)

/-- 'soundpostlaw04.DiskSyncSpec', WHERE WHAT IT READS IS OF BULK AT MOST 1048576: true; the input reads as it did. -/
def diskSyncSpecUptoRow : OpenClaim := { program := "ytckeopidedoohaa", sum := "96be99619ad261ef7312320ac3924acf4dee08aad9c6d831240670a0b57387f5", func := "soundpost/soundpostlaw04.DiskSyncSpec", spec := "diskSyncSpec", unfollowed := true, recurses := true, apart := false, narrowed := true }
def DiskSyncSpecUptoSaid : Prop := diskSyncSpecUptoRow.holds Try.pinned (OpenSpec.upto diskSyncSpecSpec)

/-- 'soundpostlaw04.DiskHistory', WHERE WHAT IT READS IS OF BULK AT MOST 1048576: true; the input reads as it did. -/
def diskHistoryUptoRow : OpenClaim := { program := "ytckeopidedoohaa", sum := "96be99619ad261ef7312320ac3924acf4dee08aad9c6d831240670a0b57387f5", func := "soundpost/soundpostlaw04.DiskHistory", spec := "diskHistory", unfollowed := true, recurses := true, apart := false, narrowed := true }
def DiskHistoryUptoSaid : Prop := diskHistoryUptoRow.holds Try.pinned (OpenSpec.upto diskHistorySpec)

/-- 'soundpostlaw04.DiskReads', WHERE WHAT IT READS IS OF BULK AT MOST 1048576: true; the input reads as it did. -/
def diskReadsUptoRow : OpenClaim := { program := "ytckeopidedoohaa", sum := "96be99619ad261ef7312320ac3924acf4dee08aad9c6d831240670a0b57387f5", func := "soundpost/soundpostlaw04.DiskReads", spec := "diskReads", unfollowed := true, recurses := true, apart := false, narrowed := true }
def DiskReadsUptoSaid : Prop := diskReadsUptoRow.holds Try.pinned (OpenSpec.upto diskReadsSpec)

/-- 'soundpostlaw04.DiskTogether', WHERE WHAT IT READS IS OF BULK AT MOST 1048576: true; the input reads as it did. -/
def diskTogetherUptoRow : OpenClaim := { program := "ytckeopidedoohaa", sum := "96be99619ad261ef7312320ac3924acf4dee08aad9c6d831240670a0b57387f5", func := "soundpost/soundpostlaw04.DiskTogether", spec := "diskTogether", unfollowed := true, recurses := true, apart := false, narrowed := true }
def DiskTogetherUptoSaid : Prop := diskTogetherUptoRow.holds Try.pinned (OpenSpec.upto diskTogetherSpec)

/-- 'soundpostlaw04.DiskStopped', WHERE WHAT IT READS IS OF BULK AT MOST 1048576: true; the input reads as it did. -/
def diskStoppedUptoRow : OpenClaim := { program := "ytckeopidedoohaa", sum := "96be99619ad261ef7312320ac3924acf4dee08aad9c6d831240670a0b57387f5", func := "soundpost/soundpostlaw04.DiskStopped", spec := "diskStopped", unfollowed := true, recurses := true, apart := false, narrowed := true }
def DiskStoppedUptoSaid : Prop := diskStoppedUptoRow.holds Try.pinned (OpenSpec.upto diskStoppedSpec)

/-- 'soundpostlaw05.JournalOpenSpec', WHERE WHAT IT READS IS OF BULK AT MOST 1048576: true; the input reads as it did. -/
def journalOpenSpecUptoRow : OpenClaim := { program := "ytckeopidedoohaa", sum := "96be99619ad261ef7312320ac3924acf4dee08aad9c6d831240670a0b57387f5", func := "soundpost/soundpostlaw05.JournalOpenSpec", spec := "journalOpenSpec", unfollowed := true, recurses := true, apart := false, narrowed := true }
def JournalOpenSpecUptoSaid : Prop := journalOpenSpecUptoRow.holds Try.pinned (OpenSpec.upto journalOpenSpecSpec)

/-- 'soundpostlaw05.JournalAppendSpec', WHERE WHAT IT READS IS OF BULK AT MOST 1048576: true; the input reads as it did. -/
def journalAppendSpecUptoRow : OpenClaim := { program := "ytckeopidedoohaa", sum := "96be99619ad261ef7312320ac3924acf4dee08aad9c6d831240670a0b57387f5", func := "soundpost/soundpostlaw05.JournalAppendSpec", spec := "journalAppendSpec", unfollowed := true, recurses := true, apart := false, narrowed := true }
def JournalAppendSpecUptoSaid : Prop := journalAppendSpecUptoRow.holds Try.pinned (OpenSpec.upto journalAppendSpecSpec)

/-- 'soundpostlaw05.JournalSyncSpec', WHERE WHAT IT READS IS OF BULK AT MOST 1048576: true; the input reads as it did. -/
def journalSyncSpecUptoRow : OpenClaim := { program := "ytckeopidedoohaa", sum := "96be99619ad261ef7312320ac3924acf4dee08aad9c6d831240670a0b57387f5", func := "soundpost/soundpostlaw05.JournalSyncSpec", spec := "journalSyncSpec", unfollowed := true, recurses := true, apart := false, narrowed := true }
def JournalSyncSpecUptoSaid : Prop := journalSyncSpecUptoRow.holds Try.pinned (OpenSpec.upto journalSyncSpecSpec)

/-- 'soundpostlaw05.JournalRoom', WHERE WHAT IT READS IS OF BULK AT MOST 1048576: true; the input reads as it did. -/
def journalRoomUptoRow : OpenClaim := { program := "ytckeopidedoohaa", sum := "96be99619ad261ef7312320ac3924acf4dee08aad9c6d831240670a0b57387f5", func := "soundpost/soundpostlaw05.JournalRoom", spec := "journalRoom", unfollowed := true, recurses := true, apart := false, narrowed := true }
def JournalRoomUptoSaid : Prop := journalRoomUptoRow.holds Try.pinned (OpenSpec.upto journalRoomSpec)

/-- 'soundpostlaw05.JournalDamage', WHERE WHAT IT READS IS OF BULK AT MOST 1048576: true; the input reads as it did. -/
def journalDamageUptoRow : OpenClaim := { program := "ytckeopidedoohaa", sum := "96be99619ad261ef7312320ac3924acf4dee08aad9c6d831240670a0b57387f5", func := "soundpost/soundpostlaw05.JournalDamage", spec := "journalDamage", unfollowed := true, recurses := true, apart := false, narrowed := true }
def JournalDamageUptoSaid : Prop := journalDamageUptoRow.holds Try.pinned (OpenSpec.upto journalDamageSpec)

/-- 'soundpostlaw05.JournalSteps', WHERE WHAT IT READS IS OF BULK AT MOST 1048576: true; the input reads as it did. -/
def journalStepsUptoRow : OpenClaim := { program := "ytckeopidedoohaa", sum := "96be99619ad261ef7312320ac3924acf4dee08aad9c6d831240670a0b57387f5", func := "soundpost/soundpostlaw05.JournalSteps", spec := "journalSteps", unfollowed := true, recurses := true, apart := false, narrowed := true }
def JournalStepsUptoSaid : Prop := journalStepsUptoRow.holds Try.pinned (OpenSpec.upto journalStepsSpec)

/-- 'soundpostlaw05.JournalSurvives', WHERE WHAT IT READS IS OF BULK AT MOST 1048576: true; the input reads as it did. -/
def journalSurvivesUptoRow : OpenClaim := { program := "ytckeopidedoohaa", sum := "96be99619ad261ef7312320ac3924acf4dee08aad9c6d831240670a0b57387f5", func := "soundpost/soundpostlaw05.JournalSurvives", spec := "journalSurvives", unfollowed := true, recurses := true, apart := false, narrowed := true }
def JournalSurvivesUptoSaid : Prop := journalSurvivesUptoRow.holds Try.pinned (OpenSpec.upto journalSurvivesSpec)

/-- 'soundpostlaw43.RecorderDivided', WHERE WHAT IT READS IS OF BULK AT MOST 1048576: true; the input reads as it did. -/
def recorderDividedUptoRow : OpenClaim := { program := "ytckeopidedoohaa", sum := "96be99619ad261ef7312320ac3924acf4dee08aad9c6d831240670a0b57387f5", func := "soundpost/soundpostlaw43.RecorderDivided", spec := "recorderDivided", unfollowed := true, recurses := true, apart := false, narrowed := true }
def RecorderDividedUptoSaid : Prop := recorderDividedUptoRow.holds Try.pinned (OpenSpec.upto recorderDividedSpec)

/-- 'soundpostlaw43.RecorderSurvives', WHERE WHAT IT READS IS OF BULK AT MOST 1048576: true; the input reads as it did. -/
def recorderSurvivesUptoRow : OpenClaim := { program := "ytckeopidedoohaa", sum := "96be99619ad261ef7312320ac3924acf4dee08aad9c6d831240670a0b57387f5", func := "soundpost/soundpostlaw43.RecorderSurvives", spec := "recorderSurvives", unfollowed := true, recurses := true, apart := false, narrowed := true }
def RecorderSurvivesUptoSaid : Prop := recorderSurvivesUptoRow.holds Try.pinned (OpenSpec.upto recorderSurvivesSpec)

/-- 'soundpostlaw43.RecorderOpenSpec', WHERE WHAT IT READS IS OF BULK AT MOST 1048576: true; the input reads as it did. -/
def recorderOpenSpecUptoRow : OpenClaim := { program := "ytckeopidedoohaa", sum := "96be99619ad261ef7312320ac3924acf4dee08aad9c6d831240670a0b57387f5", func := "soundpost/soundpostlaw43.RecorderOpenSpec", spec := "recorderOpenSpec", unfollowed := true, recurses := true, apart := false, narrowed := true }
def RecorderOpenSpecUptoSaid : Prop := recorderOpenSpecUptoRow.holds Try.pinned (OpenSpec.upto recorderOpenSpecSpec)

/-- 'soundpostlaw43.RecorderWriteSpec', WHERE WHAT IT READS IS OF BULK AT MOST 1048576: true; the input reads as it did. -/
def recorderWriteSpecUptoRow : OpenClaim := { program := "ytckeopidedoohaa", sum := "96be99619ad261ef7312320ac3924acf4dee08aad9c6d831240670a0b57387f5", func := "soundpost/soundpostlaw43.RecorderWriteSpec", spec := "recorderWriteSpec", unfollowed := true, recurses := true, apart := false, narrowed := true }
def RecorderWriteSpecUptoSaid : Prop := recorderWriteSpecUptoRow.holds Try.pinned (OpenSpec.upto recorderWriteSpecSpec)

/-- 'soundpostlaw43.RecorderSyncSpec', WHERE WHAT IT READS IS OF BULK AT MOST 1048576: true; the input reads as it did. -/
def recorderSyncSpecUptoRow : OpenClaim := { program := "ytckeopidedoohaa", sum := "96be99619ad261ef7312320ac3924acf4dee08aad9c6d831240670a0b57387f5", func := "soundpost/soundpostlaw43.RecorderSyncSpec", spec := "recorderSyncSpec", unfollowed := true, recurses := true, apart := false, narrowed := true }
def RecorderSyncSpecUptoSaid : Prop := recorderSyncSpecUptoRow.holds Try.pinned (OpenSpec.upto recorderSyncSpecSpec)

/-- 'soundpostlaw43.RecorderBack', WHERE WHAT IT READS IS OF BULK AT MOST 1048576: true; the input reads as it did. -/
def recorderBackUptoRow : OpenClaim := { program := "ytckeopidedoohaa", sum := "96be99619ad261ef7312320ac3924acf4dee08aad9c6d831240670a0b57387f5", func := "soundpost/soundpostlaw43.RecorderBack", spec := "recorderBack", unfollowed := true, recurses := true, apart := false, narrowed := true }
def RecorderBackUptoSaid : Prop := recorderBackUptoRow.holds Try.pinned (OpenSpec.upto recorderBackSpec)

end Rows
end Go.Proofs.Ytckeopidedoohaa
