/-
  No cell of these rows narrows 'for every input' (looked for: loops, veiled, ifaces, maps, wideKeys, modest, calm, conditions, laid).
  DERIVED. THE GIVEN ROWS OF THIS SEAT. 7 by the template 'for every input the law returns true; each argument reads behind the call as it read before'; 0 by the template 'total and deterministic' (their statements: YtjkclplnflaplaaTotals.lean).
  GIVEN WITH THE SEED: the statements are not yours to turn. If you find one false, say at which input.
  Laid BY PROGRAM, IN A SANDBOX (cutbox-rows.mjs): the forced cells as the released guide's own fill.sh prints them over the translation c4d21c1f2dfd669f… (all of the seat's roots in one cut). By AI agents, Wed Nov 11 2026. No macro, syntax, notation, axiom, sorry.
-/
import Derived.Test.YtjkclplnflaplaaChecked
import GoSem.Claim
import GoSem.ClaimJoined
import GoSem.ClaimMapViews
import Derived.JoinedTies
import Derived.KernelRfl
namespace Go.Proofs.Ytjkclplnflaplaa
/- THE CELL 'sum', in the pinned program and in every row, IS THE sha256 OF THE DUMP (.gsa) THAT YtjkclplnflaplaaProg.lean LOADS. Nothing in Lean hashes anything: it is a label: what it is worth is what the hold of that sum in a sandbox is worth. -/
noncomputable def Try.pinned : Pinned := { name := "ytjkclplnflaplaa", sum := "c4d21c1f2dfd669fa3f28c1b5ddddbfac22c740327d46e0e5625e8a3790770d7", checked := Try.checked }
namespace Rows
def none {H : Type} : Left H := { results := [], args := [] }

/-- 'soundpostlaw51.TransportCheckSpec': WHATEVER THE INPUT: true; the input reads as it did. -/
def transportCheckSpecSpec : ChangeSpec := { name := "transportCheckSpec", fn := fun _ => fun
  | [d] => { results := [.lit (.bool true)], args := [d] }
  | _ => none }
def transportCheckSpecRow : OpenClaim := { program := "ytjkclplnflaplaa", sum := "c4d21c1f2dfd669fa3f28c1b5ddddbfac22c740327d46e0e5625e8a3790770d7", func := "soundpost/soundpostlaw51.TransportCheckSpec", spec := "transportCheckSpec", unfollowed := true, recurses := true, apart := false }
def TransportCheckSpecSaid : Prop := transportCheckSpecRow.holds Try.pinned (OpenSpec.ofChange transportCheckSpecSpec)

/-- ITS FALSE NEIGHBOUR: 'it returns false'. Refute it at one input. -/
def transportCheckSpecWrong : ChangeSpec := { name := "transportCheckSpec", fn := fun _ => fun
  | [d] => { results := [.lit (.bool false)], args := [d] }
  | _ => none }
def TransportCheckSpecWrongFalsely : Prop := transportCheckSpecRow.holds Try.pinned (OpenSpec.ofChange transportCheckSpecWrong)

/-- 'soundpostlaw51.TransportSpec': WHATEVER THE INPUT: true; the input reads as it did. -/
def transportSpecSpec : ChangeSpec := { name := "transportSpec", fn := fun _ => fun
  | [d1, d2, d3] => { results := [.lit (.bool true)], args := [d1, d2, d3] }
  | _ => none }
def transportSpecRow : OpenClaim := { program := "ytjkclplnflaplaa", sum := "c4d21c1f2dfd669fa3f28c1b5ddddbfac22c740327d46e0e5625e8a3790770d7", func := "soundpost/soundpostlaw51.TransportSpec", spec := "transportSpec", unfollowed := true, recurses := true, apart := false }
def TransportSpecSaid : Prop := transportSpecRow.holds Try.pinned (OpenSpec.ofChange transportSpecSpec)

/-- ITS FALSE NEIGHBOUR: 'it returns false'. Refute it at one input. -/
def transportSpecWrong : ChangeSpec := { name := "transportSpec", fn := fun _ => fun
  | [d1, d2, d3] => { results := [.lit (.bool false)], args := [d1, d2, d3] }
  | _ => none }
def TransportSpecWrongFalsely : Prop := transportSpecRow.holds Try.pinned (OpenSpec.ofChange transportSpecWrong)

/-- 'soundpostlaw51.TransportSpans': WHATEVER THE INPUT: true; the input reads as it did. -/
def transportSpansSpec : ChangeSpec := { name := "transportSpans", fn := fun _ => fun
  | [d1, d2, d3] => { results := [.lit (.bool true)], args := [d1, d2, d3] }
  | _ => none }
def transportSpansRow : OpenClaim := { program := "ytjkclplnflaplaa", sum := "c4d21c1f2dfd669fa3f28c1b5ddddbfac22c740327d46e0e5625e8a3790770d7", func := "soundpost/soundpostlaw51.TransportSpans", spec := "transportSpans", unfollowed := true, recurses := true, apart := false }
def TransportSpansSaid : Prop := transportSpansRow.holds Try.pinned (OpenSpec.ofChange transportSpansSpec)

/-- ITS FALSE NEIGHBOUR: 'it returns false'. Refute it at one input. -/
def transportSpansWrong : ChangeSpec := { name := "transportSpans", fn := fun _ => fun
  | [d1, d2, d3] => { results := [.lit (.bool false)], args := [d1, d2, d3] }
  | _ => none }
def TransportSpansWrongFalsely : Prop := transportSpansRow.holds Try.pinned (OpenSpec.ofChange transportSpansWrong)

/-- 'soundpostlaw51.TransportBefore': WHATEVER THE INPUT: true; the input reads as it did. -/
def transportBeforeSpec : ChangeSpec := { name := "transportBefore", fn := fun _ => fun
  | [d1, d2] => { results := [.lit (.bool true)], args := [d1, d2] }
  | _ => none }
def transportBeforeRow : OpenClaim := { program := "ytjkclplnflaplaa", sum := "c4d21c1f2dfd669fa3f28c1b5ddddbfac22c740327d46e0e5625e8a3790770d7", func := "soundpost/soundpostlaw51.TransportBefore", spec := "transportBefore", unfollowed := true, recurses := true, apart := false }
def TransportBeforeSaid : Prop := transportBeforeRow.holds Try.pinned (OpenSpec.ofChange transportBeforeSpec)

/-- ITS FALSE NEIGHBOUR: 'it returns false'. Refute it at one input. -/
def transportBeforeWrong : ChangeSpec := { name := "transportBefore", fn := fun _ => fun
  | [d1, d2] => { results := [.lit (.bool false)], args := [d1, d2] }
  | _ => none }
def TransportBeforeWrongFalsely : Prop := transportBeforeRow.holds Try.pinned (OpenSpec.ofChange transportBeforeWrong)

/-- 'soundpostlaw51.TransportLater': WHATEVER THE INPUT: true; the input reads as it did. -/
def transportLaterSpec : ChangeSpec := { name := "transportLater", fn := fun _ => fun
  | [d1, d2, d3] => { results := [.lit (.bool true)], args := [d1, d2, d3] }
  | _ => none }
def transportLaterRow : OpenClaim := { program := "ytjkclplnflaplaa", sum := "c4d21c1f2dfd669fa3f28c1b5ddddbfac22c740327d46e0e5625e8a3790770d7", func := "soundpost/soundpostlaw51.TransportLater", spec := "transportLater", unfollowed := true, recurses := true, apart := false }
def TransportLaterSaid : Prop := transportLaterRow.holds Try.pinned (OpenSpec.ofChange transportLaterSpec)

/-- ITS FALSE NEIGHBOUR: 'it returns false'. Refute it at one input. -/
def transportLaterWrong : ChangeSpec := { name := "transportLater", fn := fun _ => fun
  | [d1, d2, d3] => { results := [.lit (.bool false)], args := [d1, d2, d3] }
  | _ => none }
def TransportLaterWrongFalsely : Prop := transportLaterRow.holds Try.pinned (OpenSpec.ofChange transportLaterWrong)

/-- 'soundpostlaw51.TransportLoops': WHATEVER THE INPUT: true; the input reads as it did. -/
def transportLoopsSpec : ChangeSpec := { name := "transportLoops", fn := fun _ => fun
  | [d1, d2, d3] => { results := [.lit (.bool true)], args := [d1, d2, d3] }
  | _ => none }
def transportLoopsRow : OpenClaim := { program := "ytjkclplnflaplaa", sum := "c4d21c1f2dfd669fa3f28c1b5ddddbfac22c740327d46e0e5625e8a3790770d7", func := "soundpost/soundpostlaw51.TransportLoops", spec := "transportLoops", unfollowed := true, recurses := true, apart := false }
def TransportLoopsSaid : Prop := transportLoopsRow.holds Try.pinned (OpenSpec.ofChange transportLoopsSpec)

/-- ITS FALSE NEIGHBOUR: 'it returns false'. Refute it at one input. -/
def transportLoopsWrong : ChangeSpec := { name := "transportLoops", fn := fun _ => fun
  | [d1, d2, d3] => { results := [.lit (.bool false)], args := [d1, d2, d3] }
  | _ => none }
def TransportLoopsWrongFalsely : Prop := transportLoopsRow.holds Try.pinned (OpenSpec.ofChange transportLoopsWrong)

/-- 'soundpostlaw51.TransportRecord': WHATEVER THE INPUT: true; the input reads as it did. -/
def transportRecordSpec : ChangeSpec := { name := "transportRecord", fn := fun _ => fun
  | [d1, d2] => { results := [.lit (.bool true)], args := [d1, d2] }
  | _ => none }
def transportRecordRow : OpenClaim := { program := "ytjkclplnflaplaa", sum := "c4d21c1f2dfd669fa3f28c1b5ddddbfac22c740327d46e0e5625e8a3790770d7", func := "soundpost/soundpostlaw51.TransportRecord", spec := "transportRecord", unfollowed := true, recurses := true, apart := false }
def TransportRecordSaid : Prop := transportRecordRow.holds Try.pinned (OpenSpec.ofChange transportRecordSpec)

/-- ITS FALSE NEIGHBOUR: 'it returns false'. Refute it at one input. -/
def transportRecordWrong : ChangeSpec := { name := "transportRecord", fn := fun _ => fun
  | [d1, d2] => { results := [.lit (.bool false)], args := [d1, d2] }
  | _ => none }
def TransportRecordWrongFalsely : Prop := transportRecordRow.holds Try.pinned (OpenSpec.ofChange transportRecordWrong)

/- THE SECOND FORM. 'bulk': how many values and letters a reading holds, each counted each time it is reached (what is shared counts as often as it is met; a slice's spare places count too). A statement '..UptoSaid' is the law's where the arguments, and the package variables that the reading takes, are together of bulk at most 1048576: NARROWER than '..Said'. Prove '..Said' where nothing that the law and all that it calls make is longer than what came in: it says more and counts as full. Else prove '..UptoSaid'. A law counts once. -/
mutual
def uptoBulk {H : Type} : DataW H → Nat
  | .lit (.string bytes) => bytes.length + 1
  | .lit _ => 1
  | .nil => 1
  | .ptr d => uptoBulk d + 1
  | .slice elems spare => uptoBulkAll elems + uptoBulkAll spare + 1
  | .agg parts => uptoBulkAll parts + 1
  | .iface _ d => uptoBulk d + 1
  | .map entries => uptoBulkEntries entries + 1
  | .held _ => 1
def uptoBulkAll {H : Type} : List (DataW H) → Nat
  | [] => 0
  | d :: r => uptoBulk d + uptoBulkAll r
def uptoBulkEntries {H : Type} : List (Lit × DataW H) → Nat
  | [] => 0
  | x :: r => uptoBulkEntry x + uptoBulkEntries r
def uptoBulkEntry {H : Type} : Lit × DataW H → Nat
  | (.string bytes, d) => bytes.length + uptoBulk d + 1
  | (_, d) => uptoBulk d + 1
 end
def uptoSmall : (H : Type) → List (DataW H) → Bool := fun _ ds => decide (uptoBulkAll ds ≤ 1048576)
def OpenSpec.upto (s : _root_.Go.ChangeSpec) : _root_.Go.OpenSpec := { _root_.Go.OpenSpec.ofChange s with cond := some uptoSmall }

/-- 'soundpostlaw51.TransportCheckSpec', WHERE WHAT IT READS IS OF BULK AT MOST 1048576: true; the input reads as it did. -/
def transportCheckSpecUptoRow : OpenClaim := { program := "ytjkclplnflaplaa", sum := "c4d21c1f2dfd669fa3f28c1b5ddddbfac22c740327d46e0e5625e8a3790770d7", func := "soundpost/soundpostlaw51.TransportCheckSpec", spec := "transportCheckSpec", unfollowed := true, recurses := true, apart := false, narrowed := true }
def TransportCheckSpecUptoSaid : Prop := transportCheckSpecUptoRow.holds Try.pinned (OpenSpec.upto transportCheckSpecSpec)

/-- 'soundpostlaw51.TransportSpec', WHERE WHAT IT READS IS OF BULK AT MOST 1048576: true; the input reads as it did. -/
def transportSpecUptoRow : OpenClaim := { program := "ytjkclplnflaplaa", sum := "c4d21c1f2dfd669fa3f28c1b5ddddbfac22c740327d46e0e5625e8a3790770d7", func := "soundpost/soundpostlaw51.TransportSpec", spec := "transportSpec", unfollowed := true, recurses := true, apart := false, narrowed := true }
def TransportSpecUptoSaid : Prop := transportSpecUptoRow.holds Try.pinned (OpenSpec.upto transportSpecSpec)

/-- 'soundpostlaw51.TransportSpans', WHERE WHAT IT READS IS OF BULK AT MOST 1048576: true; the input reads as it did. -/
def transportSpansUptoRow : OpenClaim := { program := "ytjkclplnflaplaa", sum := "c4d21c1f2dfd669fa3f28c1b5ddddbfac22c740327d46e0e5625e8a3790770d7", func := "soundpost/soundpostlaw51.TransportSpans", spec := "transportSpans", unfollowed := true, recurses := true, apart := false, narrowed := true }
def TransportSpansUptoSaid : Prop := transportSpansUptoRow.holds Try.pinned (OpenSpec.upto transportSpansSpec)

/-- 'soundpostlaw51.TransportBefore', WHERE WHAT IT READS IS OF BULK AT MOST 1048576: true; the input reads as it did. -/
def transportBeforeUptoRow : OpenClaim := { program := "ytjkclplnflaplaa", sum := "c4d21c1f2dfd669fa3f28c1b5ddddbfac22c740327d46e0e5625e8a3790770d7", func := "soundpost/soundpostlaw51.TransportBefore", spec := "transportBefore", unfollowed := true, recurses := true, apart := false, narrowed := true }
def TransportBeforeUptoSaid : Prop := transportBeforeUptoRow.holds Try.pinned (OpenSpec.upto transportBeforeSpec)

/-- 'soundpostlaw51.TransportLater', WHERE WHAT IT READS IS OF BULK AT MOST 1048576: true; the input reads as it did. -/
def transportLaterUptoRow : OpenClaim := { program := "ytjkclplnflaplaa", sum := "c4d21c1f2dfd669fa3f28c1b5ddddbfac22c740327d46e0e5625e8a3790770d7", func := "soundpost/soundpostlaw51.TransportLater", spec := "transportLater", unfollowed := true, recurses := true, apart := false, narrowed := true }
def TransportLaterUptoSaid : Prop := transportLaterUptoRow.holds Try.pinned (OpenSpec.upto transportLaterSpec)

/-- 'soundpostlaw51.TransportLoops', WHERE WHAT IT READS IS OF BULK AT MOST 1048576: true; the input reads as it did. -/
def transportLoopsUptoRow : OpenClaim := { program := "ytjkclplnflaplaa", sum := "c4d21c1f2dfd669fa3f28c1b5ddddbfac22c740327d46e0e5625e8a3790770d7", func := "soundpost/soundpostlaw51.TransportLoops", spec := "transportLoops", unfollowed := true, recurses := true, apart := false, narrowed := true }
def TransportLoopsUptoSaid : Prop := transportLoopsUptoRow.holds Try.pinned (OpenSpec.upto transportLoopsSpec)

/-- 'soundpostlaw51.TransportRecord', WHERE WHAT IT READS IS OF BULK AT MOST 1048576: true; the input reads as it did. -/
def transportRecordUptoRow : OpenClaim := { program := "ytjkclplnflaplaa", sum := "c4d21c1f2dfd669fa3f28c1b5ddddbfac22c740327d46e0e5625e8a3790770d7", func := "soundpost/soundpostlaw51.TransportRecord", spec := "transportRecord", unfollowed := true, recurses := true, apart := false, narrowed := true }
def TransportRecordUptoSaid : Prop := transportRecordUptoRow.holds Try.pinned (OpenSpec.upto transportRecordSpec)

end Rows
end Go.Proofs.Ytjkclplnflaplaa
