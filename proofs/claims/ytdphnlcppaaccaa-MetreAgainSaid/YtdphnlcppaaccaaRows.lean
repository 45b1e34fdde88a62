/-
  No cell of these rows narrows 'for every input' (looked for: loops, veiled, ifaces, maps, wideKeys, modest, calm, conditions, laid).
  DERIVED. THE GIVEN ROWS OF THIS SEAT. 7 by the template 'for every input the law returns true; each argument reads behind the call as it read before'; 0 by the template 'total and deterministic' (their statements: YtdphnlcppaaccaaTotals.lean).
  GIVEN WITH THE SEED: the statements are not yours to turn. If you find one false, say at which input.
  Laid BY PROGRAM, IN A SANDBOX (cutbox-rows.mjs): the forced cells as the released guide's own fill.sh prints them over the translation 441a15179ac06a86… (all of the seat's roots in one cut). By AI agents, Wed Nov 11 2026. No macro, syntax, notation, axiom, sorry.
-/
import Derived.Test.YtdphnlcppaaccaaChecked
import GoSem.Claim
import GoSem.ClaimJoined
import GoSem.ClaimMapViews
import Derived.JoinedTies
import Derived.KernelRfl
namespace Go.Proofs.Ytdphnlcppaaccaa
/- THE CELL 'sum', in the pinned program and in every row, IS THE sha256 OF THE DUMP (.gsa) THAT YtdphnlcppaaccaaProg.lean LOADS. Nothing in Lean hashes anything: it is a label: what it is worth is what the hold of that sum in a sandbox is worth. -/
noncomputable def Try.pinned : Pinned := { name := "ytdphnlcppaaccaa", sum := "441a15179ac06a862ca31b1e3c6bbe3df9527cf8ed395e4239d790ff0e425e2b", checked := Try.checked }
namespace Rows
def none {H : Type} : Left H := { results := [], args := [] }

/-- 'soundpostlaw10.MetreTickSpec': WHATEVER THE INPUT: true; the input reads as it did. -/
def metreTickSpecSpec : ChangeSpec := { name := "metreTickSpec", fn := fun _ => fun
  | [d1, d2, d3, d4] => { results := [.lit (.bool true)], args := [d1, d2, d3, d4] }
  | _ => none }
def metreTickSpecRow : OpenClaim := { program := "ytdphnlcppaaccaa", sum := "441a15179ac06a862ca31b1e3c6bbe3df9527cf8ed395e4239d790ff0e425e2b", func := "soundpost/soundpostlaw10.MetreTickSpec", spec := "metreTickSpec", unfollowed := true, recurses := true, apart := false }
def MetreTickSpecSaid : Prop := metreTickSpecRow.holds Try.pinned (OpenSpec.ofChange metreTickSpecSpec)

/-- ITS FALSE NEIGHBOUR: 'it returns false'. Refute it at one input. -/
def metreTickSpecWrong : ChangeSpec := { name := "metreTickSpec", fn := fun _ => fun
  | [d1, d2, d3, d4] => { results := [.lit (.bool false)], args := [d1, d2, d3, d4] }
  | _ => none }
def MetreTickSpecWrongFalsely : Prop := metreTickSpecRow.holds Try.pinned (OpenSpec.ofChange metreTickSpecWrong)

/-- 'soundpostlaw10.MetrePlaceSpec': WHATEVER THE INPUT: true; the input reads as it did. -/
def metrePlaceSpecSpec : ChangeSpec := { name := "metrePlaceSpec", fn := fun _ => fun
  | [d1, d2, d3, d4] => { results := [.lit (.bool true)], args := [d1, d2, d3, d4] }
  | _ => none }
def metrePlaceSpecRow : OpenClaim := { program := "ytdphnlcppaaccaa", sum := "441a15179ac06a862ca31b1e3c6bbe3df9527cf8ed395e4239d790ff0e425e2b", func := "soundpost/soundpostlaw10.MetrePlaceSpec", spec := "metrePlaceSpec", unfollowed := true, recurses := true, apart := false }
def MetrePlaceSpecSaid : Prop := metrePlaceSpecRow.holds Try.pinned (OpenSpec.ofChange metrePlaceSpecSpec)

/-- ITS FALSE NEIGHBOUR: 'it returns false'. Refute it at one input. -/
def metrePlaceSpecWrong : ChangeSpec := { name := "metrePlaceSpec", fn := fun _ => fun
  | [d1, d2, d3, d4] => { results := [.lit (.bool false)], args := [d1, d2, d3, d4] }
  | _ => none }
def MetrePlaceSpecWrongFalsely : Prop := metrePlaceSpecRow.holds Try.pinned (OpenSpec.ofChange metrePlaceSpecWrong)

/-- 'soundpostlaw10.MetreInverse': WHATEVER THE INPUT: true; the input reads as it did. -/
def metreInverseSpec : ChangeSpec := { name := "metreInverse", fn := fun _ => fun
  | [d1, d2, d3, d4, d5] => { results := [.lit (.bool true)], args := [d1, d2, d3, d4, d5] }
  | _ => none }
def metreInverseRow : OpenClaim := { program := "ytdphnlcppaaccaa", sum := "441a15179ac06a862ca31b1e3c6bbe3df9527cf8ed395e4239d790ff0e425e2b", func := "soundpost/soundpostlaw10.MetreInverse", spec := "metreInverse", unfollowed := true, recurses := true, apart := false }
def MetreInverseSaid : Prop := metreInverseRow.holds Try.pinned (OpenSpec.ofChange metreInverseSpec)

/-- ITS FALSE NEIGHBOUR: 'it returns false'. Refute it at one input. -/
def metreInverseWrong : ChangeSpec := { name := "metreInverse", fn := fun _ => fun
  | [d1, d2, d3, d4, d5] => { results := [.lit (.bool false)], args := [d1, d2, d3, d4, d5] }
  | _ => none }
def MetreInverseWrongFalsely : Prop := metreInverseRow.holds Try.pinned (OpenSpec.ofChange metreInverseWrong)

/-- 'soundpostlaw10.MetreOrder': WHATEVER THE INPUT: true; the input reads as it did. -/
def metreOrderSpec : ChangeSpec := { name := "metreOrder", fn := fun _ => fun
  | [d1, d2, d3] => { results := [.lit (.bool true)], args := [d1, d2, d3] }
  | _ => none }
def metreOrderRow : OpenClaim := { program := "ytdphnlcppaaccaa", sum := "441a15179ac06a862ca31b1e3c6bbe3df9527cf8ed395e4239d790ff0e425e2b", func := "soundpost/soundpostlaw10.MetreOrder", spec := "metreOrder", unfollowed := true, recurses := true, apart := false }
def MetreOrderSaid : Prop := metreOrderRow.holds Try.pinned (OpenSpec.ofChange metreOrderSpec)

/-- ITS FALSE NEIGHBOUR: 'it returns false'. Refute it at one input. -/
def metreOrderWrong : ChangeSpec := { name := "metreOrder", fn := fun _ => fun
  | [d1, d2, d3] => { results := [.lit (.bool false)], args := [d1, d2, d3] }
  | _ => none }
def MetreOrderWrongFalsely : Prop := metreOrderRow.holds Try.pinned (OpenSpec.ofChange metreOrderWrong)

/-- 'soundpostlaw10.MetreBars': WHATEVER THE INPUT: true; the input reads as it did. -/
def metreBarsSpec : ChangeSpec := { name := "metreBars", fn := fun _ => fun
  | [d1, d2, d3, d4, d5] => { results := [.lit (.bool true)], args := [d1, d2, d3, d4, d5] }
  | _ => none }
def metreBarsRow : OpenClaim := { program := "ytdphnlcppaaccaa", sum := "441a15179ac06a862ca31b1e3c6bbe3df9527cf8ed395e4239d790ff0e425e2b", func := "soundpost/soundpostlaw10.MetreBars", spec := "metreBars", unfollowed := true, recurses := true, apart := false }
def MetreBarsSaid : Prop := metreBarsRow.holds Try.pinned (OpenSpec.ofChange metreBarsSpec)

/-- ITS FALSE NEIGHBOUR: 'it returns false'. Refute it at one input. -/
def metreBarsWrong : ChangeSpec := { name := "metreBars", fn := fun _ => fun
  | [d1, d2, d3, d4, d5] => { results := [.lit (.bool false)], args := [d1, d2, d3, d4, d5] }
  | _ => none }
def MetreBarsWrongFalsely : Prop := metreBarsRow.holds Try.pinned (OpenSpec.ofChange metreBarsWrong)

/-- 'soundpostlaw10.MetreAgain': WHATEVER THE INPUT: true; the input reads as it did. -/
def metreAgainSpec : ChangeSpec := { name := "metreAgain", fn := fun _ => fun
  | [d1, d2, d3, d4, d5] => { results := [.lit (.bool true)], args := [d1, d2, d3, d4, d5] }
  | _ => none }
def metreAgainRow : OpenClaim := { program := "ytdphnlcppaaccaa", sum := "441a15179ac06a862ca31b1e3c6bbe3df9527cf8ed395e4239d790ff0e425e2b", func := "soundpost/soundpostlaw10.MetreAgain", spec := "metreAgain", unfollowed := true, recurses := true, apart := false }
def MetreAgainSaid : Prop := metreAgainRow.holds Try.pinned (OpenSpec.ofChange metreAgainSpec)

/-- ITS FALSE NEIGHBOUR: 'it returns false'. Refute it at one input. -/
def metreAgainWrong : ChangeSpec := { name := "metreAgain", fn := fun _ => fun
  | [d1, d2, d3, d4, d5] => { results := [.lit (.bool false)], args := [d1, d2, d3, d4, d5] }
  | _ => none }
def MetreAgainWrongFalsely : Prop := metreAgainRow.holds Try.pinned (OpenSpec.ofChange metreAgainWrong)

/-- 'soundpostlaw10.MetreLengths': WHATEVER THE INPUT: true; the input reads as it did. -/
def metreLengthsSpec : ChangeSpec := { name := "metreLengths", fn := fun _ => fun
  | [d1, d2] => { results := [.lit (.bool true)], args := [d1, d2] }
  | _ => none }
def metreLengthsRow : OpenClaim := { program := "ytdphnlcppaaccaa", sum := "441a15179ac06a862ca31b1e3c6bbe3df9527cf8ed395e4239d790ff0e425e2b", func := "soundpost/soundpostlaw10.MetreLengths", spec := "metreLengths", unfollowed := true, recurses := true, apart := false }
def MetreLengthsSaid : Prop := metreLengthsRow.holds Try.pinned (OpenSpec.ofChange metreLengthsSpec)

/-- ITS FALSE NEIGHBOUR: 'it returns false'. Refute it at one input. -/
def metreLengthsWrong : ChangeSpec := { name := "metreLengths", fn := fun _ => fun
  | [d1, d2] => { results := [.lit (.bool false)], args := [d1, d2] }
  | _ => none }
def MetreLengthsWrongFalsely : Prop := metreLengthsRow.holds Try.pinned (OpenSpec.ofChange metreLengthsWrong)

/- THE SECOND FORM. 'bulk': how many values and letters a reading holds, each counted each time it is reached (what is shared counts as often as it is met; a slice's spare places count too). A statement '..UptoSaid' is the law's where the arguments, and the package variables that the reading takes, are together of bulk at most 1048576: NARROWER than '..Said'. Prove '..Said' where nothing that the law and all that it calls make is longer than what came in: it says more and counts as full. Else prove '..UptoSaid'. A law counts once. -/
mutual
def uptoBulk {H : Type} : DataW H → Nat
  | .lit (.string bytes) => bytes.length + 1
  | .lit _ => 1
  | .nil => 1
  | .ptr d => uptoBulk d + 1
  | .slice elems spare => uptoBulkAll elems + uptoBulkAll spare + 1
  | .agg parts => uptoBulkAll parts + 1
  | .iface _ d => uptoBulk d + 1
  | .map entries => uptoBulkEntries entries + 1
  | .held _ => 1
def uptoBulkAll {H : Type} : List (DataW H) → Nat
  | [] => 0
  | d :: r => uptoBulk d + uptoBulkAll r
def uptoBulkEntries {H : Type} : List (Lit × DataW H) → Nat
  | [] => 0
  | x :: r => uptoBulkEntry x + uptoBulkEntries r
def uptoBulkEntry {H : Type} : Lit × DataW H → Nat
  | (.string bytes, d) => bytes.length + uptoBulk d + 1
  | (_, d) => uptoBulk d + 1
 end
def uptoSmall : (H : Type) → List (DataW H) → Bool := fun _ ds => decide (uptoBulkAll ds ≤ 1048576)
def OpenSpec.upto (s : _root_.Go.ChangeSpec) : _root_.Go.OpenSpec := { _root_.Go.OpenSpec.ofChange s with cond := some uptoSmall }

/-- 'soundpostlaw10.MetreTickSpec', WHERE WHAT IT READS IS OF BULK AT MOST 1048576: true; the input reads as it did. -/
def metreTickSpecUptoRow : OpenClaim := { program := "ytdphnlcppaaccaa", sum := "441a15179ac06a862ca31b1e3c6bbe3df9527cf8ed395e4239d790ff0e425e2b", func := "soundpost/soundpostlaw10.MetreTickSpec", spec := "metreTickSpec", unfollowed := true, recurses := true, apart := false, narrowed := true }
def MetreTickSpecUptoSaid : Prop := metreTickSpecUptoRow.holds Try.pinned (OpenSpec.upto metreTickSpecSpec)

/-- 'soundpostlaw10.MetrePlaceSpec', WHERE WHAT IT READS IS OF BULK AT MOST 1048576: true; the input reads as it did. -/
def metrePlaceSpecUptoRow : OpenClaim := { program := "ytdphnlcppaaccaa", sum := "441a15179ac06a862ca31b1e3c6bbe3df9527cf8ed395e4239d790ff0e425e2b", func := "soundpost/soundpostlaw10.MetrePlaceSpec", spec := "metrePlaceSpec", unfollowed := true, recurses := true, apart := false, narrowed := true }
def MetrePlaceSpecUptoSaid : Prop := metrePlaceSpecUptoRow.holds Try.pinned (OpenSpec.upto metrePlaceSpecSpec)

/-- 'soundpostlaw10.MetreInverse', WHERE WHAT IT READS IS OF BULK AT MOST 1048576: true; the input reads as it did. -/
def metreInverseUptoRow : OpenClaim := { program := "ytdphnlcppaaccaa", sum := "441a15179ac06a862ca31b1e3c6bbe3df9527cf8ed395e4239d790ff0e425e2b", func := "soundpost/soundpostlaw10.MetreInverse", spec := "metreInverse", unfollowed := true, recurses := true, apart := false, narrowed := true }
def MetreInverseUptoSaid : Prop := metreInverseUptoRow.holds Try.pinned (OpenSpec.upto metreInverseSpec)

/-- 'soundpostlaw10.MetreOrder', WHERE WHAT IT READS IS OF BULK AT MOST 1048576: true; the input reads as it did. -/
def metreOrderUptoRow : OpenClaim := { program := "ytdphnlcppaaccaa", sum := "441a15179ac06a862ca31b1e3c6bbe3df9527cf8ed395e4239d790ff0e425e2b", func := "soundpost/soundpostlaw10.MetreOrder", spec := "metreOrder", unfollowed := true, recurses := true, apart := false, narrowed := true }
def MetreOrderUptoSaid : Prop := metreOrderUptoRow.holds Try.pinned (OpenSpec.upto metreOrderSpec)

/-- 'soundpostlaw10.MetreBars', WHERE WHAT IT READS IS OF BULK AT MOST 1048576: true; the input reads as it did. -/
def metreBarsUptoRow : OpenClaim := { program := "ytdphnlcppaaccaa", sum := "441a15179ac06a862ca31b1e3c6bbe3df9527cf8ed395e4239d790ff0e425e2b", func := "soundpost/soundpostlaw10.MetreBars", spec := "metreBars", unfollowed := true, recurses := true, apart := false, narrowed := true }
def MetreBarsUptoSaid : Prop := metreBarsUptoRow.holds Try.pinned (OpenSpec.upto metreBarsSpec)

/-- 'soundpostlaw10.MetreAgain', WHERE WHAT IT READS IS OF BULK AT MOST 1048576: true; the input reads as it did. -/
def metreAgainUptoRow : OpenClaim := { program := "ytdphnlcppaaccaa", sum := "441a15179ac06a862ca31b1e3c6bbe3df9527cf8ed395e4239d790ff0e425e2b", func := "soundpost/soundpostlaw10.MetreAgain", spec := "metreAgain", unfollowed := true, recurses := true, apart := false, narrowed := true }
def MetreAgainUptoSaid : Prop := metreAgainUptoRow.holds Try.pinned (OpenSpec.upto metreAgainSpec)

/-- 'soundpostlaw10.MetreLengths', WHERE WHAT IT READS IS OF BULK AT MOST 1048576: true; the input reads as it did. -/
def metreLengthsUptoRow : OpenClaim := { program := "ytdphnlcppaaccaa", sum := "441a15179ac06a862ca31b1e3c6bbe3df9527cf8ed395e4239d790ff0e425e2b", func := "soundpost/soundpostlaw10.MetreLengths", spec := "metreLengths", unfollowed := true, recurses := true, apart := false, narrowed := true }
def MetreLengthsUptoSaid : Prop := metreLengthsUptoRow.holds Try.pinned (OpenSpec.upto metreLengthsSpec)

end Rows
end Go.Proofs.Ytdphnlcppaaccaa
