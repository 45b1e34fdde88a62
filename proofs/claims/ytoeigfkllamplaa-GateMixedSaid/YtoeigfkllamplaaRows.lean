/-
  No cell of these rows narrows 'for every input' (looked for: loops, veiled, ifaces, maps, wideKeys, modest, calm, conditions, laid).
  DERIVED. THE GIVEN ROWS OF THIS SEAT. 3 by the template 'for every input the law returns true; each argument reads behind the call as it read before'; 0 by the template 'total and deterministic' (their statements: YtoeigfkllamplaaTotals.lean).
  GIVEN WITH THE SEED: the statements are not yours to turn. If you find one false, say at which input.
  Laid BY PROGRAM, IN A SANDBOX (cutbox-rows.mjs): the forced cells as the released guide's own fill.sh prints them over the translation cc30d3035d114b3c… (all of the seat's roots in one cut). By AI agents, Wed Nov 11 2026. No macro, syntax, notation, axiom, sorry.
-/
import Derived.Test.YtoeigfkllamplaaChecked
import GoSem.Claim
import GoSem.ClaimJoined
import GoSem.ClaimMapViews
import Derived.JoinedTies
import Derived.KernelRfl
namespace Go.Proofs.Ytoeigfkllamplaa
/- THE CELL 'sum', in the pinned program and in every row, IS THE sha256 OF THE DUMP (.gsa) THAT YtoeigfkllamplaaProg.lean LOADS. Nothing in Lean hashes anything: it is a label: what it is worth is what the hold of that sum in a sandbox is worth. -/
noncomputable def Try.pinned : Pinned := { name := "ytoeigfkllamplaa", sum := "cc30d3035d114b3cd4625190684a61cd001555e29f99f2bb19adf6c8491d93d6", checked := Try.checked }
namespace Rows
def none {H : Type} : Left H := { results := [], args := [] }

/-- 'soundpostlaw53.GateSpec': WHATEVER THE INPUT: true; the input reads as it did. -/
def gateSpecSpec : ChangeSpec := { name := "gateSpec", fn := fun _ => fun
  | [d1, d2] => { results := [.lit (.bool true)], args := [d1, d2] }
  | _ => none }
def gateSpecRow : OpenClaim := { program := "ytoeigfkllamplaa", sum := "cc30d3035d114b3cd4625190684a61cd001555e29f99f2bb19adf6c8491d93d6", func := "soundpost/soundpostlaw53.GateSpec", spec := "gateSpec", unfollowed := true, recurses := true, apart := false }
def GateSpecSaid : Prop := gateSpecRow.holds Try.pinned (OpenSpec.ofChange gateSpecSpec)

/-- ITS FALSE NEIGHBOUR: 'it returns false'. Refute it at one input. -/
def gateSpecWrong : ChangeSpec := { name := "gateSpec", fn := fun _ => fun
  | [d1, d2] => { results := [.lit (.bool false)], args := [d1, d2] }
  | _ => none }
def GateSpecWrongFalsely : Prop := gateSpecRow.holds Try.pinned (OpenSpec.ofChange gateSpecWrong)

/-- 'soundpostlaw53.GateBetween': WHATEVER THE INPUT: true; the input reads as it did. -/
def gateBetweenSpec : ChangeSpec := { name := "gateBetween", fn := fun _ => fun
  | [d1, d2] => { results := [.lit (.bool true)], args := [d1, d2] }
  | _ => none }
def gateBetweenRow : OpenClaim := { program := "ytoeigfkllamplaa", sum := "cc30d3035d114b3cd4625190684a61cd001555e29f99f2bb19adf6c8491d93d6", func := "soundpost/soundpostlaw53.GateBetween", spec := "gateBetween", unfollowed := true, recurses := true, apart := false }
def GateBetweenSaid : Prop := gateBetweenRow.holds Try.pinned (OpenSpec.ofChange gateBetweenSpec)

/-- ITS FALSE NEIGHBOUR: 'it returns false'. Refute it at one input. -/
def gateBetweenWrong : ChangeSpec := { name := "gateBetween", fn := fun _ => fun
  | [d1, d2] => { results := [.lit (.bool false)], args := [d1, d2] }
  | _ => none }
def GateBetweenWrongFalsely : Prop := gateBetweenRow.holds Try.pinned (OpenSpec.ofChange gateBetweenWrong)

/-- 'soundpostlaw53.GateMixed': WHATEVER THE INPUT: true; the input reads as it did. -/
def gateMixedSpec : ChangeSpec := { name := "gateMixed", fn := fun _ => fun
  | [d1, d2, d3, d4] => { results := [.lit (.bool true)], args := [d1, d2, d3, d4] }
  | _ => none }
def gateMixedRow : OpenClaim := { program := "ytoeigfkllamplaa", sum := "cc30d3035d114b3cd4625190684a61cd001555e29f99f2bb19adf6c8491d93d6", func := "soundpost/soundpostlaw53.GateMixed", spec := "gateMixed", unfollowed := true, recurses := true, apart := false }
def GateMixedSaid : Prop := gateMixedRow.holds Try.pinned (OpenSpec.ofChange gateMixedSpec)

/-- ITS FALSE NEIGHBOUR: 'it returns false'. Refute it at one input. -/
def gateMixedWrong : ChangeSpec := { name := "gateMixed", fn := fun _ => fun
  | [d1, d2, d3, d4] => { results := [.lit (.bool false)], args := [d1, d2, d3, d4] }
  | _ => none }
def GateMixedWrongFalsely : Prop := gateMixedRow.holds Try.pinned (OpenSpec.ofChange gateMixedWrong)

/- THE SECOND FORM. 'bulk': how many values and letters a reading holds, each counted each time it is reached (what is shared counts as often as it is met; a slice's spare places count too). A statement '..UptoSaid' is the law's where the arguments, and the package variables that the reading takes, are together of bulk at most 1048576: NARROWER than '..Said'. Prove '..Said' where nothing that the law and all that it calls make is longer than what came in: it says more and counts as full. Else prove '..UptoSaid'. A law counts once. -/
mutual
def uptoBulk {H : Type} : DataW H → Nat
  | .lit (.string bytes) => bytes.length + 1
  | .lit _ => 1
  | .nil => 1
  | .ptr d => uptoBulk d + 1
  | .slice elems spare => uptoBulkAll elems + uptoBulkAll spare + 1
  | .agg parts => uptoBulkAll parts + 1
  | .iface _ d => uptoBulk d + 1
  | .map entries => uptoBulkEntries entries + 1
  | .held _ => 1
def uptoBulkAll {H : Type} : List (DataW H) → Nat
  | [] => 0
  | d :: r => uptoBulk d + uptoBulkAll r
def uptoBulkEntries {H : Type} : List (Lit × DataW H) → Nat
  | [] => 0
  | x :: r => uptoBulkEntry x + uptoBulkEntries r
def uptoBulkEntry {H : Type} : Lit × DataW H → Nat
  | (.string bytes, d) => bytes.length + uptoBulk d + 1
  | (_, d) => uptoBulk d + 1
 end
def uptoSmall : (H : Type) → List (DataW H) → Bool := fun _ ds => decide (uptoBulkAll ds ≤ 1048576)
def OpenSpec.upto (s : _root_.Go.ChangeSpec) : _root_.Go.OpenSpec := { _root_.Go.OpenSpec.ofChange s with cond := some uptoSmall }

/-- 'soundpostlaw53.GateSpec', WHERE WHAT IT READS IS OF BULK AT MOST 1048576: true; the input reads as it did. -/
def gateSpecUptoRow : OpenClaim := { program := "ytoeigfkllamplaa", sum := "cc30d3035d114b3cd4625190684a61cd001555e29f99f2bb19adf6c8491d93d6", func := "soundpost/soundpostlaw53.GateSpec", spec := "gateSpec", unfollowed := true, recurses := true, apart := false, narrowed := true }
def GateSpecUptoSaid : Prop := gateSpecUptoRow.holds Try.pinned (OpenSpec.upto gateSpecSpec)

/-- 'soundpostlaw53.GateBetween', WHERE WHAT IT READS IS OF BULK AT MOST 1048576: true; the input reads as it did. -/
def gateBetweenUptoRow : OpenClaim := { program := "ytoeigfkllamplaa", sum := "cc30d3035d114b3cd4625190684a61cd001555e29f99f2bb19adf6c8491d93d6", func := "soundpost/soundpostlaw53.GateBetween", spec := "gateBetween", unfollowed := true, recurses := true, apart := false, narrowed := true }
def GateBetweenUptoSaid : Prop := gateBetweenUptoRow.holds Try.pinned (OpenSpec.upto gateBetweenSpec)

/-- 'soundpostlaw53.GateMixed', WHERE WHAT IT READS IS OF BULK AT MOST 1048576: true; the input reads as it did. -/
def gateMixedUptoRow : OpenClaim := { program := "ytoeigfkllamplaa", sum := "cc30d3035d114b3cd4625190684a61cd001555e29f99f2bb19adf6c8491d93d6", func := "soundpost/soundpostlaw53.GateMixed", spec := "gateMixed", unfollowed := true, recurses := true, apart := false, narrowed := true }
def GateMixedUptoSaid : Prop := gateMixedUptoRow.holds Try.pinned (OpenSpec.upto gateMixedSpec)

end Rows
end Go.Proofs.Ytoeigfkllamplaa
