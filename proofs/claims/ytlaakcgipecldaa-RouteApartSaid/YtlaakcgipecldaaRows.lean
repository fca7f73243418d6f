/-
  No cell of these rows narrows 'for every input' (looked for: loops, veiled, ifaces, maps, wideKeys, modest, calm, conditions, laid).
  DERIVED. THE GIVEN ROWS OF THIS SEAT. 6 by the template 'for every input the law returns true; each argument reads behind the call as it read before'; 0 by the template 'total and deterministic' (their statements: YtlaakcgipecldaaTotals.lean).
  GIVEN WITH THE SEED: the statements are not yours to turn. If you find one false, say at which input.
  Laid BY PROGRAM, IN A SANDBOX (cutbox-rows.mjs): the forced cells as the released guide's own fill.sh prints them over the translation 307c2314ede6a26d… (all of the seat's roots in one cut). By AI agents, Wed Nov 11 2026. No macro, syntax, notation, axiom, sorry.
-/
import Derived.Test.YtlaakcgipecldaaChecked
import GoSem.Claim
import GoSem.ClaimJoined
import GoSem.ClaimMapViews
import Derived.JoinedTies
import Derived.KernelRfl
namespace Go.Proofs.Ytlaakcgipecldaa
/- THE CELL 'sum', in the pinned program and in every row, IS THE sha256 OF THE DUMP (.gsa) THAT YtlaakcgipecldaaProg.lean LOADS. Nothing in Lean hashes anything: it is a label: what it is worth is what the hold of that sum in a sandbox is worth. -/
noncomputable def Try.pinned : Pinned := { name := "ytlaakcgipecldaa", sum := "307c2314ede6a26d67e854836e5d3feebd92f1de7317131e6c522767ba9275a0", checked := Try.checked }
namespace Rows
def none {H : Type} : Left H := { results := [], args := [] }

/-- 'escapementlaw22.PortQueues': WHATEVER THE INPUT: true; the input reads as it did. -/
def portQueuesSpec : ChangeSpec := { name := "portQueues", fn := fun _ => fun
  | [d1, d2, d3] => { results := [.lit (.bool true)], args := [d1, d2, d3] }
  | _ => none }
def portQueuesRow : OpenClaim := { program := "ytlaakcgipecldaa", sum := "307c2314ede6a26d67e854836e5d3feebd92f1de7317131e6c522767ba9275a0", func := "escapement/escapementlaw22.PortQueues", spec := "portQueues", unfollowed := true, recurses := true, apart := false }
def PortQueuesSaid : Prop := portQueuesRow.holds Try.pinned (OpenSpec.ofChange portQueuesSpec)

/-- ITS FALSE NEIGHBOUR: 'it returns false'. Refute it at one input. -/
def portQueuesWrong : ChangeSpec := { name := "portQueues", fn := fun _ => fun
  | [d1, d2, d3] => { results := [.lit (.bool false)], args := [d1, d2, d3] }
  | _ => none }
def PortQueuesWrongFalsely : Prop := portQueuesRow.holds Try.pinned (OpenSpec.ofChange portQueuesWrong)

/-- 'escapementlaw22.PortPlays': WHATEVER THE INPUT: true; the input reads as it did. -/
def portPlaysSpec : ChangeSpec := { name := "portPlays", fn := fun _ => fun
  | [d1, d2] => { results := [.lit (.bool true)], args := [d1, d2] }
  | _ => none }
def portPlaysRow : OpenClaim := { program := "ytlaakcgipecldaa", sum := "307c2314ede6a26d67e854836e5d3feebd92f1de7317131e6c522767ba9275a0", func := "escapement/escapementlaw22.PortPlays", spec := "portPlays", unfollowed := true, recurses := true, apart := false }
def PortPlaysSaid : Prop := portPlaysRow.holds Try.pinned (OpenSpec.ofChange portPlaysSpec)

/-- ITS FALSE NEIGHBOUR: 'it returns false'. Refute it at one input. -/
def portPlaysWrong : ChangeSpec := { name := "portPlays", fn := fun _ => fun
  | [d1, d2] => { results := [.lit (.bool false)], args := [d1, d2] }
  | _ => none }
def PortPlaysWrongFalsely : Prop := portPlaysRow.holds Try.pinned (OpenSpec.ofChange portPlaysWrong)

/-- 'escapementlaw22.PortSamples': WHATEVER THE INPUT: true; the input reads as it did. -/
def portSamplesSpec : ChangeSpec := { name := "portSamples", fn := fun _ => fun
  | [d1, d2, d3] => { results := [.lit (.bool true)], args := [d1, d2, d3] }
  | _ => none }
def portSamplesRow : OpenClaim := { program := "ytlaakcgipecldaa", sum := "307c2314ede6a26d67e854836e5d3feebd92f1de7317131e6c522767ba9275a0", func := "escapement/escapementlaw22.PortSamples", spec := "portSamples", unfollowed := true, recurses := true, apart := false }
def PortSamplesSaid : Prop := portSamplesRow.holds Try.pinned (OpenSpec.ofChange portSamplesSpec)

/-- ITS FALSE NEIGHBOUR: 'it returns false'. Refute it at one input. -/
def portSamplesWrong : ChangeSpec := { name := "portSamples", fn := fun _ => fun
  | [d1, d2, d3] => { results := [.lit (.bool false)], args := [d1, d2, d3] }
  | _ => none }
def PortSamplesWrongFalsely : Prop := portSamplesRow.holds Try.pinned (OpenSpec.ofChange portSamplesWrong)

/-- 'escapementlaw22.PortKnown': WHATEVER THE INPUT: true; the input reads as it did. -/
def portKnownSpec : ChangeSpec := { name := "portKnown", fn := fun _ => fun
  | [] => { results := [.lit (.bool true)], args := [] }
  | _ => none }
def portKnownRow : OpenClaim := { program := "ytlaakcgipecldaa", sum := "307c2314ede6a26d67e854836e5d3feebd92f1de7317131e6c522767ba9275a0", func := "escapement/escapementlaw22.PortKnown", spec := "portKnown", unfollowed := true, recurses := true, apart := false }
def PortKnownSaid : Prop := portKnownRow.holds Try.pinned (OpenSpec.ofChange portKnownSpec)

/-- ITS FALSE NEIGHBOUR: 'it returns false'. Refute it at one input. -/
def portKnownWrong : ChangeSpec := { name := "portKnown", fn := fun _ => fun
  | [] => { results := [.lit (.bool false)], args := [] }
  | _ => none }
def PortKnownWrongFalsely : Prop := portKnownRow.holds Try.pinned (OpenSpec.ofChange portKnownWrong)

/-- 'escapementlaw23.RoutePlays': WHATEVER THE INPUT: true; the input reads as it did. -/
def routePlaysSpec : ChangeSpec := { name := "routePlays", fn := fun _ => fun
  | [d1, d2] => { results := [.lit (.bool true)], args := [d1, d2] }
  | _ => none }
def routePlaysRow : OpenClaim := { program := "ytlaakcgipecldaa", sum := "307c2314ede6a26d67e854836e5d3feebd92f1de7317131e6c522767ba9275a0", func := "escapement/escapementlaw23.RoutePlays", spec := "routePlays", unfollowed := true, recurses := true, apart := false }
def RoutePlaysSaid : Prop := routePlaysRow.holds Try.pinned (OpenSpec.ofChange routePlaysSpec)

/-- ITS FALSE NEIGHBOUR: 'it returns false'. Refute it at one input. -/
def routePlaysWrong : ChangeSpec := { name := "routePlays", fn := fun _ => fun
  | [d1, d2] => { results := [.lit (.bool false)], args := [d1, d2] }
  | _ => none }
def RoutePlaysWrongFalsely : Prop := routePlaysRow.holds Try.pinned (OpenSpec.ofChange routePlaysWrong)

/-- 'escapementlaw23.RouteApart': WHATEVER THE INPUT: true; the input reads as it did. -/
def routeApartSpec : ChangeSpec := { name := "routeApart", fn := fun _ => fun
  | [d1, d2] => { results := [.lit (.bool true)], args := [d1, d2] }
  | _ => none }
def routeApartRow : OpenClaim := { program := "ytlaakcgipecldaa", sum := "307c2314ede6a26d67e854836e5d3feebd92f1de7317131e6c522767ba9275a0", func := "escapement/escapementlaw23.RouteApart", spec := "routeApart", unfollowed := true, recurses := true, apart := false }
def RouteApartSaid : Prop := routeApartRow.holds Try.pinned (OpenSpec.ofChange routeApartSpec)

/-- ITS FALSE NEIGHBOUR: 'it returns false'. Refute it at one input. -/
def routeApartWrong : ChangeSpec := { name := "routeApart", fn := fun _ => fun
  | [d1, d2] => { results := [.lit (.bool false)], args := [d1, d2] }
  | _ => none }
def RouteApartWrongFalsely : Prop := routeApartRow.holds Try.pinned (OpenSpec.ofChange routeApartWrong)

/- THE SECOND FORM. 'bulk': how many values and letters a reading holds, each counted each time it is reached (what is shared counts as often as it is met; a slice's spare places count too). A statement '..UptoSaid' is the law's where the arguments, and the package variables that the reading takes, are together of bulk at most 1048576: NARROWER than '..Said'. Prove '..Said' where nothing that the law and all that it calls make is longer than what came in: it says more and counts as full. Else prove '..UptoSaid'. A law counts once. -/
mutual
def uptoBulk {H : Type} : DataW H → Nat
  | .lit (.string bytes) => bytes.length + 1
  | .lit _ => 1
  | .nil => 1
  | .ptr d => uptoBulk d + 1
  | .slice elems spare => uptoBulkAll elems + uptoBulkAll spare + 1
  | .agg parts => uptoBulkAll parts + 1
  | .iface _ d => uptoBulk d + 1
  | .map entries => uptoBulkEntries entries + 1
  | .held _ => 1
def uptoBulkAll {H : Type} : List (DataW H) → Nat
  | [] => 0
  | d :: r => uptoBulk d + uptoBulkAll r
def uptoBulkEntries {H : Type} : List (Lit × DataW H) → Nat
  | [] => 0
  | x :: r => uptoBulkEntry x + uptoBulkEntries r
def uptoBulkEntry {H : Type} : Lit × DataW H → Nat
  | (.string bytes, d) => bytes.length + uptoBulk d + 1
  | (_, d) => uptoBulk d + 1
 end
def uptoSmall : (H : Type) → List (DataW H) → Bool := fun _ ds => decide (uptoBulkAll ds ≤ 1048576)
def OpenSpec.upto (s : _root_.Go.ChangeSpec) : _root_.Go.OpenSpec := { _root_.Go.OpenSpec.ofChange s with cond := some uptoSmall }

/-- 'escapementlaw22.PortQueues', WHERE WHAT IT READS IS OF BULK AT MOST 1048576: true; the input reads as it did. -/
def portQueuesUptoRow : OpenClaim := { program := "ytlaakcgipecldaa", sum := "307c2314ede6a26d67e854836e5d3feebd92f1de7317131e6c522767ba9275a0", func := "escapement/escapementlaw22.PortQueues", spec := "portQueues", unfollowed := true, recurses := true, apart := false, narrowed := true }
def PortQueuesUptoSaid : Prop := portQueuesUptoRow.holds Try.pinned (OpenSpec.upto portQueuesSpec)

/-- 'escapementlaw22.PortPlays', WHERE WHAT IT READS IS OF BULK AT MOST 1048576: true; the input reads as it did. -/
def portPlaysUptoRow : OpenClaim := { program := "ytlaakcgipecldaa", sum := "307c2314ede6a26d67e854836e5d3feebd92f1de7317131e6c522767ba9275a0", func := "escapement/escapementlaw22.PortPlays", spec := "portPlays", unfollowed := true, recurses := true, apart := false, narrowed := true }
def PortPlaysUptoSaid : Prop := portPlaysUptoRow.holds Try.pinned (OpenSpec.upto portPlaysSpec)

/-- 'escapementlaw22.PortSamples', WHERE WHAT IT READS IS OF BULK AT MOST 1048576: true; the input reads as it did. -/
def portSamplesUptoRow : OpenClaim := { program := "ytlaakcgipecldaa", sum := "307c2314ede6a26d67e854836e5d3feebd92f1de7317131e6c522767ba9275a0", func := "escapement/escapementlaw22.PortSamples", spec := "portSamples", unfollowed := true, recurses := true, apart := false, narrowed := true }
def PortSamplesUptoSaid : Prop := portSamplesUptoRow.holds Try.pinned (OpenSpec.upto portSamplesSpec)

/-- 'escapementlaw22.PortKnown', WHERE WHAT IT READS IS OF BULK AT MOST 1048576: true; the input reads as it did. -/
def portKnownUptoRow : OpenClaim := { program := "ytlaakcgipecldaa", sum := "307c2314ede6a26d67e854836e5d3feebd92f1de7317131e6c522767ba9275a0", func := "escapement/escapementlaw22.PortKnown", spec := "portKnown", unfollowed := true, recurses := true, apart := false, narrowed := true }
def PortKnownUptoSaid : Prop := portKnownUptoRow.holds Try.pinned (OpenSpec.upto portKnownSpec)

/-- 'escapementlaw23.RoutePlays', WHERE WHAT IT READS IS OF BULK AT MOST 1048576: true; the input reads as it did. -/
def routePlaysUptoRow : OpenClaim := { program := "ytlaakcgipecldaa", sum := "307c2314ede6a26d67e854836e5d3feebd92f1de7317131e6c522767ba9275a0", func := "escapement/escapementlaw23.RoutePlays", spec := "routePlays", unfollowed := true, recurses := true, apart := false, narrowed := true }
def RoutePlaysUptoSaid : Prop := routePlaysUptoRow.holds Try.pinned (OpenSpec.upto routePlaysSpec)

/-- 'escapementlaw23.RouteApart', WHERE WHAT IT READS IS OF BULK AT MOST 1048576: true; the input reads as it did. -/
def routeApartUptoRow : OpenClaim := { program := "ytlaakcgipecldaa", sum := "307c2314ede6a26d67e854836e5d3feebd92f1de7317131e6c522767ba9275a0", func := "escapement/escapementlaw23.RouteApart", spec := "routeApart", unfollowed := true, recurses := true, apart := false, narrowed := true }
def RouteApartUptoSaid : Prop := routeApartUptoRow.holds Try.pinned (OpenSpec.upto routeApartSpec)

end Rows
end Go.Proofs.Ytlaakcgipecldaa
