/-
  No cell of these rows narrows 'for every input' (looked for: loops, veiled, ifaces, maps, wideKeys, modest, calm, conditions, laid).
  DERIVED. THE GIVEN ROWS OF THIS SEAT. 4 by the template 'for every input the law returns true; each argument reads behind the call as it read before'; 0 by the template 'total and deterministic' (their statements: YthejgbagpnoadaaTotals.lean).
  GIVEN WITH THE SEED: the statements are not yours to turn. If you find one false, say at which input.
  Laid BY PROGRAM, IN A SANDBOX (cutbox-rows.mjs): the forced cells as the released guide's own fill.sh prints them over the translation 7ddfee9e22eeea0d… (all of the seat's roots in one cut). By AI agents, Wed Nov 11 2026. No macro, syntax, notation, axiom, sorry.
-/
import Derived.Test.YthejgbagpnoadaaChecked
import GoSem.Claim
import GoSem.ClaimJoined
import GoSem.ClaimMapViews
import Derived.JoinedTies
import Derived.KernelRfl
namespace Go.Proofs.Ythejgbagpnoadaa
/- THE CELL 'sum', in the pinned program and in every row, IS THE sha256 OF THE DUMP (.gsa) THAT YthejgbagpnoadaaProg.lean LOADS. Nothing in Lean hashes anything: it is a label: what it is worth is what the hold of that sum in a sandbox is worth. -/
noncomputable def Try.pinned : Pinned := { name := "ythejgbagpnoadaa", sum := "7ddfee9e22eeea0d143aababbaac62f2f1e7e288fd2805e83a0b13741b40ea12", checked := Try.checked }
namespace Rows
def none {H : Type} : Left H := { results := [], args := [] }

/-- 'escapementlaw24.HealthPlays': WHATEVER THE INPUT: true; the input reads as it did. -/
def healthPlaysSpec : ChangeSpec := { name := "healthPlays", fn := fun _ => fun
  | [d] => { results := [.lit (.bool true)], args := [d] }
  | _ => none }
def healthPlaysRow : OpenClaim := { program := "ythejgbagpnoadaa", sum := "7ddfee9e22eeea0d143aababbaac62f2f1e7e288fd2805e83a0b13741b40ea12", func := "escapement/escapementlaw24.HealthPlays", spec := "healthPlays", apart := false }
def HealthPlaysSaid : Prop := healthPlaysRow.holds Try.pinned (OpenSpec.ofChange healthPlaysSpec)

/-- ITS FALSE NEIGHBOUR: 'it returns false'. Refute it at one input. -/
def healthPlaysWrong : ChangeSpec := { name := "healthPlays", fn := fun _ => fun
  | [d] => { results := [.lit (.bool false)], args := [d] }
  | _ => none }
def HealthPlaysWrongFalsely : Prop := healthPlaysRow.holds Try.pinned (OpenSpec.ofChange healthPlaysWrong)

/-- 'escapementlaw24.HealthAlone': WHATEVER THE INPUT: true; the input reads as it did. -/
def healthAloneSpec : ChangeSpec := { name := "healthAlone", fn := fun _ => fun
  | [d1, d2, d3] => { results := [.lit (.bool true)], args := [d1, d2, d3] }
  | _ => none }
def healthAloneRow : OpenClaim := { program := "ythejgbagpnoadaa", sum := "7ddfee9e22eeea0d143aababbaac62f2f1e7e288fd2805e83a0b13741b40ea12", func := "escapement/escapementlaw24.HealthAlone", spec := "healthAlone", apart := false }
def HealthAloneSaid : Prop := healthAloneRow.holds Try.pinned (OpenSpec.ofChange healthAloneSpec)

/-- ITS FALSE NEIGHBOUR: 'it returns false'. Refute it at one input. -/
def healthAloneWrong : ChangeSpec := { name := "healthAlone", fn := fun _ => fun
  | [d1, d2, d3] => { results := [.lit (.bool false)], args := [d1, d2, d3] }
  | _ => none }
def HealthAloneWrongFalsely : Prop := healthAloneRow.holds Try.pinned (OpenSpec.ofChange healthAloneWrong)

/-- 'escapementlaw24.HealthPatience': WHATEVER THE INPUT: true; the input reads as it did. -/
def healthPatienceSpec : ChangeSpec := { name := "healthPatience", fn := fun _ => fun
  | [d1, d2, d3] => { results := [.lit (.bool true)], args := [d1, d2, d3] }
  | _ => none }
def healthPatienceRow : OpenClaim := { program := "ythejgbagpnoadaa", sum := "7ddfee9e22eeea0d143aababbaac62f2f1e7e288fd2805e83a0b13741b40ea12", func := "escapement/escapementlaw24.HealthPatience", spec := "healthPatience", apart := false }
def HealthPatienceSaid : Prop := healthPatienceRow.holds Try.pinned (OpenSpec.ofChange healthPatienceSpec)

/-- ITS FALSE NEIGHBOUR: 'it returns false'. Refute it at one input. -/
def healthPatienceWrong : ChangeSpec := { name := "healthPatience", fn := fun _ => fun
  | [d1, d2, d3] => { results := [.lit (.bool false)], args := [d1, d2, d3] }
  | _ => none }
def HealthPatienceWrongFalsely : Prop := healthPatienceRow.holds Try.pinned (OpenSpec.ofChange healthPatienceWrong)

/-- 'escapementlaw24.HealthKnown': WHATEVER THE INPUT: true; the input reads as it did. -/
def healthKnownSpec : ChangeSpec := { name := "healthKnown", fn := fun _ => fun
  | [] => { results := [.lit (.bool true)], args := [] }
  | _ => none }
def healthKnownRow : OpenClaim := { program := "ythejgbagpnoadaa", sum := "7ddfee9e22eeea0d143aababbaac62f2f1e7e288fd2805e83a0b13741b40ea12", func := "escapement/escapementlaw24.HealthKnown", spec := "healthKnown", apart := false }
def HealthKnownSaid : Prop := healthKnownRow.holds Try.pinned (OpenSpec.ofChange healthKnownSpec)

/-- ITS FALSE NEIGHBOUR: 'it returns false'. Refute it at one input. -/
def healthKnownWrong : ChangeSpec := { name := "healthKnown", fn := fun _ => fun
  | [] => { results := [.lit (.bool false)], args := [] }
  | _ => none }
def HealthKnownWrongFalsely : Prop := healthKnownRow.holds Try.pinned (OpenSpec.ofChange healthKnownWrong)

/- THE SECOND FORM. 'bulk': how many values and letters a reading holds, each counted each time it is reached (what is shared counts as often as it is met; a slice's spare places count too). A statement '..UptoSaid' is the law's where the arguments, and the package variables that the reading takes, are together of bulk at most 1048576: NARROWER than '..Said'. Prove '..Said' where nothing that the law and all that it calls make is longer than what came in: it says more and counts as full. Else prove '..UptoSaid'. A law counts once. -/
mutual
def uptoBulk {H : Type} : DataW H → Nat
  | .lit (.string bytes) => bytes.length + 1
  | .lit _ => 1
  | .nil => 1
  | .ptr d => uptoBulk d + 1
  | .slice elems spare => uptoBulkAll elems + uptoBulkAll spare + 1
  | .agg parts => uptoBulkAll parts + 1
  | .iface _ d => uptoBulk d + 1
  | .map entries => uptoBulkEntries entries + 1
  | .held _ => 1
def uptoBulkAll {H : Type} : List (DataW H) → Nat
  | [] => 0
  | d :: r => uptoBulk d + uptoBulkAll r
def uptoBulkEntries {H : Type} : List (Lit × DataW H) → Nat
  | [] => 0
  | x :: r => uptoBulkEntry x + uptoBulkEntries r
def uptoBulkEntry {H : Type} : Lit × DataW H → Nat
  | (.string bytes, d) => bytes.length + uptoBulk d + 1
  | (_, d) => uptoBulk d + 1
 end
def uptoSmall : (H : Type) → List (DataW H) → Bool := fun _ ds => decide (uptoBulkAll ds ≤ 1048576)
def OpenSpec.upto (s : _root_.Go.ChangeSpec) : _root_.Go.OpenSpec := { _root_.Go.OpenSpec.ofChange s with cond := some uptoSmall }

/-- 'escapementlaw24.HealthPlays', WHERE WHAT IT READS IS OF BULK AT MOST 1048576: true; the input reads as it did. -/
def healthPlaysUptoRow : OpenClaim := { program := "ythejgbagpnoadaa", sum := "7ddfee9e22eeea0d143aababbaac62f2f1e7e288fd2805e83a0b13741b40ea12", func := "escapement/escapementlaw24.HealthPlays", spec := "healthPlays", apart := false, narrowed := true }
def HealthPlaysUptoSaid : Prop := healthPlaysUptoRow.holds Try.pinned (OpenSpec.upto healthPlaysSpec)

/-- 'escapementlaw24.HealthAlone', WHERE WHAT IT READS IS OF BULK AT MOST 1048576: true; the input reads as it did. -/
def healthAloneUptoRow : OpenClaim := { program := "ythejgbagpnoadaa", sum := "7ddfee9e22eeea0d143aababbaac62f2f1e7e288fd2805e83a0b13741b40ea12", func := "escapement/escapementlaw24.HealthAlone", spec := "healthAlone", apart := false, narrowed := true }
def HealthAloneUptoSaid : Prop := healthAloneUptoRow.holds Try.pinned (OpenSpec.upto healthAloneSpec)

/-- 'escapementlaw24.HealthPatience', WHERE WHAT IT READS IS OF BULK AT MOST 1048576: true; the input reads as it did. -/
def healthPatienceUptoRow : OpenClaim := { program := "ythejgbagpnoadaa", sum := "7ddfee9e22eeea0d143aababbaac62f2f1e7e288fd2805e83a0b13741b40ea12", func := "escapement/escapementlaw24.HealthPatience", spec := "healthPatience", apart := false, narrowed := true }
def HealthPatienceUptoSaid : Prop := healthPatienceUptoRow.holds Try.pinned (OpenSpec.upto healthPatienceSpec)

/-- 'escapementlaw24.HealthKnown', WHERE WHAT IT READS IS OF BULK AT MOST 1048576: true; the input reads as it did. -/
def healthKnownUptoRow : OpenClaim := { program := "ythejgbagpnoadaa", sum := "7ddfee9e22eeea0d143aababbaac62f2f1e7e288fd2805e83a0b13741b40ea12", func := "escapement/escapementlaw24.HealthKnown", spec := "healthKnown", apart := false, narrowed := true }
def HealthKnownUptoSaid : Prop := healthKnownUptoRow.holds Try.pinned (OpenSpec.upto healthKnownSpec)

end Rows
end Go.Proofs.Ythejgbagpnoadaa
