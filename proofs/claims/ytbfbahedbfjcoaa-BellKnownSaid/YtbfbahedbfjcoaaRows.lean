/-
  No cell of these rows narrows 'for every input' (looked for: loops, veiled, ifaces, maps, wideKeys, modest, calm, conditions, laid).
  DERIVED. THE GIVEN ROWS OF THIS SEAT. 4 by the template 'for every input the law returns true; each argument reads behind the call as it read before'; 0 by the template 'total and deterministic' (their statements: YtbfbahedbfjcoaaTotals.lean).
  GIVEN WITH THE SEED: the statements are not yours to turn. If you find one false, say at which input.
  Laid BY PROGRAM, IN A SANDBOX (cutbox-rows.mjs): the forced cells as the released guide's own fill.sh prints them over the translation bf555c2258d60398… (all of the seat's roots in one cut). By AI agents, Wed Nov 11 2026. No macro, syntax, notation, axiom, sorry.
-/
import Derived.Test.YtbfbahedbfjcoaaChecked
import GoSem.Claim
import GoSem.ClaimJoined
import GoSem.ClaimMapViews
import Derived.JoinedTies
import Derived.KernelRfl
namespace Go.Proofs.Ytbfbahedbfjcoaa
/- THE CELL 'sum', in the pinned program and in every row, IS THE sha256 OF THE DUMP (.gsa) THAT YtbfbahedbfjcoaaProg.lean LOADS. Nothing in Lean hashes anything: it is a label: what it is worth is what the hold of that sum in a sandbox is worth. -/
noncomputable def Try.pinned : Pinned := { name := "ytbfbahedbfjcoaa", sum := "bf555c2258d60398a08d7bc79c8b17766738f991abedac751b79f01ad2c74882", checked := Try.checked }
namespace Rows
def none {H : Type} : Left H := { results := [], args := [] }

/-- 'escapementlaw03.BellOnce': WHATEVER THE INPUT: true; the input reads as it did. -/
def bellOnceSpec : ChangeSpec := { name := "bellOnce", fn := fun _ => fun
  | [d] => { results := [.lit (.bool true)], args := [d] }
  | _ => none }
def bellOnceRow : OpenClaim := { program := "ytbfbahedbfjcoaa", sum := "bf555c2258d60398a08d7bc79c8b17766738f991abedac751b79f01ad2c74882", func := "escapement/escapementlaw03.BellOnce", spec := "bellOnce", apart := false }
def BellOnceSaid : Prop := bellOnceRow.holds Try.pinned (OpenSpec.ofChange bellOnceSpec)

/-- ITS FALSE NEIGHBOUR: 'it returns false'. Refute it at one input. -/
def bellOnceWrong : ChangeSpec := { name := "bellOnce", fn := fun _ => fun
  | [d] => { results := [.lit (.bool false)], args := [d] }
  | _ => none }
def BellOnceWrongFalsely : Prop := bellOnceRow.holds Try.pinned (OpenSpec.ofChange bellOnceWrong)

/-- 'escapementlaw03.BellNext': WHATEVER THE INPUT: true; the input reads as it did. -/
def bellNextSpec : ChangeSpec := { name := "bellNext", fn := fun _ => fun
  | [d] => { results := [.lit (.bool true)], args := [d] }
  | _ => none }
def bellNextRow : OpenClaim := { program := "ytbfbahedbfjcoaa", sum := "bf555c2258d60398a08d7bc79c8b17766738f991abedac751b79f01ad2c74882", func := "escapement/escapementlaw03.BellNext", spec := "bellNext", apart := false }
def BellNextSaid : Prop := bellNextRow.holds Try.pinned (OpenSpec.ofChange bellNextSpec)

/-- ITS FALSE NEIGHBOUR: 'it returns false'. Refute it at one input. -/
def bellNextWrong : ChangeSpec := { name := "bellNext", fn := fun _ => fun
  | [d] => { results := [.lit (.bool false)], args := [d] }
  | _ => none }
def BellNextWrongFalsely : Prop := bellNextRow.holds Try.pinned (OpenSpec.ofChange bellNextWrong)

/-- 'escapementlaw03.BellPlays': WHATEVER THE INPUT: true; the input reads as it did. -/
def bellPlaysSpec : ChangeSpec := { name := "bellPlays", fn := fun _ => fun
  | [d] => { results := [.lit (.bool true)], args := [d] }
  | _ => none }
def bellPlaysRow : OpenClaim := { program := "ytbfbahedbfjcoaa", sum := "bf555c2258d60398a08d7bc79c8b17766738f991abedac751b79f01ad2c74882", func := "escapement/escapementlaw03.BellPlays", spec := "bellPlays", apart := false }
def BellPlaysSaid : Prop := bellPlaysRow.holds Try.pinned (OpenSpec.ofChange bellPlaysSpec)

/-- ITS FALSE NEIGHBOUR: 'it returns false'. Refute it at one input. -/
def bellPlaysWrong : ChangeSpec := { name := "bellPlays", fn := fun _ => fun
  | [d] => { results := [.lit (.bool false)], args := [d] }
  | _ => none }
def BellPlaysWrongFalsely : Prop := bellPlaysRow.holds Try.pinned (OpenSpec.ofChange bellPlaysWrong)

/-- 'escapementlaw03.BellKnown': WHATEVER THE INPUT: true; the input reads as it did. -/
def bellKnownSpec : ChangeSpec := { name := "bellKnown", fn := fun _ => fun
  | [] => { results := [.lit (.bool true)], args := [] }
  | _ => none }
def bellKnownRow : OpenClaim := { program := "ytbfbahedbfjcoaa", sum := "bf555c2258d60398a08d7bc79c8b17766738f991abedac751b79f01ad2c74882", func := "escapement/escapementlaw03.BellKnown", spec := "bellKnown", apart := false }
def BellKnownSaid : Prop := bellKnownRow.holds Try.pinned (OpenSpec.ofChange bellKnownSpec)

/-- ITS FALSE NEIGHBOUR: 'it returns false'. Refute it at one input. -/
def bellKnownWrong : ChangeSpec := { name := "bellKnown", fn := fun _ => fun
  | [] => { results := [.lit (.bool false)], args := [] }
  | _ => none }
def BellKnownWrongFalsely : Prop := bellKnownRow.holds Try.pinned (OpenSpec.ofChange bellKnownWrong)

/- THE SECOND FORM. 'bulk': how many values and letters a reading holds, each counted each time it is reached (what is shared counts as often as it is met; a slice's spare places count too). A statement '..UptoSaid' is the law's where the arguments, and the package variables that the reading takes, are together of bulk at most 1048576: NARROWER than '..Said'. Prove '..Said' where nothing that the law and all that it calls make is longer than what came in: it says more and counts as full. Else prove '..UptoSaid'. A law counts once. -/
mutual
def uptoBulk {H : Type} : DataW H → Nat
  | .lit (.string bytes) => bytes.length + 1
  | .lit _ => 1
  | .nil => 1
  | .ptr d => uptoBulk d + 1
  | .slice elems spare => uptoBulkAll elems + uptoBulkAll spare + 1
  | .agg parts => uptoBulkAll parts + 1
  | .iface _ d => uptoBulk d + 1
  | .map entries => uptoBulkEntries entries + 1
  | .held _ => 1
def uptoBulkAll {H : Type} : List (DataW H) → Nat
  | [] => 0
  | d :: r => uptoBulk d + uptoBulkAll r
def uptoBulkEntries {H : Type} : List (Lit × DataW H) → Nat
  | [] => 0
  | x :: r => uptoBulkEntry x + uptoBulkEntries r
def uptoBulkEntry {H : Type} : Lit × DataW H → Nat
  | (.string bytes, d) => bytes.length + uptoBulk d + 1
  | (_, d) => uptoBulk d + 1
 end
def uptoSmall : (H : Type) → List (DataW H) → Bool := fun _ ds => decide (uptoBulkAll ds ≤ 1048576)
def OpenSpec.upto (s : _root_.Go.ChangeSpec) : _root_.Go.OpenSpec := { _root_.Go.OpenSpec.ofChange s with cond := some uptoSmall }

/-- 'escapementlaw03.BellOnce', WHERE WHAT IT READS IS OF BULK AT MOST 1048576: true; the input reads as it did. -/
def bellOnceUptoRow : OpenClaim := { program := "ytbfbahedbfjcoaa", sum := "bf555c2258d60398a08d7bc79c8b17766738f991abedac751b79f01ad2c74882", func := "escapement/escapementlaw03.BellOnce", spec := "bellOnce", apart := false, narrowed := true }
def BellOnceUptoSaid : Prop := bellOnceUptoRow.holds Try.pinned (OpenSpec.upto bellOnceSpec)

/-- 'escapementlaw03.BellNext', WHERE WHAT IT READS IS OF BULK AT MOST 1048576: true; the input reads as it did. -/
def bellNextUptoRow : OpenClaim := { program := "ytbfbahedbfjcoaa", sum := "bf555c2258d60398a08d7bc79c8b17766738f991abedac751b79f01ad2c74882", func := "escapement/escapementlaw03.BellNext", spec := "bellNext", apart := false, narrowed := true }
def BellNextUptoSaid : Prop := bellNextUptoRow.holds Try.pinned (OpenSpec.upto bellNextSpec)

/-- 'escapementlaw03.BellPlays', WHERE WHAT IT READS IS OF BULK AT MOST 1048576: true; the input reads as it did. -/
def bellPlaysUptoRow : OpenClaim := { program := "ytbfbahedbfjcoaa", sum := "bf555c2258d60398a08d7bc79c8b17766738f991abedac751b79f01ad2c74882", func := "escapement/escapementlaw03.BellPlays", spec := "bellPlays", apart := false, narrowed := true }
def BellPlaysUptoSaid : Prop := bellPlaysUptoRow.holds Try.pinned (OpenSpec.upto bellPlaysSpec)

/-- 'escapementlaw03.BellKnown', WHERE WHAT IT READS IS OF BULK AT MOST 1048576: true; the input reads as it did. -/
def bellKnownUptoRow : OpenClaim := { program := "ytbfbahedbfjcoaa", sum := "bf555c2258d60398a08d7bc79c8b17766738f991abedac751b79f01ad2c74882", func := "escapement/escapementlaw03.BellKnown", spec := "bellKnown", apart := false, narrowed := true }
def BellKnownUptoSaid : Prop := bellKnownUptoRow.holds Try.pinned (OpenSpec.upto bellKnownSpec)

end Rows
end Go.Proofs.Ytbfbahedbfjcoaa
