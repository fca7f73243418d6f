/-
  No cell of these rows narrows 'for every input' (looked for: loops, veiled, ifaces, maps, wideKeys, modest, calm, conditions, laid).
  DERIVED. THE GIVEN ROWS OF THIS SEAT. 10 by the template 'for every input the law returns true; each argument reads behind the call as it read before'; 0 by the template 'total and deterministic' (their statements: YtclbbnoinnmdnaaTotals.lean).
  GIVEN WITH THE SEED: the statements are not yours to turn. If you find one false, say at which input.
  Laid BY PROGRAM, IN A SANDBOX (cutbox-rows.mjs): the forced cells as the released guide's own fill.sh prints them over the translation aa9c5c26aaefe982… (all of the seat's roots in one cut). By AI agents, Wed Nov 11 2026. No macro, syntax, notation, axiom, sorry.
-/
import Derived.Test.YtclbbnoinnmdnaaChecked
import GoSem.Claim
import GoSem.ClaimJoined
import GoSem.ClaimMapViews
import Derived.JoinedTies
import Derived.KernelRfl
namespace Go.Proofs.Ytclbbnoinnmdnaa
/- THE CELL 'sum', in the pinned program and in every row, IS THE sha256 OF THE DUMP (.gsa) THAT YtclbbnoinnmdnaaProg.lean LOADS. Nothing in Lean hashes anything: it is a label: what it is worth is what the hold of that sum in a sandbox is worth. -/
noncomputable def Try.pinned : Pinned := { name := "ytclbbnoinnmdnaa", sum := "aa9c5c26aaefe9829dd66442241ca5f4370fc2e41a6875a1e33972ddbeecbb21", checked := Try.checked }
namespace Rows
def none {H : Type} : Left H := { results := [], args := [] }

/-- 'escapementlaw14.SporePlays': WHATEVER THE INPUT: true; the input reads as it did. -/
def sporePlaysSpec : ChangeSpec := { name := "sporePlays", fn := fun _ => fun
  | [d1, d2] => { results := [.lit (.bool true)], args := [d1, d2] }
  | _ => none }
def sporePlaysRow : OpenClaim := { program := "ytclbbnoinnmdnaa", sum := "aa9c5c26aaefe9829dd66442241ca5f4370fc2e41a6875a1e33972ddbeecbb21", func := "escapement/escapementlaw14.SporePlays", spec := "sporePlays", unfollowed := true, recurses := true, apart := false }
def SporePlaysSaid : Prop := sporePlaysRow.holds Try.pinned (OpenSpec.ofChange sporePlaysSpec)

/-- ITS FALSE NEIGHBOUR: 'it returns false'. Refute it at one input. -/
def sporePlaysWrong : ChangeSpec := { name := "sporePlays", fn := fun _ => fun
  | [d1, d2] => { results := [.lit (.bool false)], args := [d1, d2] }
  | _ => none }
def SporePlaysWrongFalsely : Prop := sporePlaysRow.holds Try.pinned (OpenSpec.ofChange sporePlaysWrong)

/-- 'escapementlaw14.SporeApart': WHATEVER THE INPUT: true; the input reads as it did. -/
def sporeApartSpec : ChangeSpec := { name := "sporeApart", fn := fun _ => fun
  | [d1, d2] => { results := [.lit (.bool true)], args := [d1, d2] }
  | _ => none }
def sporeApartRow : OpenClaim := { program := "ytclbbnoinnmdnaa", sum := "aa9c5c26aaefe9829dd66442241ca5f4370fc2e41a6875a1e33972ddbeecbb21", func := "escapement/escapementlaw14.SporeApart", spec := "sporeApart", unfollowed := true, recurses := true, apart := false }
def SporeApartSaid : Prop := sporeApartRow.holds Try.pinned (OpenSpec.ofChange sporeApartSpec)

/-- ITS FALSE NEIGHBOUR: 'it returns false'. Refute it at one input. -/
def sporeApartWrong : ChangeSpec := { name := "sporeApart", fn := fun _ => fun
  | [d1, d2] => { results := [.lit (.bool false)], args := [d1, d2] }
  | _ => none }
def SporeApartWrongFalsely : Prop := sporeApartRow.holds Try.pinned (OpenSpec.ofChange sporeApartWrong)

/-- 'escapementlaw14.SporeMany': WHATEVER THE INPUT: true; the input reads as it did. -/
def sporeManySpec : ChangeSpec := { name := "sporeMany", fn := fun _ => fun
  | [d1, d2, d3] => { results := [.lit (.bool true)], args := [d1, d2, d3] }
  | _ => none }
def sporeManyRow : OpenClaim := { program := "ytclbbnoinnmdnaa", sum := "aa9c5c26aaefe9829dd66442241ca5f4370fc2e41a6875a1e33972ddbeecbb21", func := "escapement/escapementlaw14.SporeMany", spec := "sporeMany", unfollowed := true, recurses := true, apart := false }
def SporeManySaid : Prop := sporeManyRow.holds Try.pinned (OpenSpec.ofChange sporeManySpec)

/-- ITS FALSE NEIGHBOUR: 'it returns false'. Refute it at one input. -/
def sporeManyWrong : ChangeSpec := { name := "sporeMany", fn := fun _ => fun
  | [d1, d2, d3] => { results := [.lit (.bool false)], args := [d1, d2, d3] }
  | _ => none }
def SporeManyWrongFalsely : Prop := sporeManyRow.holds Try.pinned (OpenSpec.ofChange sporeManyWrong)

/-- 'escapementlaw14.SporeKnown': WHATEVER THE INPUT: true; the input reads as it did. -/
def sporeKnownSpec : ChangeSpec := { name := "sporeKnown", fn := fun _ => fun
  | [] => { results := [.lit (.bool true)], args := [] }
  | _ => none }
def sporeKnownRow : OpenClaim := { program := "ytclbbnoinnmdnaa", sum := "aa9c5c26aaefe9829dd66442241ca5f4370fc2e41a6875a1e33972ddbeecbb21", func := "escapement/escapementlaw14.SporeKnown", spec := "sporeKnown", unfollowed := true, recurses := true, apart := false }
def SporeKnownSaid : Prop := sporeKnownRow.holds Try.pinned (OpenSpec.ofChange sporeKnownSpec)

/-- ITS FALSE NEIGHBOUR: 'it returns false'. Refute it at one input. -/
def sporeKnownWrong : ChangeSpec := { name := "sporeKnown", fn := fun _ => fun
  | [] => { results := [.lit (.bool false)], args := [] }
  | _ => none }
def SporeKnownWrongFalsely : Prop := sporeKnownRow.holds Try.pinned (OpenSpec.ofChange sporeKnownWrong)

/-- 'escapementlaw07.SupplyOf': WHATEVER THE INPUT: true; the input reads as it did. -/
def supplyOfSpec : ChangeSpec := { name := "supplyOf", fn := fun _ => fun
  | [d1, d2, d3] => { results := [.lit (.bool true)], args := [d1, d2, d3] }
  | _ => none }
def supplyOfRow : OpenClaim := { program := "ytclbbnoinnmdnaa", sum := "aa9c5c26aaefe9829dd66442241ca5f4370fc2e41a6875a1e33972ddbeecbb21", func := "escapement/escapementlaw07.SupplyOf", spec := "supplyOf", apart := false }
def SupplyOfSaid : Prop := supplyOfRow.holds Try.pinned (OpenSpec.ofChange supplyOfSpec)

/-- ITS FALSE NEIGHBOUR: 'it returns false'. Refute it at one input. -/
def supplyOfWrong : ChangeSpec := { name := "supplyOf", fn := fun _ => fun
  | [d1, d2, d3] => { results := [.lit (.bool false)], args := [d1, d2, d3] }
  | _ => none }
def SupplyOfWrongFalsely : Prop := supplyOfRow.holds Try.pinned (OpenSpec.ofChange supplyOfWrong)

/-- 'escapementlaw07.SupplyWait': WHATEVER THE INPUT: true; the input reads as it did. -/
def supplyWaitSpec : ChangeSpec := { name := "supplyWait", fn := fun _ => fun
  | [d1, d2, d3] => { results := [.lit (.bool true)], args := [d1, d2, d3] }
  | _ => none }
def supplyWaitRow : OpenClaim := { program := "ytclbbnoinnmdnaa", sum := "aa9c5c26aaefe9829dd66442241ca5f4370fc2e41a6875a1e33972ddbeecbb21", func := "escapement/escapementlaw07.SupplyWait", spec := "supplyWait", apart := false }
def SupplyWaitSaid : Prop := supplyWaitRow.holds Try.pinned (OpenSpec.ofChange supplyWaitSpec)

/-- ITS FALSE NEIGHBOUR: 'it returns false'. Refute it at one input. -/
def supplyWaitWrong : ChangeSpec := { name := "supplyWait", fn := fun _ => fun
  | [d1, d2, d3] => { results := [.lit (.bool false)], args := [d1, d2, d3] }
  | _ => none }
def SupplyWaitWrongFalsely : Prop := supplyWaitRow.holds Try.pinned (OpenSpec.ofChange supplyWaitWrong)

/-- 'escapementlaw07.SupplySound': WHATEVER THE INPUT: true; the input reads as it did. -/
def supplySoundSpec : ChangeSpec := { name := "supplySound", fn := fun _ => fun
  | [d1, d2, d3] => { results := [.lit (.bool true)], args := [d1, d2, d3] }
  | _ => none }
def supplySoundRow : OpenClaim := { program := "ytclbbnoinnmdnaa", sum := "aa9c5c26aaefe9829dd66442241ca5f4370fc2e41a6875a1e33972ddbeecbb21", func := "escapement/escapementlaw07.SupplySound", spec := "supplySound", apart := false }
def SupplySoundSaid : Prop := supplySoundRow.holds Try.pinned (OpenSpec.ofChange supplySoundSpec)

/-- ITS FALSE NEIGHBOUR: 'it returns false'. Refute it at one input. -/
def supplySoundWrong : ChangeSpec := { name := "supplySound", fn := fun _ => fun
  | [d1, d2, d3] => { results := [.lit (.bool false)], args := [d1, d2, d3] }
  | _ => none }
def SupplySoundWrongFalsely : Prop := supplySoundRow.holds Try.pinned (OpenSpec.ofChange supplySoundWrong)

/-- 'escapementlaw07.SupplyWorst': WHATEVER THE INPUT: true; the input reads as it did. -/
def supplyWorstSpec : ChangeSpec := { name := "supplyWorst", fn := fun _ => fun
  | [d1, d2] => { results := [.lit (.bool true)], args := [d1, d2] }
  | _ => none }
def supplyWorstRow : OpenClaim := { program := "ytclbbnoinnmdnaa", sum := "aa9c5c26aaefe9829dd66442241ca5f4370fc2e41a6875a1e33972ddbeecbb21", func := "escapement/escapementlaw07.SupplyWorst", spec := "supplyWorst", apart := false }
def SupplyWorstSaid : Prop := supplyWorstRow.holds Try.pinned (OpenSpec.ofChange supplyWorstSpec)

/-- ITS FALSE NEIGHBOUR: 'it returns false'. Refute it at one input. -/
def supplyWorstWrong : ChangeSpec := { name := "supplyWorst", fn := fun _ => fun
  | [d1, d2] => { results := [.lit (.bool false)], args := [d1, d2] }
  | _ => none }
def SupplyWorstWrongFalsely : Prop := supplyWorstRow.holds Try.pinned (OpenSpec.ofChange supplyWorstWrong)

/-- 'escapementlaw07.SupplySteps': WHATEVER THE INPUT: true; the input reads as it did. -/
def supplyStepsSpec : ChangeSpec := { name := "supplySteps", fn := fun _ => fun
  | [d1, d2, d3] => { results := [.lit (.bool true)], args := [d1, d2, d3] }
  | _ => none }
def supplyStepsRow : OpenClaim := { program := "ytclbbnoinnmdnaa", sum := "aa9c5c26aaefe9829dd66442241ca5f4370fc2e41a6875a1e33972ddbeecbb21", func := "escapement/escapementlaw07.SupplySteps", spec := "supplySteps", apart := false }
def SupplyStepsSaid : Prop := supplyStepsRow.holds Try.pinned (OpenSpec.ofChange supplyStepsSpec)

/-- ITS FALSE NEIGHBOUR: 'it returns false'. Refute it at one input. -/
def supplyStepsWrong : ChangeSpec := { name := "supplySteps", fn := fun _ => fun
  | [d1, d2, d3] => { results := [.lit (.bool false)], args := [d1, d2, d3] }
  | _ => none }
def SupplyStepsWrongFalsely : Prop := supplyStepsRow.holds Try.pinned (OpenSpec.ofChange supplyStepsWrong)

/-- 'escapementlaw07.SupplyNames': WHATEVER THE INPUT: true; the input reads as it did. -/
def supplyNamesSpec : ChangeSpec := { name := "supplyNames", fn := fun _ => fun
  | [] => { results := [.lit (.bool true)], args := [] }
  | _ => none }
def supplyNamesRow : OpenClaim := { program := "ytclbbnoinnmdnaa", sum := "aa9c5c26aaefe9829dd66442241ca5f4370fc2e41a6875a1e33972ddbeecbb21", func := "escapement/escapementlaw07.SupplyNames", spec := "supplyNames", apart := false }
def SupplyNamesSaid : Prop := supplyNamesRow.holds Try.pinned (OpenSpec.ofChange supplyNamesSpec)

/-- ITS FALSE NEIGHBOUR: 'it returns false'. Refute it at one input. -/
def supplyNamesWrong : ChangeSpec := { name := "supplyNames", fn := fun _ => fun
  | [] => { results := [.lit (.bool false)], args := [] }
  | _ => none }
def SupplyNamesWrongFalsely : Prop := supplyNamesRow.holds Try.pinned (OpenSpec.ofChange supplyNamesWrong)

/- THE SECOND FORM. 'bulk': how many values and letters a reading holds, each counted each time it is reached (what is shared counts as often as it is met; a slice's spare places count too). A statement '..UptoSaid' is the law's where the arguments, and the package variables that the reading takes, are together of bulk at most 1048576: NARROWER than '..Said'. Prove '..Said' where nothing that the law and all that it calls make is longer than what came in: it says more and counts as full. Else prove '..UptoSaid'. A law counts once. -/
mutual
def uptoBulk {H : Type} : DataW H → Nat
  | .lit (.string bytes) => bytes.length + 1
  | .lit _ => 1
  | .nil => 1
  | .ptr d => uptoBulk d + 1
  | .slice elems spare => uptoBulkAll elems + uptoBulkAll spare + 1
  | .agg parts => uptoBulkAll parts + 1
  | .iface _ d => uptoBulk d + 1
  | .map entries => uptoBulkEntries entries + 1
  | .held _ => 1
def uptoBulkAll {H : Type} : List (DataW H) → Nat
  | [] => 0
  | d :: r => uptoBulk d + uptoBulkAll r
def uptoBulkEntries {H : Type} : List (Lit × DataW H) → Nat
  | [] => 0
  | x :: r => uptoBulkEntry x + uptoBulkEntries r
def uptoBulkEntry {H : Type} : Lit × DataW H → Nat
  | (.string bytes, d) => bytes.length + uptoBulk d + 1
  | (_, d) => uptoBulk d + 1
 end
def uptoSmall : (H : Type) → List (DataW H) → Bool := fun _ ds => decide (uptoBulkAll ds ≤ 1048576)
def OpenSpec.upto (s : _root_.Go.ChangeSpec) : _root_.Go.OpenSpec := { _root_.Go.OpenSpec.ofChange s with cond := some uptoSmall }

/-- 'escapementlaw14.SporePlays', WHERE WHAT IT READS IS OF BULK AT MOST 1048576: true; the input reads as it did. -/
def sporePlaysUptoRow : OpenClaim := { program := "ytclbbnoinnmdnaa", sum := "aa9c5c26aaefe9829dd66442241ca5f4370fc2e41a6875a1e33972ddbeecbb21", func := "escapement/escapementlaw14.SporePlays", spec := "sporePlays", unfollowed := true, recurses := true, apart := false, narrowed := true }
def SporePlaysUptoSaid : Prop := sporePlaysUptoRow.holds Try.pinned (OpenSpec.upto sporePlaysSpec)

/-- 'escapementlaw14.SporeApart', WHERE WHAT IT READS IS OF BULK AT MOST 1048576: true; the input reads as it did. -/
def sporeApartUptoRow : OpenClaim := { program := "ytclbbnoinnmdnaa", sum := "aa9c5c26aaefe9829dd66442241ca5f4370fc2e41a6875a1e33972ddbeecbb21", func := "escapement/escapementlaw14.SporeApart", spec := "sporeApart", unfollowed := true, recurses := true, apart := false, narrowed := true }
def SporeApartUptoSaid : Prop := sporeApartUptoRow.holds Try.pinned (OpenSpec.upto sporeApartSpec)

/-- 'escapementlaw14.SporeMany', WHERE WHAT IT READS IS OF BULK AT MOST 1048576: true; the input reads as it did. -/
def sporeManyUptoRow : OpenClaim := { program := "ytclbbnoinnmdnaa", sum := "aa9c5c26aaefe9829dd66442241ca5f4370fc2e41a6875a1e33972ddbeecbb21", func := "escapement/escapementlaw14.SporeMany", spec := "sporeMany", unfollowed := true, recurses := true, apart := false, narrowed := true }
def SporeManyUptoSaid : Prop := sporeManyUptoRow.holds Try.pinned (OpenSpec.upto sporeManySpec)

/-- 'escapementlaw14.SporeKnown', WHERE WHAT IT READS IS OF BULK AT MOST 1048576: true; the input reads as it did. -/
def sporeKnownUptoRow : OpenClaim := { program := "ytclbbnoinnmdnaa", sum := "aa9c5c26aaefe9829dd66442241ca5f4370fc2e41a6875a1e33972ddbeecbb21", func := "escapement/escapementlaw14.SporeKnown", spec := "sporeKnown", unfollowed := true, recurses := true, apart := false, narrowed := true }
def SporeKnownUptoSaid : Prop := sporeKnownUptoRow.holds Try.pinned (OpenSpec.upto sporeKnownSpec)

/-- 'escapementlaw07.SupplyOf', WHERE WHAT IT READS IS OF BULK AT MOST 1048576: true; the input reads as it did. -/
def supplyOfUptoRow : OpenClaim := { program := "ytclbbnoinnmdnaa", sum := "aa9c5c26aaefe9829dd66442241ca5f4370fc2e41a6875a1e33972ddbeecbb21", func := "escapement/escapementlaw07.SupplyOf", spec := "supplyOf", apart := false, narrowed := true }
def SupplyOfUptoSaid : Prop := supplyOfUptoRow.holds Try.pinned (OpenSpec.upto supplyOfSpec)

/-- 'escapementlaw07.SupplyWait', WHERE WHAT IT READS IS OF BULK AT MOST 1048576: true; the input reads as it did. -/
def supplyWaitUptoRow : OpenClaim := { program := "ytclbbnoinnmdnaa", sum := "aa9c5c26aaefe9829dd66442241ca5f4370fc2e41a6875a1e33972ddbeecbb21", func := "escapement/escapementlaw07.SupplyWait", spec := "supplyWait", apart := false, narrowed := true }
def SupplyWaitUptoSaid : Prop := supplyWaitUptoRow.holds Try.pinned (OpenSpec.upto supplyWaitSpec)

/-- 'escapementlaw07.SupplySound', WHERE WHAT IT READS IS OF BULK AT MOST 1048576: true; the input reads as it did. -/
def supplySoundUptoRow : OpenClaim := { program := "ytclbbnoinnmdnaa", sum := "aa9c5c26aaefe9829dd66442241ca5f4370fc2e41a6875a1e33972ddbeecbb21", func := "escapement/escapementlaw07.SupplySound", spec := "supplySound", apart := false, narrowed := true }
def SupplySoundUptoSaid : Prop := supplySoundUptoRow.holds Try.pinned (OpenSpec.upto supplySoundSpec)

/-- 'escapementlaw07.SupplyWorst', WHERE WHAT IT READS IS OF BULK AT MOST 1048576: true; the input reads as it did. -/
def supplyWorstUptoRow : OpenClaim := { program := "ytclbbnoinnmdnaa", sum := "aa9c5c26aaefe9829dd66442241ca5f4370fc2e41a6875a1e33972ddbeecbb21", func := "escapement/escapementlaw07.SupplyWorst", spec := "supplyWorst", apart := false, narrowed := true }
def SupplyWorstUptoSaid : Prop := supplyWorstUptoRow.holds Try.pinned (OpenSpec.upto supplyWorstSpec)

/-- 'escapementlaw07.SupplySteps', WHERE WHAT IT READS IS OF BULK AT MOST 1048576: true; the input reads as it did. -/
def supplyStepsUptoRow : OpenClaim := { program := "ytclbbnoinnmdnaa", sum := "aa9c5c26aaefe9829dd66442241ca5f4370fc2e41a6875a1e33972ddbeecbb21", func := "escapement/escapementlaw07.SupplySteps", spec := "supplySteps", apart := false, narrowed := true }
def SupplyStepsUptoSaid : Prop := supplyStepsUptoRow.holds Try.pinned (OpenSpec.upto supplyStepsSpec)

/-- 'escapementlaw07.SupplyNames', WHERE WHAT IT READS IS OF BULK AT MOST 1048576: true; the input reads as it did. -/
def supplyNamesUptoRow : OpenClaim := { program := "ytclbbnoinnmdnaa", sum := "aa9c5c26aaefe9829dd66442241ca5f4370fc2e41a6875a1e33972ddbeecbb21", func := "escapement/escapementlaw07.SupplyNames", spec := "supplyNames", apart := false, narrowed := true }
def SupplyNamesUptoSaid : Prop := supplyNamesUptoRow.holds Try.pinned (OpenSpec.upto supplyNamesSpec)

end Rows
end Go.Proofs.Ytclbbnoinnmdnaa
