/-
  No cell of these rows narrows 'for every input' (looked for: loops, veiled, ifaces, maps, wideKeys, modest, calm, conditions, laid).
  DERIVED. THE GIVEN ROWS OF THIS SEAT. 13 by the template 'for every input the law returns true; each argument reads behind the call as it read before'; 0 by the template 'total and deterministic' (their statements: YtogdpkeojccpcaaTotals.lean).
  GIVEN WITH THE SEED: the statements are not yours to turn. If you find one false, say at which input.
  Laid BY PROGRAM, IN A SANDBOX (cutbox-rows.mjs): the forced cells as the released guide's own fill.sh prints them over the translation dd13bb912e52ee7b… (all of the seat's roots in one cut). By AI agents, Wed Nov 11 2026. No macro, syntax, notation, axiom, sorry.
-/
import Derived.Test.YtogdpkeojccpcaaChecked
import GoSem.Claim
import GoSem.ClaimJoined
import GoSem.ClaimMapViews
import Derived.JoinedTies
import Derived.KernelRfl
namespace Go.Proofs.Ytogdpkeojccpcaa
/- THE CELL 'sum', in the pinned program and in every row, IS THE sha256 OF THE DUMP (.gsa) THAT YtogdpkeojccpcaaProg.lean LOADS. Nothing in Lean hashes anything: it is a label: what it is worth is what the hold of that sum in a sandbox is worth. -/
noncomputable def Try.pinned : Pinned := { name := "ytogdpkeojccpcaa", sum := "dd13bb912e52ee7b626f2d729319fa1079b2500e859d4833ad9c7be6e499899a", checked := Try.checked }
namespace Rows
def none {H : Type} : Left H := { results := [], args := [] }

/-- 'escapementlaw11.ShareSums': WHATEVER THE INPUT: true; the input reads as it did. -/
def shareSumsSpec : ChangeSpec := { name := "shareSums", fn := fun _ => fun
  | [d] => { results := [.lit (.bool true)], args := [d] }
  | _ => none }
def shareSumsRow : OpenClaim := { program := "ytogdpkeojccpcaa", sum := "dd13bb912e52ee7b626f2d729319fa1079b2500e859d4833ad9c7be6e499899a", func := "escapement/escapementlaw11.ShareSums", spec := "shareSums", apart := false }
def ShareSumsSaid : Prop := shareSumsRow.holds Try.pinned (OpenSpec.ofChange shareSumsSpec)

/-- ITS FALSE NEIGHBOUR: 'it returns false'. Refute it at one input. -/
def shareSumsWrong : ChangeSpec := { name := "shareSums", fn := fun _ => fun
  | [d] => { results := [.lit (.bool false)], args := [d] }
  | _ => none }
def ShareSumsWrongFalsely : Prop := shareSumsRow.holds Try.pinned (OpenSpec.ofChange shareSumsWrong)

/-- 'escapementlaw11.ShareKeeps': WHATEVER THE INPUT: true; the input reads as it did. -/
def shareKeepsSpec : ChangeSpec := { name := "shareKeeps", fn := fun _ => fun
  | [d1, d2] => { results := [.lit (.bool true)], args := [d1, d2] }
  | _ => none }
def shareKeepsRow : OpenClaim := { program := "ytogdpkeojccpcaa", sum := "dd13bb912e52ee7b626f2d729319fa1079b2500e859d4833ad9c7be6e499899a", func := "escapement/escapementlaw11.ShareKeeps", spec := "shareKeeps", apart := false }
def ShareKeepsSaid : Prop := shareKeepsRow.holds Try.pinned (OpenSpec.ofChange shareKeepsSpec)

/-- ITS FALSE NEIGHBOUR: 'it returns false'. Refute it at one input. -/
def shareKeepsWrong : ChangeSpec := { name := "shareKeeps", fn := fun _ => fun
  | [d1, d2] => { results := [.lit (.bool false)], args := [d1, d2] }
  | _ => none }
def ShareKeepsWrongFalsely : Prop := shareKeepsRow.holds Try.pinned (OpenSpec.ofChange shareKeepsWrong)

/-- 'escapementlaw11.ShareExact': WHATEVER THE INPUT: true; the input reads as it did. -/
def shareExactSpec : ChangeSpec := { name := "shareExact", fn := fun _ => fun
  | [d] => { results := [.lit (.bool true)], args := [d] }
  | _ => none }
def shareExactRow : OpenClaim := { program := "ytogdpkeojccpcaa", sum := "dd13bb912e52ee7b626f2d729319fa1079b2500e859d4833ad9c7be6e499899a", func := "escapement/escapementlaw11.ShareExact", spec := "shareExact", apart := false }
def ShareExactSaid : Prop := shareExactRow.holds Try.pinned (OpenSpec.ofChange shareExactSpec)

/-- ITS FALSE NEIGHBOUR: 'it returns false'. Refute it at one input. -/
def shareExactWrong : ChangeSpec := { name := "shareExact", fn := fun _ => fun
  | [d] => { results := [.lit (.bool false)], args := [d] }
  | _ => none }
def ShareExactWrongFalsely : Prop := shareExactRow.holds Try.pinned (OpenSpec.ofChange shareExactWrong)

/-- 'escapementlaw11.ShareNames': WHATEVER THE INPUT: true; the input reads as it did. -/
def shareNamesSpec : ChangeSpec := { name := "shareNames", fn := fun _ => fun
  | [] => { results := [.lit (.bool true)], args := [] }
  | _ => none }
def shareNamesRow : OpenClaim := { program := "ytogdpkeojccpcaa", sum := "dd13bb912e52ee7b626f2d729319fa1079b2500e859d4833ad9c7be6e499899a", func := "escapement/escapementlaw11.ShareNames", spec := "shareNames", apart := false }
def ShareNamesSaid : Prop := shareNamesRow.holds Try.pinned (OpenSpec.ofChange shareNamesSpec)

/-- ITS FALSE NEIGHBOUR: 'it returns false'. Refute it at one input. -/
def shareNamesWrong : ChangeSpec := { name := "shareNames", fn := fun _ => fun
  | [] => { results := [.lit (.bool false)], args := [] }
  | _ => none }
def ShareNamesWrongFalsely : Prop := shareNamesRow.holds Try.pinned (OpenSpec.ofChange shareNamesWrong)

/-- 'escapementlaw19.PurseExact': WHATEVER THE INPUT: true; the input reads as it did. -/
def purseExactSpec : ChangeSpec := { name := "purseExact", fn := fun _ => fun
  | [d1, d2, d3] => { results := [.lit (.bool true)], args := [d1, d2, d3] }
  | _ => none }
def purseExactRow : OpenClaim := { program := "ytogdpkeojccpcaa", sum := "dd13bb912e52ee7b626f2d729319fa1079b2500e859d4833ad9c7be6e499899a", func := "escapement/escapementlaw19.PurseExact", spec := "purseExact", apart := false }
def PurseExactSaid : Prop := purseExactRow.holds Try.pinned (OpenSpec.ofChange purseExactSpec)

/-- ITS FALSE NEIGHBOUR: 'it returns false'. Refute it at one input. -/
def purseExactWrong : ChangeSpec := { name := "purseExact", fn := fun _ => fun
  | [d1, d2, d3] => { results := [.lit (.bool false)], args := [d1, d2, d3] }
  | _ => none }
def PurseExactWrongFalsely : Prop := purseExactRow.holds Try.pinned (OpenSpec.ofChange purseExactWrong)

/-- 'escapementlaw19.PursePlays': WHATEVER THE INPUT: true; the input reads as it did. -/
def pursePlaysSpec : ChangeSpec := { name := "pursePlays", fn := fun _ => fun
  | [d1, d2, d3] => { results := [.lit (.bool true)], args := [d1, d2, d3] }
  | _ => none }
def pursePlaysRow : OpenClaim := { program := "ytogdpkeojccpcaa", sum := "dd13bb912e52ee7b626f2d729319fa1079b2500e859d4833ad9c7be6e499899a", func := "escapement/escapementlaw19.PursePlays", spec := "pursePlays", apart := false }
def PursePlaysSaid : Prop := pursePlaysRow.holds Try.pinned (OpenSpec.ofChange pursePlaysSpec)

/-- ITS FALSE NEIGHBOUR: 'it returns false'. Refute it at one input. -/
def pursePlaysWrong : ChangeSpec := { name := "pursePlays", fn := fun _ => fun
  | [d1, d2, d3] => { results := [.lit (.bool false)], args := [d1, d2, d3] }
  | _ => none }
def PursePlaysWrongFalsely : Prop := pursePlaysRow.holds Try.pinned (OpenSpec.ofChange pursePlaysWrong)

/-- 'escapementlaw19.PurseBegins': WHATEVER THE INPUT: true; the input reads as it did. -/
def purseBeginsSpec : ChangeSpec := { name := "purseBegins", fn := fun _ => fun
  | [d1, d2, d3] => { results := [.lit (.bool true)], args := [d1, d2, d3] }
  | _ => none }
def purseBeginsRow : OpenClaim := { program := "ytogdpkeojccpcaa", sum := "dd13bb912e52ee7b626f2d729319fa1079b2500e859d4833ad9c7be6e499899a", func := "escapement/escapementlaw19.PurseBegins", spec := "purseBegins", apart := false }
def PurseBeginsSaid : Prop := purseBeginsRow.holds Try.pinned (OpenSpec.ofChange purseBeginsSpec)

/-- ITS FALSE NEIGHBOUR: 'it returns false'. Refute it at one input. -/
def purseBeginsWrong : ChangeSpec := { name := "purseBegins", fn := fun _ => fun
  | [d1, d2, d3] => { results := [.lit (.bool false)], args := [d1, d2, d3] }
  | _ => none }
def PurseBeginsWrongFalsely : Prop := purseBeginsRow.holds Try.pinned (OpenSpec.ofChange purseBeginsWrong)

/-- 'escapementlaw19.PurseNames': WHATEVER THE INPUT: true; the input reads as it did. -/
def purseNamesSpec : ChangeSpec := { name := "purseNames", fn := fun _ => fun
  | [] => { results := [.lit (.bool true)], args := [] }
  | _ => none }
def purseNamesRow : OpenClaim := { program := "ytogdpkeojccpcaa", sum := "dd13bb912e52ee7b626f2d729319fa1079b2500e859d4833ad9c7be6e499899a", func := "escapement/escapementlaw19.PurseNames", spec := "purseNames", apart := false }
def PurseNamesSaid : Prop := purseNamesRow.holds Try.pinned (OpenSpec.ofChange purseNamesSpec)

/-- ITS FALSE NEIGHBOUR: 'it returns false'. Refute it at one input. -/
def purseNamesWrong : ChangeSpec := { name := "purseNames", fn := fun _ => fun
  | [] => { results := [.lit (.bool false)], args := [] }
  | _ => none }
def PurseNamesWrongFalsely : Prop := purseNamesRow.holds Try.pinned (OpenSpec.ofChange purseNamesWrong)

/-- 'escapementlaw20.TurnPlans': WHATEVER THE INPUT: true; the input reads as it did. -/
def turnPlansSpec : ChangeSpec := { name := "turnPlans", fn := fun _ => fun
  | [d1, d2, d3] => { results := [.lit (.bool true)], args := [d1, d2, d3] }
  | _ => none }
def turnPlansRow : OpenClaim := { program := "ytogdpkeojccpcaa", sum := "dd13bb912e52ee7b626f2d729319fa1079b2500e859d4833ad9c7be6e499899a", func := "escapement/escapementlaw20.TurnPlans", spec := "turnPlans", unfollowed := true, recurses := true, apart := false }
def TurnPlansSaid : Prop := turnPlansRow.holds Try.pinned (OpenSpec.ofChange turnPlansSpec)

/-- ITS FALSE NEIGHBOUR: 'it returns false'. Refute it at one input. -/
def turnPlansWrong : ChangeSpec := { name := "turnPlans", fn := fun _ => fun
  | [d1, d2, d3] => { results := [.lit (.bool false)], args := [d1, d2, d3] }
  | _ => none }
def TurnPlansWrongFalsely : Prop := turnPlansRow.holds Try.pinned (OpenSpec.ofChange turnPlansWrong)

/-- 'escapementlaw20.TurnWho': WHATEVER THE INPUT: true; the input reads as it did. -/
def turnWhoSpec : ChangeSpec := { name := "turnWho", fn := fun _ => fun
  | [d] => { results := [.lit (.bool true)], args := [d] }
  | _ => none }
def turnWhoRow : OpenClaim := { program := "ytogdpkeojccpcaa", sum := "dd13bb912e52ee7b626f2d729319fa1079b2500e859d4833ad9c7be6e499899a", func := "escapement/escapementlaw20.TurnWho", spec := "turnWho", unfollowed := true, recurses := true, apart := false }
def TurnWhoSaid : Prop := turnWhoRow.holds Try.pinned (OpenSpec.ofChange turnWhoSpec)

/-- ITS FALSE NEIGHBOUR: 'it returns false'. Refute it at one input. -/
def turnWhoWrong : ChangeSpec := { name := "turnWho", fn := fun _ => fun
  | [d] => { results := [.lit (.bool false)], args := [d] }
  | _ => none }
def TurnWhoWrongFalsely : Prop := turnWhoRow.holds Try.pinned (OpenSpec.ofChange turnWhoWrong)

/-- 'escapementlaw20.TurnApart': WHATEVER THE INPUT: true; the input reads as it did. -/
def turnApartSpec : ChangeSpec := { name := "turnApart", fn := fun _ => fun
  | [d1, d2] => { results := [.lit (.bool true)], args := [d1, d2] }
  | _ => none }
def turnApartRow : OpenClaim := { program := "ytogdpkeojccpcaa", sum := "dd13bb912e52ee7b626f2d729319fa1079b2500e859d4833ad9c7be6e499899a", func := "escapement/escapementlaw20.TurnApart", spec := "turnApart", unfollowed := true, recurses := true, apart := false }
def TurnApartSaid : Prop := turnApartRow.holds Try.pinned (OpenSpec.ofChange turnApartSpec)

/-- ITS FALSE NEIGHBOUR: 'it returns false'. Refute it at one input. -/
def turnApartWrong : ChangeSpec := { name := "turnApart", fn := fun _ => fun
  | [d1, d2] => { results := [.lit (.bool false)], args := [d1, d2] }
  | _ => none }
def TurnApartWrongFalsely : Prop := turnApartRow.holds Try.pinned (OpenSpec.ofChange turnApartWrong)

/-- 'escapementlaw20.TurnNames': WHATEVER THE INPUT: true; the input reads as it did. -/
def turnNamesSpec : ChangeSpec := { name := "turnNames", fn := fun _ => fun
  | [] => { results := [.lit (.bool true)], args := [] }
  | _ => none }
def turnNamesRow : OpenClaim := { program := "ytogdpkeojccpcaa", sum := "dd13bb912e52ee7b626f2d729319fa1079b2500e859d4833ad9c7be6e499899a", func := "escapement/escapementlaw20.TurnNames", spec := "turnNames", unfollowed := true, recurses := true, apart := false }
def TurnNamesSaid : Prop := turnNamesRow.holds Try.pinned (OpenSpec.ofChange turnNamesSpec)

/-- ITS FALSE NEIGHBOUR: 'it returns false'. Refute it at one input. -/
def turnNamesWrong : ChangeSpec := { name := "turnNames", fn := fun _ => fun
  | [] => { results := [.lit (.bool false)], args := [] }
  | _ => none }
def TurnNamesWrongFalsely : Prop := turnNamesRow.holds Try.pinned (OpenSpec.ofChange turnNamesWrong)

/-- 'escapementlaw20.TurnKeeps': WHATEVER THE INPUT: true; the input reads as it did. -/
def turnKeepsSpec : ChangeSpec := { name := "turnKeeps", fn := fun _ => fun
  | [d1, d2] => { results := [.lit (.bool true)], args := [d1, d2] }
  | _ => none }
def turnKeepsRow : OpenClaim := { program := "ytogdpkeojccpcaa", sum := "dd13bb912e52ee7b626f2d729319fa1079b2500e859d4833ad9c7be6e499899a", func := "escapement/escapementlaw20.TurnKeeps", spec := "turnKeeps", unfollowed := true, recurses := true, apart := false }
def TurnKeepsSaid : Prop := turnKeepsRow.holds Try.pinned (OpenSpec.ofChange turnKeepsSpec)

/-- ITS FALSE NEIGHBOUR: 'it returns false'. Refute it at one input. -/
def turnKeepsWrong : ChangeSpec := { name := "turnKeeps", fn := fun _ => fun
  | [d1, d2] => { results := [.lit (.bool false)], args := [d1, d2] }
  | _ => none }
def TurnKeepsWrongFalsely : Prop := turnKeepsRow.holds Try.pinned (OpenSpec.ofChange turnKeepsWrong)

/- THE SECOND FORM. 'bulk': how many values and letters a reading holds, each counted each time it is reached (what is shared counts as often as it is met; a slice's spare places count too). A statement '..UptoSaid' is the law's where the arguments, and the package variables that the reading takes, are together of bulk at most 1048576: NARROWER than '..Said'. Prove '..Said' where nothing that the law and all that it calls make is longer than what came in: it says more and counts as full. Else prove '..UptoSaid'. A law counts once. -/
mutual
def uptoBulk {H : Type} : DataW H → Nat
  | .lit (.string bytes) => bytes.length + 1
  | .lit _ => 1
  | .nil => 1
  | .ptr d => uptoBulk d + 1
  | .slice elems spare => uptoBulkAll elems + uptoBulkAll spare + 1
  | .agg parts => uptoBulkAll parts + 1
  | .iface _ d => uptoBulk d + 1
  | .map entries => uptoBulkEntries entries + 1
  | .held _ => 1
def uptoBulkAll {H : Type} : List (DataW H) → Nat
  | [] => 0
  | d :: r => uptoBulk d + uptoBulkAll r
def uptoBulkEntries {H : Type} : List (Lit × DataW H) → Nat
  | [] => 0
  | x :: r => uptoBulkEntry x + uptoBulkEntries r
def uptoBulkEntry {H : Type} : Lit × DataW H → Nat
  | (.string bytes, d) => bytes.length + uptoBulk d + 1
  | (_, d) => uptoBulk d + 1
 end
def uptoSmall : (H : Type) → List (DataW H) → Bool := fun _ ds => decide (uptoBulkAll ds ≤ 1048576)
def OpenSpec.upto (s : _root_.Go.ChangeSpec) : _root_.Go.OpenSpec := { _root_.Go.OpenSpec.ofChange s with cond := some uptoSmall }

/-- 'escapementlaw11.ShareSums', WHERE WHAT IT READS IS OF BULK AT MOST 1048576: true; the input reads as it did. -/
def shareSumsUptoRow : OpenClaim := { program := "ytogdpkeojccpcaa", sum := "dd13bb912e52ee7b626f2d729319fa1079b2500e859d4833ad9c7be6e499899a", func := "escapement/escapementlaw11.ShareSums", spec := "shareSums", apart := false, narrowed := true }
def ShareSumsUptoSaid : Prop := shareSumsUptoRow.holds Try.pinned (OpenSpec.upto shareSumsSpec)

/-- 'escapementlaw11.ShareKeeps', WHERE WHAT IT READS IS OF BULK AT MOST 1048576: true; the input reads as it did. -/
def shareKeepsUptoRow : OpenClaim := { program := "ytogdpkeojccpcaa", sum := "dd13bb912e52ee7b626f2d729319fa1079b2500e859d4833ad9c7be6e499899a", func := "escapement/escapementlaw11.ShareKeeps", spec := "shareKeeps", apart := false, narrowed := true }
def ShareKeepsUptoSaid : Prop := shareKeepsUptoRow.holds Try.pinned (OpenSpec.upto shareKeepsSpec)

/-- 'escapementlaw11.ShareExact', WHERE WHAT IT READS IS OF BULK AT MOST 1048576: true; the input reads as it did. -/
def shareExactUptoRow : OpenClaim := { program := "ytogdpkeojccpcaa", sum := "dd13bb912e52ee7b626f2d729319fa1079b2500e859d4833ad9c7be6e499899a", func := "escapement/escapementlaw11.ShareExact", spec := "shareExact", apart := false, narrowed := true }
def ShareExactUptoSaid : Prop := shareExactUptoRow.holds Try.pinned (OpenSpec.upto shareExactSpec)

/-- 'escapementlaw11.ShareNames', WHERE WHAT IT READS IS OF BULK AT MOST 1048576: true; the input reads as it did. -/
def shareNamesUptoRow : OpenClaim := { program := "ytogdpkeojccpcaa", sum := "dd13bb912e52ee7b626f2d729319fa1079b2500e859d4833ad9c7be6e499899a", func := "escapement/escapementlaw11.ShareNames", spec := "shareNames", apart := false, narrowed := true }
def ShareNamesUptoSaid : Prop := shareNamesUptoRow.holds Try.pinned (OpenSpec.upto shareNamesSpec)

/-- 'escapementlaw19.PurseExact', WHERE WHAT IT READS IS OF BULK AT MOST 1048576: true; the input reads as it did. -/
def purseExactUptoRow : OpenClaim := { program := "ytogdpkeojccpcaa", sum := "dd13bb912e52ee7b626f2d729319fa1079b2500e859d4833ad9c7be6e499899a", func := "escapement/escapementlaw19.PurseExact", spec := "purseExact", apart := false, narrowed := true }
def PurseExactUptoSaid : Prop := purseExactUptoRow.holds Try.pinned (OpenSpec.upto purseExactSpec)

/-- 'escapementlaw19.PursePlays', WHERE WHAT IT READS IS OF BULK AT MOST 1048576: true; the input reads as it did. -/
def pursePlaysUptoRow : OpenClaim := { program := "ytogdpkeojccpcaa", sum := "dd13bb912e52ee7b626f2d729319fa1079b2500e859d4833ad9c7be6e499899a", func := "escapement/escapementlaw19.PursePlays", spec := "pursePlays", apart := false, narrowed := true }
def PursePlaysUptoSaid : Prop := pursePlaysUptoRow.holds Try.pinned (OpenSpec.upto pursePlaysSpec)

/-- 'escapementlaw19.PurseBegins', WHERE WHAT IT READS IS OF BULK AT MOST 1048576: true; the input reads as it did. -/
def purseBeginsUptoRow : OpenClaim := { program := "ytogdpkeojccpcaa", sum := "dd13bb912e52ee7b626f2d729319fa1079b2500e859d4833ad9c7be6e499899a", func := "escapement/escapementlaw19.PurseBegins", spec := "purseBegins", apart := false, narrowed := true }
def PurseBeginsUptoSaid : Prop := purseBeginsUptoRow.holds Try.pinned (OpenSpec.upto purseBeginsSpec)

/-- 'escapementlaw19.PurseNames', WHERE WHAT IT READS IS OF BULK AT MOST 1048576: true; the input reads as it did. -/
def purseNamesUptoRow : OpenClaim := { program := "ytogdpkeojccpcaa", sum := "dd13bb912e52ee7b626f2d729319fa1079b2500e859d4833ad9c7be6e499899a", func := "escapement/escapementlaw19.PurseNames", spec := "purseNames", apart := false, narrowed := true }
def PurseNamesUptoSaid : Prop := purseNamesUptoRow.holds Try.pinned (OpenSpec.upto purseNamesSpec)

/-- 'escapementlaw20.TurnPlans', WHERE WHAT IT READS IS OF BULK AT MOST 1048576: true; the input reads as it did. -/
def turnPlansUptoRow : OpenClaim := { program := "ytogdpkeojccpcaa", sum := "dd13bb912e52ee7b626f2d729319fa1079b2500e859d4833ad9c7be6e499899a", func := "escapement/escapementlaw20.TurnPlans", spec := "turnPlans", unfollowed := true, recurses := true, apart := false, narrowed := true }
def TurnPlansUptoSaid : Prop := turnPlansUptoRow.holds Try.pinned (OpenSpec.upto turnPlansSpec)

/-- 'escapementlaw20.TurnWho', WHERE WHAT IT READS IS OF BULK AT MOST 1048576: true; the input reads as it did. -/
def turnWhoUptoRow : OpenClaim := { program := "ytogdpkeojccpcaa", sum := "dd13bb912e52ee7b626f2d729319fa1079b2500e859d4833ad9c7be6e499899a", func := "escapement/escapementlaw20.TurnWho", spec := "turnWho", unfollowed := true, recurses := true, apart := false, narrowed := true }
def TurnWhoUptoSaid : Prop := turnWhoUptoRow.holds Try.pinned (OpenSpec.upto turnWhoSpec)

/-- 'escapementlaw20.TurnApart', WHERE WHAT IT READS IS OF BULK AT MOST 1048576: true; the input reads as it did. -/
def turnApartUptoRow : OpenClaim := { program := "ytogdpkeojccpcaa", sum := "dd13bb912e52ee7b626f2d729319fa1079b2500e859d4833ad9c7be6e499899a", func := "escapement/escapementlaw20.TurnApart", spec := "turnApart", unfollowed := true, recurses := true, apart := false, narrowed := true }
def TurnApartUptoSaid : Prop := turnApartUptoRow.holds Try.pinned (OpenSpec.upto turnApartSpec)

/-- 'escapementlaw20.TurnNames', WHERE WHAT IT READS IS OF BULK AT MOST 1048576: true; the input reads as it did. -/
def turnNamesUptoRow : OpenClaim := { program := "ytogdpkeojccpcaa", sum := "dd13bb912e52ee7b626f2d729319fa1079b2500e859d4833ad9c7be6e499899a", func := "escapement/escapementlaw20.TurnNames", spec := "turnNames", unfollowed := true, recurses := true, apart := false, narrowed := true }
def TurnNamesUptoSaid : Prop := turnNamesUptoRow.holds Try.pinned (OpenSpec.upto turnNamesSpec)

/-- 'escapementlaw20.TurnKeeps', WHERE WHAT IT READS IS OF BULK AT MOST 1048576: true; the input reads as it did. -/
def turnKeepsUptoRow : OpenClaim := { program := "ytogdpkeojccpcaa", sum := "dd13bb912e52ee7b626f2d729319fa1079b2500e859d4833ad9c7be6e499899a", func := "escapement/escapementlaw20.TurnKeeps", spec := "turnKeeps", unfollowed := true, recurses := true, apart := false, narrowed := true }
def TurnKeepsUptoSaid : Prop := turnKeepsUptoRow.holds Try.pinned (OpenSpec.upto turnKeepsSpec)

end Rows
end Go.Proofs.Ytogdpkeojccpcaa
