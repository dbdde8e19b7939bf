/-
  No cell of these rows narrows 'for every input' (looked for: loops, veiled, ifaces, maps, wideKeys, modest, calm, conditions, laid).
  DERIVED. THE GIVEN ROWS OF THIS SEAT. 13 by the template 'for every input the law returns true; each argument reads behind the call as it read before'; 0 by the template 'total and deterministic' (their statements: YtikicibbbeofnaaTotals.lean).
  GIVEN WITH THE SEED: the statements are not yours to turn. If you find one false, say at which input.
  Laid BY PROGRAM, IN A SANDBOX (cutbox-rows.mjs): the forced cells as the released guide's own fill.sh prints them over the translation 264ed95f788777f6… (all of the seat's roots in one cut). By AI agents, Wed Nov 11 2026. No macro, syntax, notation, axiom, sorry.
-/
import Derived.Test.YtikicibbbeofnaaChecked
import GoSem.Claim
import GoSem.ClaimJoined
import GoSem.ClaimMapViews
import Derived.JoinedTies
import Derived.KernelRfl
namespace Go.Proofs.Ytikicibbbeofnaa
/- THE CELL 'sum', in the pinned program and in every row, IS THE sha256 OF THE DUMP (.gsa) THAT YtikicibbbeofnaaProg.lean LOADS. Nothing in Lean hashes anything: it is a label: what it is worth is what the hold of that sum in a sandbox is worth. -/
noncomputable def Try.pinned : Pinned := { name := "ytikicibbbeofnaa", sum := "264ed95f788777f691cf90c4abd8195b4763a52288535751f1059c66a6d642e2", checked := Try.checked }
namespace Rows
def none {H : Type} : Left H := { results := [], args := [] }

/-- 'parolelaw03.DigestSteps': WHATEVER THE INPUT: true; the input reads as it did. -/
def digestStepsSpec : ChangeSpec := { name := "digestSteps", fn := fun _ => fun
  | [d1, d2, d3] => { results := [.lit (.bool true)], args := [d1, d2, d3] }
  | _ => none }
def digestStepsRow : OpenClaim := { program := "ytikicibbbeofnaa", sum := "264ed95f788777f691cf90c4abd8195b4763a52288535751f1059c66a6d642e2", func := "parole/parolelaw03.DigestSteps", spec := "digestSteps", apart := false }
def DigestStepsSaid : Prop := digestStepsRow.holds Try.pinned (OpenSpec.ofChange digestStepsSpec)

/-- ITS FALSE NEIGHBOUR: 'it returns false'. Refute it at one input. -/
def digestStepsWrong : ChangeSpec := { name := "digestSteps", fn := fun _ => fun
  | [d1, d2, d3] => { results := [.lit (.bool false)], args := [d1, d2, d3] }
  | _ => none }
def DigestStepsWrongFalsely : Prop := digestStepsRow.holds Try.pinned (OpenSpec.ofChange digestStepsWrong)

/-- 'parolelaw03.DigestTexts': WHATEVER THE INPUT: true; the input reads as it did. -/
def digestTextsSpec : ChangeSpec := { name := "digestTexts", fn := fun _ => fun
  | [d1, d2, d3] => { results := [.lit (.bool true)], args := [d1, d2, d3] }
  | _ => none }
def digestTextsRow : OpenClaim := { program := "ytikicibbbeofnaa", sum := "264ed95f788777f691cf90c4abd8195b4763a52288535751f1059c66a6d642e2", func := "parole/parolelaw03.DigestTexts", spec := "digestTexts", apart := false }
def DigestTextsSaid : Prop := digestTextsRow.holds Try.pinned (OpenSpec.ofChange digestTextsSpec)

/-- ITS FALSE NEIGHBOUR: 'it returns false'. Refute it at one input. -/
def digestTextsWrong : ChangeSpec := { name := "digestTexts", fn := fun _ => fun
  | [d1, d2, d3] => { results := [.lit (.bool false)], args := [d1, d2, d3] }
  | _ => none }
def DigestTextsWrongFalsely : Prop := digestTextsRow.holds Try.pinned (OpenSpec.ofChange digestTextsWrong)

/-- 'parolelaw03.DigestJoins': WHATEVER THE INPUT: true; the input reads as it did. -/
def digestJoinsSpec : ChangeSpec := { name := "digestJoins", fn := fun _ => fun
  | [d1, d2, d3] => { results := [.lit (.bool true)], args := [d1, d2, d3] }
  | _ => none }
def digestJoinsRow : OpenClaim := { program := "ytikicibbbeofnaa", sum := "264ed95f788777f691cf90c4abd8195b4763a52288535751f1059c66a6d642e2", func := "parole/parolelaw03.DigestJoins", spec := "digestJoins", apart := false }
def DigestJoinsSaid : Prop := digestJoinsRow.holds Try.pinned (OpenSpec.ofChange digestJoinsSpec)

/-- ITS FALSE NEIGHBOUR: 'it returns false'. Refute it at one input. -/
def digestJoinsWrong : ChangeSpec := { name := "digestJoins", fn := fun _ => fun
  | [d1, d2, d3] => { results := [.lit (.bool false)], args := [d1, d2, d3] }
  | _ => none }
def DigestJoinsWrongFalsely : Prop := digestJoinsRow.holds Try.pinned (OpenSpec.ofChange digestJoinsWrong)

/-- 'parolelaw03.DigestLists': WHATEVER THE INPUT: true; the input reads as it did. -/
def digestListsSpec : ChangeSpec := { name := "digestLists", fn := fun _ => fun
  | [d1, d2, d3] => { results := [.lit (.bool true)], args := [d1, d2, d3] }
  | _ => none }
def digestListsRow : OpenClaim := { program := "ytikicibbbeofnaa", sum := "264ed95f788777f691cf90c4abd8195b4763a52288535751f1059c66a6d642e2", func := "parole/parolelaw03.DigestLists", spec := "digestLists", apart := false }
def DigestListsSaid : Prop := digestListsRow.holds Try.pinned (OpenSpec.ofChange digestListsSpec)

/-- ITS FALSE NEIGHBOUR: 'it returns false'. Refute it at one input. -/
def digestListsWrong : ChangeSpec := { name := "digestLists", fn := fun _ => fun
  | [d1, d2, d3] => { results := [.lit (.bool false)], args := [d1, d2, d3] }
  | _ => none }
def DigestListsWrongFalsely : Prop := digestListsRow.holds Try.pinned (OpenSpec.ofChange digestListsWrong)

/-- 'parolelaw03.DigestForged': WHATEVER THE INPUT: true; the input reads as it did. -/
def digestForgedSpec : ChangeSpec := { name := "digestForged", fn := fun _ => fun
  | [d1, d2] => { results := [.lit (.bool true)], args := [d1, d2] }
  | _ => none }
def digestForgedRow : OpenClaim := { program := "ytikicibbbeofnaa", sum := "264ed95f788777f691cf90c4abd8195b4763a52288535751f1059c66a6d642e2", func := "parole/parolelaw03.DigestForged", spec := "digestForged", apart := false }
def DigestForgedSaid : Prop := digestForgedRow.holds Try.pinned (OpenSpec.ofChange digestForgedSpec)

/-- ITS FALSE NEIGHBOUR: 'it returns false'. Refute it at one input. -/
def digestForgedWrong : ChangeSpec := { name := "digestForged", fn := fun _ => fun
  | [d1, d2] => { results := [.lit (.bool false)], args := [d1, d2] }
  | _ => none }
def DigestForgedWrongFalsely : Prop := digestForgedRow.holds Try.pinned (OpenSpec.ofChange digestForgedWrong)

/-- 'parolelaw03.DigestBytes': WHATEVER THE INPUT: true; the input reads as it did. -/
def digestBytesSpec : ChangeSpec := { name := "digestBytes", fn := fun _ => fun
  | [d1, d2, d3] => { results := [.lit (.bool true)], args := [d1, d2, d3] }
  | _ => none }
def digestBytesRow : OpenClaim := { program := "ytikicibbbeofnaa", sum := "264ed95f788777f691cf90c4abd8195b4763a52288535751f1059c66a6d642e2", func := "parole/parolelaw03.DigestBytes", spec := "digestBytes", apart := false }
def DigestBytesSaid : Prop := digestBytesRow.holds Try.pinned (OpenSpec.ofChange digestBytesSpec)

/-- ITS FALSE NEIGHBOUR: 'it returns false'. Refute it at one input. -/
def digestBytesWrong : ChangeSpec := { name := "digestBytes", fn := fun _ => fun
  | [d1, d2, d3] => { results := [.lit (.bool false)], args := [d1, d2, d3] }
  | _ => none }
def DigestBytesWrongFalsely : Prop := digestBytesRow.holds Try.pinned (OpenSpec.ofChange digestBytesWrong)

/-- 'parolelaw03.DigestMatchesReference': WHATEVER THE INPUT: true; the input reads as it did. -/
def digestMatchesReferenceSpec : ChangeSpec := { name := "digestMatchesReference", fn := fun _ => fun
  | [d1, d2, d3] => { results := [.lit (.bool true)], args := [d1, d2, d3] }
  | _ => none }
def digestMatchesReferenceRow : OpenClaim := { program := "ytikicibbbeofnaa", sum := "264ed95f788777f691cf90c4abd8195b4763a52288535751f1059c66a6d642e2", func := "parole/parolelaw03.DigestMatchesReference", spec := "digestMatchesReference", apart := false }
def DigestMatchesReferenceSaid : Prop := digestMatchesReferenceRow.holds Try.pinned (OpenSpec.ofChange digestMatchesReferenceSpec)

/-- ITS FALSE NEIGHBOUR: 'it returns false'. Refute it at one input. -/
def digestMatchesReferenceWrong : ChangeSpec := { name := "digestMatchesReference", fn := fun _ => fun
  | [d1, d2, d3] => { results := [.lit (.bool false)], args := [d1, d2, d3] }
  | _ => none }
def DigestMatchesReferenceWrongFalsely : Prop := digestMatchesReferenceRow.holds Try.pinned (OpenSpec.ofChange digestMatchesReferenceWrong)

/-- 'parolelaw04.MerkleOpens': WHATEVER THE INPUT: true; the input reads as it did. -/
def merkleOpensSpec : ChangeSpec := { name := "merkleOpens", fn := fun _ => fun
  | [d1, d2, d3] => { results := [.lit (.bool true)], args := [d1, d2, d3] }
  | _ => none }
def merkleOpensRow : OpenClaim := { program := "ytikicibbbeofnaa", sum := "264ed95f788777f691cf90c4abd8195b4763a52288535751f1059c66a6d642e2", func := "parole/parolelaw04.MerkleOpens", spec := "merkleOpens", unfollowed := true, recurses := true, apart := false }
def MerkleOpensSaid : Prop := merkleOpensRow.holds Try.pinned (OpenSpec.ofChange merkleOpensSpec)

/-- ITS FALSE NEIGHBOUR: 'it returns false'. Refute it at one input. -/
def merkleOpensWrong : ChangeSpec := { name := "merkleOpens", fn := fun _ => fun
  | [d1, d2, d3] => { results := [.lit (.bool false)], args := [d1, d2, d3] }
  | _ => none }
def MerkleOpensWrongFalsely : Prop := merkleOpensRow.holds Try.pinned (OpenSpec.ofChange merkleOpensWrong)

/-- 'parolelaw04.MerkleHalves': WHATEVER THE INPUT: true; the input reads as it did. -/
def merkleHalvesSpec : ChangeSpec := { name := "merkleHalves", fn := fun _ => fun
  | [d1, d2, d3] => { results := [.lit (.bool true)], args := [d1, d2, d3] }
  | _ => none }
def merkleHalvesRow : OpenClaim := { program := "ytikicibbbeofnaa", sum := "264ed95f788777f691cf90c4abd8195b4763a52288535751f1059c66a6d642e2", func := "parole/parolelaw04.MerkleHalves", spec := "merkleHalves", unfollowed := true, recurses := true, apart := false }
def MerkleHalvesSaid : Prop := merkleHalvesRow.holds Try.pinned (OpenSpec.ofChange merkleHalvesSpec)

/-- ITS FALSE NEIGHBOUR: 'it returns false'. Refute it at one input. -/
def merkleHalvesWrong : ChangeSpec := { name := "merkleHalves", fn := fun _ => fun
  | [d1, d2, d3] => { results := [.lit (.bool false)], args := [d1, d2, d3] }
  | _ => none }
def MerkleHalvesWrongFalsely : Prop := merkleHalvesRow.holds Try.pinned (OpenSpec.ofChange merkleHalvesWrong)

/-- 'parolelaw04.MerkleChanges': WHATEVER THE INPUT: true; the input reads as it did. -/
def merkleChangesSpec : ChangeSpec := { name := "merkleChanges", fn := fun _ => fun
  | [d1, d2, d3] => { results := [.lit (.bool true)], args := [d1, d2, d3] }
  | _ => none }
def merkleChangesRow : OpenClaim := { program := "ytikicibbbeofnaa", sum := "264ed95f788777f691cf90c4abd8195b4763a52288535751f1059c66a6d642e2", func := "parole/parolelaw04.MerkleChanges", spec := "merkleChanges", unfollowed := true, recurses := true, apart := false }
def MerkleChangesSaid : Prop := merkleChangesRow.holds Try.pinned (OpenSpec.ofChange merkleChangesSpec)

/-- ITS FALSE NEIGHBOUR: 'it returns false'. Refute it at one input. -/
def merkleChangesWrong : ChangeSpec := { name := "merkleChanges", fn := fun _ => fun
  | [d1, d2, d3] => { results := [.lit (.bool false)], args := [d1, d2, d3] }
  | _ => none }
def MerkleChangesWrongFalsely : Prop := merkleChangesRow.holds Try.pinned (OpenSpec.ofChange merkleChangesWrong)

/-- 'parolelaw04.MerkleRefuses': WHATEVER THE INPUT: true; the input reads as it did. -/
def merkleRefusesSpec : ChangeSpec := { name := "merkleRefuses", fn := fun _ => fun
  | [d1, d2, d3] => { results := [.lit (.bool true)], args := [d1, d2, d3] }
  | _ => none }
def merkleRefusesRow : OpenClaim := { program := "ytikicibbbeofnaa", sum := "264ed95f788777f691cf90c4abd8195b4763a52288535751f1059c66a6d642e2", func := "parole/parolelaw04.MerkleRefuses", spec := "merkleRefuses", unfollowed := true, recurses := true, apart := false }
def MerkleRefusesSaid : Prop := merkleRefusesRow.holds Try.pinned (OpenSpec.ofChange merkleRefusesSpec)

/-- ITS FALSE NEIGHBOUR: 'it returns false'. Refute it at one input. -/
def merkleRefusesWrong : ChangeSpec := { name := "merkleRefuses", fn := fun _ => fun
  | [d1, d2, d3] => { results := [.lit (.bool false)], args := [d1, d2, d3] }
  | _ => none }
def MerkleRefusesWrongFalsely : Prop := merkleRefusesRow.holds Try.pinned (OpenSpec.ofChange merkleRefusesWrong)

/-- 'parolelaw04.MerkleMatchesReference': WHATEVER THE INPUT: true; the input reads as it did. -/
def merkleMatchesReferenceSpec : ChangeSpec := { name := "merkleMatchesReference", fn := fun _ => fun
  | [d1, d2, d3] => { results := [.lit (.bool true)], args := [d1, d2, d3] }
  | _ => none }
def merkleMatchesReferenceRow : OpenClaim := { program := "ytikicibbbeofnaa", sum := "264ed95f788777f691cf90c4abd8195b4763a52288535751f1059c66a6d642e2", func := "parole/parolelaw04.MerkleMatchesReference", spec := "merkleMatchesReference", unfollowed := true, recurses := true, apart := false }
def MerkleMatchesReferenceSaid : Prop := merkleMatchesReferenceRow.holds Try.pinned (OpenSpec.ofChange merkleMatchesReferenceSpec)

/-- ITS FALSE NEIGHBOUR: 'it returns false'. Refute it at one input. -/
def merkleMatchesReferenceWrong : ChangeSpec := { name := "merkleMatchesReference", fn := fun _ => fun
  | [d1, d2, d3] => { results := [.lit (.bool false)], args := [d1, d2, d3] }
  | _ => none }
def MerkleMatchesReferenceWrongFalsely : Prop := merkleMatchesReferenceRow.holds Try.pinned (OpenSpec.ofChange merkleMatchesReferenceWrong)

/-- 'parolelaw04.MerkleBinds': WHATEVER THE INPUT: true; the input reads as it did. -/
def merkleBindsSpec : ChangeSpec := { name := "merkleBinds", fn := fun _ => fun
  | [d1, d2, d3] => { results := [.lit (.bool true)], args := [d1, d2, d3] }
  | _ => none }
def merkleBindsRow : OpenClaim := { program := "ytikicibbbeofnaa", sum := "264ed95f788777f691cf90c4abd8195b4763a52288535751f1059c66a6d642e2", func := "parole/parolelaw04.MerkleBinds", spec := "merkleBinds", unfollowed := true, recurses := true, apart := false }
def MerkleBindsSaid : Prop := merkleBindsRow.holds Try.pinned (OpenSpec.ofChange merkleBindsSpec)

/-- ITS FALSE NEIGHBOUR: 'it returns false'. Refute it at one input. -/
def merkleBindsWrong : ChangeSpec := { name := "merkleBinds", fn := fun _ => fun
  | [d1, d2, d3] => { results := [.lit (.bool false)], args := [d1, d2, d3] }
  | _ => none }
def MerkleBindsWrongFalsely : Prop := merkleBindsRow.holds Try.pinned (OpenSpec.ofChange merkleBindsWrong)

/- THE SECOND FORM. 'bulk': how many values and letters a reading holds, each counted each time it is reached (what is shared counts as often as it is met; a slice's spare places count too). A statement '..UptoSaid' is the law's where the arguments, and the package variables that the reading takes, are together of bulk at most 1048576: NARROWER than '..Said'. Prove '..Said' where nothing that the law and all that it calls make is longer than what came in: it says more and counts as full. Else prove '..UptoSaid'. A law counts once. -/
mutual
def uptoBulk {H : Type} : DataW H → Nat
  | .lit (.string bytes) => bytes.length + 1
  | .lit _ => 1
  | .nil => 1
  | .ptr d => uptoBulk d + 1
  | .slice elems spare => uptoBulkAll elems + uptoBulkAll spare + 1
  | .agg parts => uptoBulkAll parts + 1
  | .iface _ d => uptoBulk d + 1
  | .map entries => uptoBulkEntries entries + 1
  | .held _ => 1
def uptoBulkAll {H : Type} : List (DataW H) → Nat
  | [] => 0
  | d :: r => uptoBulk d + uptoBulkAll r
def uptoBulkEntries {H : Type} : List (Lit × DataW H) → Nat
  | [] => 0
  | x :: r => uptoBulkEntry x + uptoBulkEntries r
def uptoBulkEntry {H : Type} : Lit × DataW H → Nat
  | (.string bytes, d) => bytes.length + uptoBulk d + 1
  | (_, d) => uptoBulk d + 1
 end
def uptoSmall : (H : Type) → List (DataW H) → Bool := fun _ ds => decide (uptoBulkAll ds ≤ 1048576)
def OpenSpec.upto (s : _root_.Go.ChangeSpec) : _root_.Go.OpenSpec := { _root_.Go.OpenSpec.ofChange s with cond := some uptoSmall }

/-- 'parolelaw03.DigestSteps', WHERE WHAT IT READS IS OF BULK AT MOST 1048576: true; the input reads as it did. -/
def digestStepsUptoRow : OpenClaim := { program := "ytikicibbbeofnaa", sum := "264ed95f788777f691cf90c4abd8195b4763a52288535751f1059c66a6d642e2", func := "parole/parolelaw03.DigestSteps", spec := "digestSteps", apart := false, narrowed := true }
def DigestStepsUptoSaid : Prop := digestStepsUptoRow.holds Try.pinned (OpenSpec.upto digestStepsSpec)

/-- 'parolelaw03.DigestTexts', WHERE WHAT IT READS IS OF BULK AT MOST 1048576: true; the input reads as it did. -/
def digestTextsUptoRow : OpenClaim := { program := "ytikicibbbeofnaa", sum := "264ed95f788777f691cf90c4abd8195b4763a52288535751f1059c66a6d642e2", func := "parole/parolelaw03.DigestTexts", spec := "digestTexts", apart := false, narrowed := true }
def DigestTextsUptoSaid : Prop := digestTextsUptoRow.holds Try.pinned (OpenSpec.upto digestTextsSpec)

/-- 'parolelaw03.DigestJoins', WHERE WHAT IT READS IS OF BULK AT MOST 1048576: true; the input reads as it did. -/
def digestJoinsUptoRow : OpenClaim := { program := "ytikicibbbeofnaa", sum := "264ed95f788777f691cf90c4abd8195b4763a52288535751f1059c66a6d642e2", func := "parole/parolelaw03.DigestJoins", spec := "digestJoins", apart := false, narrowed := true }
def DigestJoinsUptoSaid : Prop := digestJoinsUptoRow.holds Try.pinned (OpenSpec.upto digestJoinsSpec)

/-- 'parolelaw03.DigestLists', WHERE WHAT IT READS IS OF BULK AT MOST 1048576: true; the input reads as it did. -/
def digestListsUptoRow : OpenClaim := { program := "ytikicibbbeofnaa", sum := "264ed95f788777f691cf90c4abd8195b4763a52288535751f1059c66a6d642e2", func := "parole/parolelaw03.DigestLists", spec := "digestLists", apart := false, narrowed := true }
def DigestListsUptoSaid : Prop := digestListsUptoRow.holds Try.pinned (OpenSpec.upto digestListsSpec)

/-- 'parolelaw03.DigestForged', WHERE WHAT IT READS IS OF BULK AT MOST 1048576: true; the input reads as it did. -/
def digestForgedUptoRow : OpenClaim := { program := "ytikicibbbeofnaa", sum := "264ed95f788777f691cf90c4abd8195b4763a52288535751f1059c66a6d642e2", func := "parole/parolelaw03.DigestForged", spec := "digestForged", apart := false, narrowed := true }
def DigestForgedUptoSaid : Prop := digestForgedUptoRow.holds Try.pinned (OpenSpec.upto digestForgedSpec)

/-- 'parolelaw03.DigestBytes', WHERE WHAT IT READS IS OF BULK AT MOST 1048576: true; the input reads as it did. -/
def digestBytesUptoRow : OpenClaim := { program := "ytikicibbbeofnaa", sum := "264ed95f788777f691cf90c4abd8195b4763a52288535751f1059c66a6d642e2", func := "parole/parolelaw03.DigestBytes", spec := "digestBytes", apart := false, narrowed := true }
def DigestBytesUptoSaid : Prop := digestBytesUptoRow.holds Try.pinned (OpenSpec.upto digestBytesSpec)

/-- 'parolelaw03.DigestMatchesReference', WHERE WHAT IT READS IS OF BULK AT MOST 1048576: true; the input reads as it did. -/
def digestMatchesReferenceUptoRow : OpenClaim := { program := "ytikicibbbeofnaa", sum := "264ed95f788777f691cf90c4abd8195b4763a52288535751f1059c66a6d642e2", func := "parole/parolelaw03.DigestMatchesReference", spec := "digestMatchesReference", apart := false, narrowed := true }
def DigestMatchesReferenceUptoSaid : Prop := digestMatchesReferenceUptoRow.holds Try.pinned (OpenSpec.upto digestMatchesReferenceSpec)

/-- 'parolelaw04.MerkleOpens', WHERE WHAT IT READS IS OF BULK AT MOST 1048576: true; the input reads as it did. -/
def merkleOpensUptoRow : OpenClaim := { program := "ytikicibbbeofnaa", sum := "264ed95f788777f691cf90c4abd8195b4763a52288535751f1059c66a6d642e2", func := "parole/parolelaw04.MerkleOpens", spec := "merkleOpens", unfollowed := true, recurses := true, apart := false, narrowed := true }
def MerkleOpensUptoSaid : Prop := merkleOpensUptoRow.holds Try.pinned (OpenSpec.upto merkleOpensSpec)

/-- 'parolelaw04.MerkleHalves', WHERE WHAT IT READS IS OF BULK AT MOST 1048576: true; the input reads as it did. -/
def merkleHalvesUptoRow : OpenClaim := { program := "ytikicibbbeofnaa", sum := "264ed95f788777f691cf90c4abd8195b4763a52288535751f1059c66a6d642e2", func := "parole/parolelaw04.MerkleHalves", spec := "merkleHalves", unfollowed := true, recurses := true, apart := false, narrowed := true }
def MerkleHalvesUptoSaid : Prop := merkleHalvesUptoRow.holds Try.pinned (OpenSpec.upto merkleHalvesSpec)

/-- 'parolelaw04.MerkleChanges', WHERE WHAT IT READS IS OF BULK AT MOST 1048576: true; the input reads as it did. -/
def merkleChangesUptoRow : OpenClaim := { program := "ytikicibbbeofnaa", sum := "264ed95f788777f691cf90c4abd8195b4763a52288535751f1059c66a6d642e2", func := "parole/parolelaw04.MerkleChanges", spec := "merkleChanges", unfollowed := true, recurses := true, apart := false, narrowed := true }
def MerkleChangesUptoSaid : Prop := merkleChangesUptoRow.holds Try.pinned (OpenSpec.upto merkleChangesSpec)

/-- 'parolelaw04.MerkleRefuses', WHERE WHAT IT READS IS OF BULK AT MOST 1048576: true; the input reads as it did. -/
def merkleRefusesUptoRow : OpenClaim := { program := "ytikicibbbeofnaa", sum := "264ed95f788777f691cf90c4abd8195b4763a52288535751f1059c66a6d642e2", func := "parole/parolelaw04.MerkleRefuses", spec := "merkleRefuses", unfollowed := true, recurses := true, apart := false, narrowed := true }
def MerkleRefusesUptoSaid : Prop := merkleRefusesUptoRow.holds Try.pinned (OpenSpec.upto merkleRefusesSpec)

/-- 'parolelaw04.MerkleMatchesReference', WHERE WHAT IT READS IS OF BULK AT MOST 1048576: true; the input reads as it did. -/
def merkleMatchesReferenceUptoRow : OpenClaim := { program := "ytikicibbbeofnaa", sum := "264ed95f788777f691cf90c4abd8195b4763a52288535751f1059c66a6d642e2", func := "parole/parolelaw04.MerkleMatchesReference", spec := "merkleMatchesReference", unfollowed := true, recurses := true, apart := false, narrowed := true }
def MerkleMatchesReferenceUptoSaid : Prop := merkleMatchesReferenceUptoRow.holds Try.pinned (OpenSpec.upto merkleMatchesReferenceSpec)

/-- 'parolelaw04.MerkleBinds', WHERE WHAT IT READS IS OF BULK AT MOST 1048576: true; the input reads as it did. -/
def merkleBindsUptoRow : OpenClaim := { program := "ytikicibbbeofnaa", sum := "264ed95f788777f691cf90c4abd8195b4763a52288535751f1059c66a6d642e2", func := "parole/parolelaw04.MerkleBinds", spec := "merkleBinds", unfollowed := true, recurses := true, apart := false, narrowed := true }
def MerkleBindsUptoSaid : Prop := merkleBindsUptoRow.holds Try.pinned (OpenSpec.upto merkleBindsSpec)

end Rows
end Go.Proofs.Ytikicibbbeofnaa
