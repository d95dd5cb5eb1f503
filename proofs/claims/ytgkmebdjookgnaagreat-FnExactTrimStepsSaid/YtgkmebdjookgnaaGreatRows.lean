/-
  No cell of these rows narrows 'for every input' (looked for: loops, veiled, ifaces, maps, wideKeys, modest, calm, conditions, laid).
  DERIVED. THE GIVEN ROWS OF THIS SEAT. 12 by the template 'for every input the law returns true; each argument reads behind the call as it read before'; 0 by the template 'total and deterministic' (their statements: YtgkmebdjookgnaaGreatTotals.lean).
  GIVEN WITH THE SEED: the statements are not yours to turn. If you find one false, say at which input.
  Laid BY PROGRAM, IN A SANDBOX (cutbox-rows.mjs): the forced cells as the released guide's own fill.sh prints them over the translation 439a7cc9c228eb19… (all of the seat's roots in one cut). By AI agents, Wed Nov 11 2026. No macro, syntax, notation, axiom, sorry.
-/
import Derived.Test.YtgkmebdjookgnaaGreatChecked
import GoSem.Claim
import GoSem.ClaimJoined
import GoSem.ClaimMapViews
import Derived.JoinedTies
import Derived.KernelRfl
namespace Go.Proofs.YtgkmebdjookgnaaGreat
/- THE CELL 'sum', in the pinned program and in every row, IS THE sha256 OF THE DUMP (.gsa) THAT YtgkmebdjookgnaaGreatProg.lean LOADS. Nothing in Lean hashes anything: it is a label: what it is worth is what the hold of that sum in a sandbox is worth. -/
noncomputable def Tryz.pinned : Pinned := { name := "ytgkmebdjookgnaagreat", sum := "439a7cc9c228eb19202945d51648539351510ab4a93086af4ff4b1ce8aac8655", checked := Tryz.checked }
namespace Rows
def none {H : Type} : Left H := { results := [], args := [] }

/-- 'laws.FnExactAfterSpaceSteps': WHATEVER THE INPUT: true; the input reads as it did. -/
def fnExactAfterSpaceStepsSpec : ChangeSpec := { name := "fnExactAfterSpaceSteps", fn := fun _ => fun
  | [d1, d2] => { results := [.lit (.bool true)], args := [d1, d2] }
  | _ => none }
def fnExactAfterSpaceStepsRow : OpenClaim := { program := "ytgkmebdjookgnaagreat", sum := "439a7cc9c228eb19202945d51648539351510ab4a93086af4ff4b1ce8aac8655", func := "loop.example/g01080/laws.FnExactAfterSpaceSteps", spec := "fnExactAfterSpaceSteps", unfollowed := true, recurses := true, apart := false }
def FnExactAfterSpaceStepsSaid : Prop := fnExactAfterSpaceStepsRow.holds Tryz.pinned (OpenSpec.ofChange fnExactAfterSpaceStepsSpec)

/-- ITS FALSE NEIGHBOUR: 'it returns false'. Refute it at one input. -/
def fnExactAfterSpaceStepsWrong : ChangeSpec := { name := "fnExactAfterSpaceSteps", fn := fun _ => fun
  | [d1, d2] => { results := [.lit (.bool false)], args := [d1, d2] }
  | _ => none }
def FnExactAfterSpaceStepsWrongFalsely : Prop := fnExactAfterSpaceStepsRow.holds Tryz.pinned (OpenSpec.ofChange fnExactAfterSpaceStepsWrong)

/-- 'laws.FnExactClausesOfRun': WHATEVER THE INPUT: true; the input reads as it did. -/
def fnExactClausesOfRunSpec : ChangeSpec := { name := "fnExactClausesOfRun", fn := fun _ => fun
  | [d1, d2] => { results := [.lit (.bool true)], args := [d1, d2] }
  | _ => none }
def fnExactClausesOfRunRow : OpenClaim := { program := "ytgkmebdjookgnaagreat", sum := "439a7cc9c228eb19202945d51648539351510ab4a93086af4ff4b1ce8aac8655", func := "loop.example/g01080/laws.FnExactClausesOfRun", spec := "fnExactClausesOfRun", unfollowed := true, recurses := true, apart := false }
def FnExactClausesOfRunSaid : Prop := fnExactClausesOfRunRow.holds Tryz.pinned (OpenSpec.ofChange fnExactClausesOfRunSpec)

/-- ITS FALSE NEIGHBOUR: 'it returns false'. Refute it at one input. -/
def fnExactClausesOfRunWrong : ChangeSpec := { name := "fnExactClausesOfRun", fn := fun _ => fun
  | [d1, d2] => { results := [.lit (.bool false)], args := [d1, d2] }
  | _ => none }
def FnExactClausesOfRunWrongFalsely : Prop := fnExactClausesOfRunRow.holds Tryz.pinned (OpenSpec.ofChange fnExactClausesOfRunWrong)

/-- 'laws.FnExactRunToProof': WHATEVER THE INPUT: true; the input reads as it did. -/
def fnExactRunToProofSpec : ChangeSpec := { name := "fnExactRunToProof", fn := fun _ => fun
  | [d1, d2] => { results := [.lit (.bool true)], args := [d1, d2] }
  | _ => none }
def fnExactRunToProofRow : OpenClaim := { program := "ytgkmebdjookgnaagreat", sum := "439a7cc9c228eb19202945d51648539351510ab4a93086af4ff4b1ce8aac8655", func := "loop.example/g01080/laws.FnExactRunToProof", spec := "fnExactRunToProof", unfollowed := true, recurses := true, apart := false }
def FnExactRunToProofSaid : Prop := fnExactRunToProofRow.holds Tryz.pinned (OpenSpec.ofChange fnExactRunToProofSpec)

/-- ITS FALSE NEIGHBOUR: 'it returns false'. Refute it at one input. -/
def fnExactRunToProofWrong : ChangeSpec := { name := "fnExactRunToProof", fn := fun _ => fun
  | [d1, d2] => { results := [.lit (.bool false)], args := [d1, d2] }
  | _ => none }
def FnExactRunToProofWrongFalsely : Prop := fnExactRunToProofRow.holds Tryz.pinned (OpenSpec.ofChange fnExactRunToProofWrong)

/-- 'laws.FnExactBenchClauses': WHATEVER THE INPUT: true; the input reads as it did. -/
def fnExactBenchClausesSpec : ChangeSpec := { name := "fnExactBenchClauses", fn := fun _ => fun
  | [d] => { results := [.lit (.bool true)], args := [d] }
  | _ => none }
def fnExactBenchClausesRow : OpenClaim := { program := "ytgkmebdjookgnaagreat", sum := "439a7cc9c228eb19202945d51648539351510ab4a93086af4ff4b1ce8aac8655", func := "loop.example/g01080/laws.FnExactBenchClauses", spec := "fnExactBenchClauses", unfollowed := true, recurses := true, apart := false }
def FnExactBenchClausesSaid : Prop := fnExactBenchClausesRow.holds Tryz.pinned (OpenSpec.ofChange fnExactBenchClausesSpec)

/-- ITS FALSE NEIGHBOUR: 'it returns false'. Refute it at one input. -/
def fnExactBenchClausesWrong : ChangeSpec := { name := "fnExactBenchClauses", fn := fun _ => fun
  | [d] => { results := [.lit (.bool false)], args := [d] }
  | _ => none }
def FnExactBenchClausesWrongFalsely : Prop := fnExactBenchClausesRow.holds Tryz.pinned (OpenSpec.ofChange fnExactBenchClausesWrong)

/-- 'laws.FnExactStepPivots': WHATEVER THE INPUT: true; the input reads as it did. -/
def fnExactStepPivotsSpec : ChangeSpec := { name := "fnExactStepPivots", fn := fun _ => fun
  | [d1, d2] => { results := [.lit (.bool true)], args := [d1, d2] }
  | _ => none }
def fnExactStepPivotsRow : OpenClaim := { program := "ytgkmebdjookgnaagreat", sum := "439a7cc9c228eb19202945d51648539351510ab4a93086af4ff4b1ce8aac8655", func := "loop.example/g01080/laws.FnExactStepPivots", spec := "fnExactStepPivots", unfollowed := true, recurses := true, apart := false }
def FnExactStepPivotsSaid : Prop := fnExactStepPivotsRow.holds Tryz.pinned (OpenSpec.ofChange fnExactStepPivotsSpec)

/-- ITS FALSE NEIGHBOUR: 'it returns false'. Refute it at one input. -/
def fnExactStepPivotsWrong : ChangeSpec := { name := "fnExactStepPivots", fn := fun _ => fun
  | [d1, d2] => { results := [.lit (.bool false)], args := [d1, d2] }
  | _ => none }
def FnExactStepPivotsWrongFalsely : Prop := fnExactStepPivotsRow.holds Tryz.pinned (OpenSpec.ofChange fnExactStepPivotsWrong)

/-- 'laws.FnExactIsOrderedProof': WHATEVER THE INPUT: true; the input reads as it did. -/
def fnExactIsOrderedProofSpec : ChangeSpec := { name := "fnExactIsOrderedProof", fn := fun _ => fun
  | [d1, d2, d3] => { results := [.lit (.bool true)], args := [d1, d2, d3] }
  | _ => none }
def fnExactIsOrderedProofRow : OpenClaim := { program := "ytgkmebdjookgnaagreat", sum := "439a7cc9c228eb19202945d51648539351510ab4a93086af4ff4b1ce8aac8655", func := "loop.example/g01080/laws.FnExactIsOrderedProof", spec := "fnExactIsOrderedProof", unfollowed := true, recurses := true, apart := false }
def FnExactIsOrderedProofSaid : Prop := fnExactIsOrderedProofRow.holds Tryz.pinned (OpenSpec.ofChange fnExactIsOrderedProofSpec)

/-- ITS FALSE NEIGHBOUR: 'it returns false'. Refute it at one input. -/
def fnExactIsOrderedProofWrong : ChangeSpec := { name := "fnExactIsOrderedProof", fn := fun _ => fun
  | [d1, d2, d3] => { results := [.lit (.bool false)], args := [d1, d2, d3] }
  | _ => none }
def FnExactIsOrderedProofWrongFalsely : Prop := fnExactIsOrderedProofRow.holds Tryz.pinned (OpenSpec.ofChange fnExactIsOrderedProofWrong)

/-- 'laws.FnExactDagOfProof': WHATEVER THE INPUT: true; the input reads as it did. -/
def fnExactDagOfProofSpec : ChangeSpec := { name := "fnExactDagOfProof", fn := fun _ => fun
  | [d1, d2] => { results := [.lit (.bool true)], args := [d1, d2] }
  | _ => none }
def fnExactDagOfProofRow : OpenClaim := { program := "ytgkmebdjookgnaagreat", sum := "439a7cc9c228eb19202945d51648539351510ab4a93086af4ff4b1ce8aac8655", func := "loop.example/g01080/laws.FnExactDagOfProof", spec := "fnExactDagOfProof", unfollowed := true, recurses := true, apart := false }
def FnExactDagOfProofSaid : Prop := fnExactDagOfProofRow.holds Tryz.pinned (OpenSpec.ofChange fnExactDagOfProofSpec)

/-- ITS FALSE NEIGHBOUR: 'it returns false'. Refute it at one input. -/
def fnExactDagOfProofWrong : ChangeSpec := { name := "fnExactDagOfProof", fn := fun _ => fun
  | [d1, d2] => { results := [.lit (.bool false)], args := [d1, d2] }
  | _ => none }
def FnExactDagOfProofWrongFalsely : Prop := fnExactDagOfProofRow.holds Tryz.pinned (OpenSpec.ofChange fnExactDagOfProofWrong)

/-- 'laws.FnExactTrimSteps': WHATEVER THE INPUT: true; the input reads as it did. -/
def fnExactTrimStepsSpec : ChangeSpec := { name := "fnExactTrimSteps", fn := fun _ => fun
  | [d1, d2] => { results := [.lit (.bool true)], args := [d1, d2] }
  | _ => none }
def fnExactTrimStepsRow : OpenClaim := { program := "ytgkmebdjookgnaagreat", sum := "439a7cc9c228eb19202945d51648539351510ab4a93086af4ff4b1ce8aac8655", func := "loop.example/g01080/laws.FnExactTrimSteps", spec := "fnExactTrimSteps", unfollowed := true, recurses := true, apart := false }
def FnExactTrimStepsSaid : Prop := fnExactTrimStepsRow.holds Tryz.pinned (OpenSpec.ofChange fnExactTrimStepsSpec)

/-- ITS FALSE NEIGHBOUR: 'it returns false'. Refute it at one input. -/
def fnExactTrimStepsWrong : ChangeSpec := { name := "fnExactTrimSteps", fn := fun _ => fun
  | [d1, d2] => { results := [.lit (.bool false)], args := [d1, d2] }
  | _ => none }
def FnExactTrimStepsWrongFalsely : Prop := fnExactTrimStepsRow.holds Tryz.pinned (OpenSpec.ofChange fnExactTrimStepsWrong)

/-- 'laws.FnExactUsedAxioms': WHATEVER THE INPUT: true; the input reads as it did. -/
def fnExactUsedAxiomsSpec : ChangeSpec := { name := "fnExactUsedAxioms", fn := fun _ => fun
  | [d1, d2] => { results := [.lit (.bool true)], args := [d1, d2] }
  | _ => none }
def fnExactUsedAxiomsRow : OpenClaim := { program := "ytgkmebdjookgnaagreat", sum := "439a7cc9c228eb19202945d51648539351510ab4a93086af4ff4b1ce8aac8655", func := "loop.example/g01080/laws.FnExactUsedAxioms", spec := "fnExactUsedAxioms", unfollowed := true, recurses := true, apart := false }
def FnExactUsedAxiomsSaid : Prop := fnExactUsedAxiomsRow.holds Tryz.pinned (OpenSpec.ofChange fnExactUsedAxiomsSpec)

/-- ITS FALSE NEIGHBOUR: 'it returns false'. Refute it at one input. -/
def fnExactUsedAxiomsWrong : ChangeSpec := { name := "fnExactUsedAxioms", fn := fun _ => fun
  | [d1, d2] => { results := [.lit (.bool false)], args := [d1, d2] }
  | _ => none }
def FnExactUsedAxiomsWrongFalsely : Prop := fnExactUsedAxiomsRow.holds Tryz.pinned (OpenSpec.ofChange fnExactUsedAxiomsWrong)

/-- 'laws.FnExactIsRegularProof': WHATEVER THE INPUT: true; the input reads as it did. -/
def fnExactIsRegularProofSpec : ChangeSpec := { name := "fnExactIsRegularProof", fn := fun _ => fun
  | [d1, d2] => { results := [.lit (.bool true)], args := [d1, d2] }
  | _ => none }
def fnExactIsRegularProofRow : OpenClaim := { program := "ytgkmebdjookgnaagreat", sum := "439a7cc9c228eb19202945d51648539351510ab4a93086af4ff4b1ce8aac8655", func := "loop.example/g01080/laws.FnExactIsRegularProof", spec := "fnExactIsRegularProof", unfollowed := true, recurses := true, apart := false }
def FnExactIsRegularProofSaid : Prop := fnExactIsRegularProofRow.holds Tryz.pinned (OpenSpec.ofChange fnExactIsRegularProofSpec)

/-- ITS FALSE NEIGHBOUR: 'it returns false'. Refute it at one input. -/
def fnExactIsRegularProofWrong : ChangeSpec := { name := "fnExactIsRegularProof", fn := fun _ => fun
  | [d1, d2] => { results := [.lit (.bool false)], args := [d1, d2] }
  | _ => none }
def FnExactIsRegularProofWrongFalsely : Prop := fnExactIsRegularProofRow.holds Tryz.pinned (OpenSpec.ofChange fnExactIsRegularProofWrong)

/-- 'laws.FnExactFirstIrregular': WHATEVER THE INPUT: true; the input reads as it did. -/
def fnExactFirstIrregularSpec : ChangeSpec := { name := "fnExactFirstIrregular", fn := fun _ => fun
  | [d1, d2] => { results := [.lit (.bool true)], args := [d1, d2] }
  | _ => none }
def fnExactFirstIrregularRow : OpenClaim := { program := "ytgkmebdjookgnaagreat", sum := "439a7cc9c228eb19202945d51648539351510ab4a93086af4ff4b1ce8aac8655", func := "loop.example/g01080/laws.FnExactFirstIrregular", spec := "fnExactFirstIrregular", unfollowed := true, recurses := true, apart := false }
def FnExactFirstIrregularSaid : Prop := fnExactFirstIrregularRow.holds Tryz.pinned (OpenSpec.ofChange fnExactFirstIrregularSpec)

/-- ITS FALSE NEIGHBOUR: 'it returns false'. Refute it at one input. -/
def fnExactFirstIrregularWrong : ChangeSpec := { name := "fnExactFirstIrregular", fn := fun _ => fun
  | [d1, d2] => { results := [.lit (.bool false)], args := [d1, d2] }
  | _ => none }
def FnExactFirstIrregularWrongFalsely : Prop := fnExactFirstIrregularRow.holds Tryz.pinned (OpenSpec.ofChange fnExactFirstIrregularWrong)

/-- 'laws.FnExactReplayProof': WHATEVER THE INPUT: true; the input reads as it did. -/
def fnExactReplayProofSpec : ChangeSpec := { name := "fnExactReplayProof", fn := fun _ => fun
  | [d1, d2] => { results := [.lit (.bool true)], args := [d1, d2] }
  | _ => none }
def fnExactReplayProofRow : OpenClaim := { program := "ytgkmebdjookgnaagreat", sum := "439a7cc9c228eb19202945d51648539351510ab4a93086af4ff4b1ce8aac8655", func := "loop.example/g01080/laws.FnExactReplayProof", spec := "fnExactReplayProof", unfollowed := true, recurses := true, apart := false }
def FnExactReplayProofSaid : Prop := fnExactReplayProofRow.holds Tryz.pinned (OpenSpec.ofChange fnExactReplayProofSpec)

/-- ITS FALSE NEIGHBOUR: 'it returns false'. Refute it at one input. -/
def fnExactReplayProofWrong : ChangeSpec := { name := "fnExactReplayProof", fn := fun _ => fun
  | [d1, d2] => { results := [.lit (.bool false)], args := [d1, d2] }
  | _ => none }
def FnExactReplayProofWrongFalsely : Prop := fnExactReplayProofRow.holds Tryz.pinned (OpenSpec.ofChange fnExactReplayProofWrong)

/- THE SECOND FORM. 'bulk': how many values and letters a reading holds, each counted each time it is reached (what is shared counts as often as it is met; a slice's spare places count too). A statement '..UptoSaid' is the law's where the arguments, and the package variables that the reading takes, are together of bulk at most 1048576: NARROWER than '..Said'. Prove '..Said' where nothing that the law and all that it calls make is longer than what came in: it says more and counts as full. Else prove '..UptoSaid'. A law counts once. -/
mutual
def uptoBulk {H : Type} : DataW H → Nat
  | .lit (.string bytes) => bytes.length + 1
  | .lit _ => 1
  | .nil => 1
  | .ptr d => uptoBulk d + 1
  | .slice elems spare => uptoBulkAll elems + uptoBulkAll spare + 1
  | .agg parts => uptoBulkAll parts + 1
  | .iface _ d => uptoBulk d + 1
  | .map entries => uptoBulkEntries entries + 1
  | .held _ => 1
def uptoBulkAll {H : Type} : List (DataW H) → Nat
  | [] => 0
  | d :: r => uptoBulk d + uptoBulkAll r
def uptoBulkEntries {H : Type} : List (Lit × DataW H) → Nat
  | [] => 0
  | x :: r => uptoBulkEntry x + uptoBulkEntries r
def uptoBulkEntry {H : Type} : Lit × DataW H → Nat
  | (.string bytes, d) => bytes.length + uptoBulk d + 1
  | (_, d) => uptoBulk d + 1
 end
def uptoSmall : (H : Type) → List (DataW H) → Bool := fun _ ds => decide (uptoBulkAll ds ≤ 1048576)
def OpenSpec.upto (s : _root_.Go.ChangeSpec) : _root_.Go.OpenSpec := { _root_.Go.OpenSpec.ofChange s with cond := some uptoSmall }

/-- 'laws.FnExactAfterSpaceSteps', WHERE WHAT IT READS IS OF BULK AT MOST 1048576: true; the input reads as it did. -/
def fnExactAfterSpaceStepsUptoRow : OpenClaim := { program := "ytgkmebdjookgnaagreat", sum := "439a7cc9c228eb19202945d51648539351510ab4a93086af4ff4b1ce8aac8655", func := "loop.example/g01080/laws.FnExactAfterSpaceSteps", spec := "fnExactAfterSpaceSteps", unfollowed := true, recurses := true, apart := false, narrowed := true }
def FnExactAfterSpaceStepsUptoSaid : Prop := fnExactAfterSpaceStepsUptoRow.holds Tryz.pinned (OpenSpec.upto fnExactAfterSpaceStepsSpec)

/-- 'laws.FnExactClausesOfRun', WHERE WHAT IT READS IS OF BULK AT MOST 1048576: true; the input reads as it did. -/
def fnExactClausesOfRunUptoRow : OpenClaim := { program := "ytgkmebdjookgnaagreat", sum := "439a7cc9c228eb19202945d51648539351510ab4a93086af4ff4b1ce8aac8655", func := "loop.example/g01080/laws.FnExactClausesOfRun", spec := "fnExactClausesOfRun", unfollowed := true, recurses := true, apart := false, narrowed := true }
def FnExactClausesOfRunUptoSaid : Prop := fnExactClausesOfRunUptoRow.holds Tryz.pinned (OpenSpec.upto fnExactClausesOfRunSpec)

/-- 'laws.FnExactRunToProof', WHERE WHAT IT READS IS OF BULK AT MOST 1048576: true; the input reads as it did. -/
def fnExactRunToProofUptoRow : OpenClaim := { program := "ytgkmebdjookgnaagreat", sum := "439a7cc9c228eb19202945d51648539351510ab4a93086af4ff4b1ce8aac8655", func := "loop.example/g01080/laws.FnExactRunToProof", spec := "fnExactRunToProof", unfollowed := true, recurses := true, apart := false, narrowed := true }
def FnExactRunToProofUptoSaid : Prop := fnExactRunToProofUptoRow.holds Tryz.pinned (OpenSpec.upto fnExactRunToProofSpec)

/-- 'laws.FnExactBenchClauses', WHERE WHAT IT READS IS OF BULK AT MOST 1048576: true; the input reads as it did. -/
def fnExactBenchClausesUptoRow : OpenClaim := { program := "ytgkmebdjookgnaagreat", sum := "439a7cc9c228eb19202945d51648539351510ab4a93086af4ff4b1ce8aac8655", func := "loop.example/g01080/laws.FnExactBenchClauses", spec := "fnExactBenchClauses", unfollowed := true, recurses := true, apart := false, narrowed := true }
def FnExactBenchClausesUptoSaid : Prop := fnExactBenchClausesUptoRow.holds Tryz.pinned (OpenSpec.upto fnExactBenchClausesSpec)

/-- 'laws.FnExactStepPivots', WHERE WHAT IT READS IS OF BULK AT MOST 1048576: true; the input reads as it did. -/
def fnExactStepPivotsUptoRow : OpenClaim := { program := "ytgkmebdjookgnaagreat", sum := "439a7cc9c228eb19202945d51648539351510ab4a93086af4ff4b1ce8aac8655", func := "loop.example/g01080/laws.FnExactStepPivots", spec := "fnExactStepPivots", unfollowed := true, recurses := true, apart := false, narrowed := true }
def FnExactStepPivotsUptoSaid : Prop := fnExactStepPivotsUptoRow.holds Tryz.pinned (OpenSpec.upto fnExactStepPivotsSpec)

/-- 'laws.FnExactIsOrderedProof', WHERE WHAT IT READS IS OF BULK AT MOST 1048576: true; the input reads as it did. -/
def fnExactIsOrderedProofUptoRow : OpenClaim := { program := "ytgkmebdjookgnaagreat", sum := "439a7cc9c228eb19202945d51648539351510ab4a93086af4ff4b1ce8aac8655", func := "loop.example/g01080/laws.FnExactIsOrderedProof", spec := "fnExactIsOrderedProof", unfollowed := true, recurses := true, apart := false, narrowed := true }
def FnExactIsOrderedProofUptoSaid : Prop := fnExactIsOrderedProofUptoRow.holds Tryz.pinned (OpenSpec.upto fnExactIsOrderedProofSpec)

/-- 'laws.FnExactDagOfProof', WHERE WHAT IT READS IS OF BULK AT MOST 1048576: true; the input reads as it did. -/
def fnExactDagOfProofUptoRow : OpenClaim := { program := "ytgkmebdjookgnaagreat", sum := "439a7cc9c228eb19202945d51648539351510ab4a93086af4ff4b1ce8aac8655", func := "loop.example/g01080/laws.FnExactDagOfProof", spec := "fnExactDagOfProof", unfollowed := true, recurses := true, apart := false, narrowed := true }
def FnExactDagOfProofUptoSaid : Prop := fnExactDagOfProofUptoRow.holds Tryz.pinned (OpenSpec.upto fnExactDagOfProofSpec)

/-- 'laws.FnExactTrimSteps', WHERE WHAT IT READS IS OF BULK AT MOST 1048576: true; the input reads as it did. -/
def fnExactTrimStepsUptoRow : OpenClaim := { program := "ytgkmebdjookgnaagreat", sum := "439a7cc9c228eb19202945d51648539351510ab4a93086af4ff4b1ce8aac8655", func := "loop.example/g01080/laws.FnExactTrimSteps", spec := "fnExactTrimSteps", unfollowed := true, recurses := true, apart := false, narrowed := true }
def FnExactTrimStepsUptoSaid : Prop := fnExactTrimStepsUptoRow.holds Tryz.pinned (OpenSpec.upto fnExactTrimStepsSpec)

/-- 'laws.FnExactUsedAxioms', WHERE WHAT IT READS IS OF BULK AT MOST 1048576: true; the input reads as it did. -/
def fnExactUsedAxiomsUptoRow : OpenClaim := { program := "ytgkmebdjookgnaagreat", sum := "439a7cc9c228eb19202945d51648539351510ab4a93086af4ff4b1ce8aac8655", func := "loop.example/g01080/laws.FnExactUsedAxioms", spec := "fnExactUsedAxioms", unfollowed := true, recurses := true, apart := false, narrowed := true }
def FnExactUsedAxiomsUptoSaid : Prop := fnExactUsedAxiomsUptoRow.holds Tryz.pinned (OpenSpec.upto fnExactUsedAxiomsSpec)

/-- 'laws.FnExactIsRegularProof', WHERE WHAT IT READS IS OF BULK AT MOST 1048576: true; the input reads as it did. -/
def fnExactIsRegularProofUptoRow : OpenClaim := { program := "ytgkmebdjookgnaagreat", sum := "439a7cc9c228eb19202945d51648539351510ab4a93086af4ff4b1ce8aac8655", func := "loop.example/g01080/laws.FnExactIsRegularProof", spec := "fnExactIsRegularProof", unfollowed := true, recurses := true, apart := false, narrowed := true }
def FnExactIsRegularProofUptoSaid : Prop := fnExactIsRegularProofUptoRow.holds Tryz.pinned (OpenSpec.upto fnExactIsRegularProofSpec)

/-- 'laws.FnExactFirstIrregular', WHERE WHAT IT READS IS OF BULK AT MOST 1048576: true; the input reads as it did. -/
def fnExactFirstIrregularUptoRow : OpenClaim := { program := "ytgkmebdjookgnaagreat", sum := "439a7cc9c228eb19202945d51648539351510ab4a93086af4ff4b1ce8aac8655", func := "loop.example/g01080/laws.FnExactFirstIrregular", spec := "fnExactFirstIrregular", unfollowed := true, recurses := true, apart := false, narrowed := true }
def FnExactFirstIrregularUptoSaid : Prop := fnExactFirstIrregularUptoRow.holds Tryz.pinned (OpenSpec.upto fnExactFirstIrregularSpec)

/-- 'laws.FnExactReplayProof', WHERE WHAT IT READS IS OF BULK AT MOST 1048576: true; the input reads as it did. -/
def fnExactReplayProofUptoRow : OpenClaim := { program := "ytgkmebdjookgnaagreat", sum := "439a7cc9c228eb19202945d51648539351510ab4a93086af4ff4b1ce8aac8655", func := "loop.example/g01080/laws.FnExactReplayProof", spec := "fnExactReplayProof", unfollowed := true, recurses := true, apart := false, narrowed := true }
def FnExactReplayProofUptoSaid : Prop := fnExactReplayProofUptoRow.holds Tryz.pinned (OpenSpec.upto fnExactReplayProofSpec)

end Rows
end Go.Proofs.YtgkmebdjookgnaaGreat
