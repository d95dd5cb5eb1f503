/-
  No cell of these rows narrows 'for every input' (looked for: loops, veiled, ifaces, maps, wideKeys, modest, calm, conditions, laid).
  DERIVED. THE GIVEN ROWS OF THIS SEAT. 10 by the template 'for every input the law returns true; each argument reads behind the call as it read before'; 0 by the template 'total and deterministic' (their statements: YtbbdfaegfiepeaaGreatTotals.lean).
  GIVEN WITH THE SEED: the statements are not yours to turn. If you find one false, say at which input.
  Laid BY PROGRAM, IN A SANDBOX (cutbox-rows.mjs): the forced cells as the released guide's own fill.sh prints them over the translation 535a3e9e7331d779… (all of the seat's roots in one cut). By AI agents, Wed Nov 11 2026. No macro, syntax, notation, axiom, sorry.
-/
import Derived.Test.YtbbdfaegfiepeaaGreatChecked
import GoSem.Claim
import GoSem.ClaimJoined
import GoSem.ClaimMapViews
import Derived.JoinedTies
import Derived.KernelRfl
namespace Go.Proofs.YtbbdfaegfiepeaaGreat
/- THE CELL 'sum', in the pinned program and in every row, IS THE sha256 OF THE DUMP (.gsa) THAT YtbbdfaegfiepeaaGreatProg.lean LOADS. Nothing in Lean hashes anything: it is a label: what it is worth is what the hold of that sum in a sandbox is worth. -/
noncomputable def Tryz.pinned : Pinned := { name := "ytbbdfaegfiepeaagreat", sum := "535a3e9e7331d779380a5b1bdc429a1a03cad573fd5deeef9c0d821894c478c8", checked := Tryz.checked }
namespace Rows
def none {H : Type} : Left H := { results := [], args := [] }

/-- 'laws.FnExactAfterSpaceSteps': WHATEVER THE INPUT: true; the input reads as it did. -/
def fnExactAfterSpaceStepsSpec : ChangeSpec := { name := "fnExactAfterSpaceSteps", fn := fun _ => fun
  | [d1, d2] => { results := [.lit (.bool true)], args := [d1, d2] }
  | _ => none }
def fnExactAfterSpaceStepsRow : OpenClaim := { program := "ytbbdfaegfiepeaagreat", sum := "535a3e9e7331d779380a5b1bdc429a1a03cad573fd5deeef9c0d821894c478c8", func := "loop.example/g01080/laws.FnExactAfterSpaceSteps", spec := "fnExactAfterSpaceSteps", unfollowed := true, recurses := true, apart := false }
def FnExactAfterSpaceStepsSaid : Prop := fnExactAfterSpaceStepsRow.holds Tryz.pinned (OpenSpec.ofChange fnExactAfterSpaceStepsSpec)

/-- ITS FALSE NEIGHBOUR: 'it returns false'. Refute it at one input. -/
def fnExactAfterSpaceStepsWrong : ChangeSpec := { name := "fnExactAfterSpaceSteps", fn := fun _ => fun
  | [d1, d2] => { results := [.lit (.bool false)], args := [d1, d2] }
  | _ => none }
def FnExactAfterSpaceStepsWrongFalsely : Prop := fnExactAfterSpaceStepsRow.holds Tryz.pinned (OpenSpec.ofChange fnExactAfterSpaceStepsWrong)

/-- 'laws.FnExactClausesOfRun': WHATEVER THE INPUT: true; the input reads as it did. -/
def fnExactClausesOfRunSpec : ChangeSpec := { name := "fnExactClausesOfRun", fn := fun _ => fun
  | [d1, d2] => { results := [.lit (.bool true)], args := [d1, d2] }
  | _ => none }
def fnExactClausesOfRunRow : OpenClaim := { program := "ytbbdfaegfiepeaagreat", sum := "535a3e9e7331d779380a5b1bdc429a1a03cad573fd5deeef9c0d821894c478c8", func := "loop.example/g01080/laws.FnExactClausesOfRun", spec := "fnExactClausesOfRun", unfollowed := true, recurses := true, apart := false }
def FnExactClausesOfRunSaid : Prop := fnExactClausesOfRunRow.holds Tryz.pinned (OpenSpec.ofChange fnExactClausesOfRunSpec)

/-- ITS FALSE NEIGHBOUR: 'it returns false'. Refute it at one input. -/
def fnExactClausesOfRunWrong : ChangeSpec := { name := "fnExactClausesOfRun", fn := fun _ => fun
  | [d1, d2] => { results := [.lit (.bool false)], args := [d1, d2] }
  | _ => none }
def FnExactClausesOfRunWrongFalsely : Prop := fnExactClausesOfRunRow.holds Tryz.pinned (OpenSpec.ofChange fnExactClausesOfRunWrong)

/-- 'laws.FnExactRunToProof': WHATEVER THE INPUT: true; the input reads as it did. -/
def fnExactRunToProofSpec : ChangeSpec := { name := "fnExactRunToProof", fn := fun _ => fun
  | [d1, d2] => { results := [.lit (.bool true)], args := [d1, d2] }
  | _ => none }
def fnExactRunToProofRow : OpenClaim := { program := "ytbbdfaegfiepeaagreat", sum := "535a3e9e7331d779380a5b1bdc429a1a03cad573fd5deeef9c0d821894c478c8", func := "loop.example/g01080/laws.FnExactRunToProof", spec := "fnExactRunToProof", unfollowed := true, recurses := true, apart := false }
def FnExactRunToProofSaid : Prop := fnExactRunToProofRow.holds Tryz.pinned (OpenSpec.ofChange fnExactRunToProofSpec)

/-- ITS FALSE NEIGHBOUR: 'it returns false'. Refute it at one input. -/
def fnExactRunToProofWrong : ChangeSpec := { name := "fnExactRunToProof", fn := fun _ => fun
  | [d1, d2] => { results := [.lit (.bool false)], args := [d1, d2] }
  | _ => none }
def FnExactRunToProofWrongFalsely : Prop := fnExactRunToProofRow.holds Tryz.pinned (OpenSpec.ofChange fnExactRunToProofWrong)

/-- 'laws.FnExactBenchClauses': WHATEVER THE INPUT: true; the input reads as it did. -/
def fnExactBenchClausesSpec : ChangeSpec := { name := "fnExactBenchClauses", fn := fun _ => fun
  | [d] => { results := [.lit (.bool true)], args := [d] }
  | _ => none }
def fnExactBenchClausesRow : OpenClaim := { program := "ytbbdfaegfiepeaagreat", sum := "535a3e9e7331d779380a5b1bdc429a1a03cad573fd5deeef9c0d821894c478c8", func := "loop.example/g01080/laws.FnExactBenchClauses", spec := "fnExactBenchClauses", unfollowed := true, recurses := true, apart := false }
def FnExactBenchClausesSaid : Prop := fnExactBenchClausesRow.holds Tryz.pinned (OpenSpec.ofChange fnExactBenchClausesSpec)

/-- ITS FALSE NEIGHBOUR: 'it returns false'. Refute it at one input. -/
def fnExactBenchClausesWrong : ChangeSpec := { name := "fnExactBenchClauses", fn := fun _ => fun
  | [d] => { results := [.lit (.bool false)], args := [d] }
  | _ => none }
def FnExactBenchClausesWrongFalsely : Prop := fnExactBenchClausesRow.holds Tryz.pinned (OpenSpec.ofChange fnExactBenchClausesWrong)

/-- 'laws.FnExactReplayProof': WHATEVER THE INPUT: true; the input reads as it did. -/
def fnExactReplayProofSpec : ChangeSpec := { name := "fnExactReplayProof", fn := fun _ => fun
  | [d1, d2] => { results := [.lit (.bool true)], args := [d1, d2] }
  | _ => none }
def fnExactReplayProofRow : OpenClaim := { program := "ytbbdfaegfiepeaagreat", sum := "535a3e9e7331d779380a5b1bdc429a1a03cad573fd5deeef9c0d821894c478c8", func := "loop.example/g01080/laws.FnExactReplayProof", spec := "fnExactReplayProof", unfollowed := true, recurses := true, apart := false }
def FnExactReplayProofSaid : Prop := fnExactReplayProofRow.holds Tryz.pinned (OpenSpec.ofChange fnExactReplayProofSpec)

/-- ITS FALSE NEIGHBOUR: 'it returns false'. Refute it at one input. -/
def fnExactReplayProofWrong : ChangeSpec := { name := "fnExactReplayProof", fn := fun _ => fun
  | [d1, d2] => { results := [.lit (.bool false)], args := [d1, d2] }
  | _ => none }
def FnExactReplayProofWrongFalsely : Prop := fnExactReplayProofRow.holds Tryz.pinned (OpenSpec.ofChange fnExactReplayProofWrong)

/-- 'laws.FnExactUnfoldProof': WHATEVER THE INPUT: true; the input reads as it did. -/
def fnExactUnfoldProofSpec : ChangeSpec := { name := "fnExactUnfoldProof", fn := fun _ => fun
  | [d1, d2] => { results := [.lit (.bool true)], args := [d1, d2] }
  | _ => none }
def fnExactUnfoldProofRow : OpenClaim := { program := "ytbbdfaegfiepeaagreat", sum := "535a3e9e7331d779380a5b1bdc429a1a03cad573fd5deeef9c0d821894c478c8", func := "loop.example/g01080/laws.FnExactUnfoldProof", spec := "fnExactUnfoldProof", unfollowed := true, recurses := true, apart := false }
def FnExactUnfoldProofSaid : Prop := fnExactUnfoldProofRow.holds Tryz.pinned (OpenSpec.ofChange fnExactUnfoldProofSpec)

/-- ITS FALSE NEIGHBOUR: 'it returns false'. Refute it at one input. -/
def fnExactUnfoldProofWrong : ChangeSpec := { name := "fnExactUnfoldProof", fn := fun _ => fun
  | [d1, d2] => { results := [.lit (.bool false)], args := [d1, d2] }
  | _ => none }
def FnExactUnfoldProofWrongFalsely : Prop := fnExactUnfoldProofRow.holds Tryz.pinned (OpenSpec.ofChange fnExactUnfoldProofWrong)

/-- 'laws.FnExactProofToTree': WHATEVER THE INPUT: true; the input reads as it did. -/
def fnExactProofToTreeSpec : ChangeSpec := { name := "fnExactProofToTree", fn := fun _ => fun
  | [d1, d2] => { results := [.lit (.bool true)], args := [d1, d2] }
  | _ => none }
def fnExactProofToTreeRow : OpenClaim := { program := "ytbbdfaegfiepeaagreat", sum := "535a3e9e7331d779380a5b1bdc429a1a03cad573fd5deeef9c0d821894c478c8", func := "loop.example/g01080/laws.FnExactProofToTree", spec := "fnExactProofToTree", unfollowed := true, recurses := true, apart := false }
def FnExactProofToTreeSaid : Prop := fnExactProofToTreeRow.holds Tryz.pinned (OpenSpec.ofChange fnExactProofToTreeSpec)

/-- ITS FALSE NEIGHBOUR: 'it returns false'. Refute it at one input. -/
def fnExactProofToTreeWrong : ChangeSpec := { name := "fnExactProofToTree", fn := fun _ => fun
  | [d1, d2] => { results := [.lit (.bool false)], args := [d1, d2] }
  | _ => none }
def FnExactProofToTreeWrongFalsely : Prop := fnExactProofToTreeRow.holds Tryz.pinned (OpenSpec.ofChange fnExactProofToTreeWrong)

/-- 'laws.FnExactTreeClauses': WHATEVER THE INPUT: true; the input reads as it did. -/
def fnExactTreeClausesSpec : ChangeSpec := { name := "fnExactTreeClauses", fn := fun _ => fun
  | [d1, d2] => { results := [.lit (.bool true)], args := [d1, d2] }
  | _ => none }
def fnExactTreeClausesRow : OpenClaim := { program := "ytbbdfaegfiepeaagreat", sum := "535a3e9e7331d779380a5b1bdc429a1a03cad573fd5deeef9c0d821894c478c8", func := "loop.example/g01080/laws.FnExactTreeClauses", spec := "fnExactTreeClauses", unfollowed := true, recurses := true, apart := false }
def FnExactTreeClausesSaid : Prop := fnExactTreeClausesRow.holds Tryz.pinned (OpenSpec.ofChange fnExactTreeClausesSpec)

/-- ITS FALSE NEIGHBOUR: 'it returns false'. Refute it at one input. -/
def fnExactTreeClausesWrong : ChangeSpec := { name := "fnExactTreeClauses", fn := fun _ => fun
  | [d1, d2] => { results := [.lit (.bool false)], args := [d1, d2] }
  | _ => none }
def FnExactTreeClausesWrongFalsely : Prop := fnExactTreeClausesRow.holds Tryz.pinned (OpenSpec.ofChange fnExactTreeClausesWrong)

/-- 'laws.FnExactMiddleStep': WHATEVER THE INPUT: true; the input reads as it did. -/
def fnExactMiddleStepSpec : ChangeSpec := { name := "fnExactMiddleStep", fn := fun _ => fun
  | [d1, d2] => { results := [.lit (.bool true)], args := [d1, d2] }
  | _ => none }
def fnExactMiddleStepRow : OpenClaim := { program := "ytbbdfaegfiepeaagreat", sum := "535a3e9e7331d779380a5b1bdc429a1a03cad573fd5deeef9c0d821894c478c8", func := "loop.example/g01080/laws.FnExactMiddleStep", spec := "fnExactMiddleStep", unfollowed := true, recurses := true, apart := false }
def FnExactMiddleStepSaid : Prop := fnExactMiddleStepRow.holds Tryz.pinned (OpenSpec.ofChange fnExactMiddleStepSpec)

/-- ITS FALSE NEIGHBOUR: 'it returns false'. Refute it at one input. -/
def fnExactMiddleStepWrong : ChangeSpec := { name := "fnExactMiddleStep", fn := fun _ => fun
  | [d1, d2] => { results := [.lit (.bool false)], args := [d1, d2] }
  | _ => none }
def FnExactMiddleStepWrongFalsely : Prop := fnExactMiddleStepRow.holds Tryz.pinned (OpenSpec.ofChange fnExactMiddleStepWrong)

/-- 'laws.FnExactAnalysisOf': WHATEVER THE INPUT: true; the input reads as it did. -/
def fnExactAnalysisOfSpec : ChangeSpec := { name := "fnExactAnalysisOf", fn := fun _ => fun
  | [d1, d2, d3] => { results := [.lit (.bool true)], args := [d1, d2, d3] }
  | _ => none }
def fnExactAnalysisOfRow : OpenClaim := { program := "ytbbdfaegfiepeaagreat", sum := "535a3e9e7331d779380a5b1bdc429a1a03cad573fd5deeef9c0d821894c478c8", func := "loop.example/g01080/laws.FnExactAnalysisOf", spec := "fnExactAnalysisOf", unfollowed := true, recurses := true, apart := false }
def FnExactAnalysisOfSaid : Prop := fnExactAnalysisOfRow.holds Tryz.pinned (OpenSpec.ofChange fnExactAnalysisOfSpec)

/-- ITS FALSE NEIGHBOUR: 'it returns false'. Refute it at one input. -/
def fnExactAnalysisOfWrong : ChangeSpec := { name := "fnExactAnalysisOf", fn := fun _ => fun
  | [d1, d2, d3] => { results := [.lit (.bool false)], args := [d1, d2, d3] }
  | _ => none }
def FnExactAnalysisOfWrongFalsely : Prop := fnExactAnalysisOfRow.holds Tryz.pinned (OpenSpec.ofChange fnExactAnalysisOfWrong)

/- THE SECOND FORM. 'bulk': how many values and letters a reading holds, each counted each time it is reached (what is shared counts as often as it is met; a slice's spare places count too). A statement '..UptoSaid' is the law's where the arguments, and the package variables that the reading takes, are together of bulk at most 1048576: NARROWER than '..Said'. Prove '..Said' where nothing that the law and all that it calls make is longer than what came in: it says more and counts as full. Else prove '..UptoSaid'. A law counts once. -/
mutual
def uptoBulk {H : Type} : DataW H → Nat
  | .lit (.string bytes) => bytes.length + 1
  | .lit _ => 1
  | .nil => 1
  | .ptr d => uptoBulk d + 1
  | .slice elems spare => uptoBulkAll elems + uptoBulkAll spare + 1
  | .agg parts => uptoBulkAll parts + 1
  | .iface _ d => uptoBulk d + 1
  | .map entries => uptoBulkEntries entries + 1
  | .held _ => 1
def uptoBulkAll {H : Type} : List (DataW H) → Nat
  | [] => 0
  | d :: r => uptoBulk d + uptoBulkAll r
def uptoBulkEntries {H : Type} : List (Lit × DataW H) → Nat
  | [] => 0
  | x :: r => uptoBulkEntry x + uptoBulkEntries r
def uptoBulkEntry {H : Type} : Lit × DataW H → Nat
  | (.string bytes, d) => bytes.length + uptoBulk d + 1
  | (_, d) => uptoBulk d + 1
 end
def uptoSmall : (H : Type) → List (DataW H) → Bool := fun _ ds => decide (uptoBulkAll ds ≤ 1048576)
def OpenSpec.upto (s : _root_.Go.ChangeSpec) : _root_.Go.OpenSpec := { _root_.Go.OpenSpec.ofChange s with cond := some uptoSmall }

/-- 'laws.FnExactAfterSpaceSteps', WHERE WHAT IT READS IS OF BULK AT MOST 1048576: true; the input reads as it did. -/
def fnExactAfterSpaceStepsUptoRow : OpenClaim := { program := "ytbbdfaegfiepeaagreat", sum := "535a3e9e7331d779380a5b1bdc429a1a03cad573fd5deeef9c0d821894c478c8", func := "loop.example/g01080/laws.FnExactAfterSpaceSteps", spec := "fnExactAfterSpaceSteps", unfollowed := true, recurses := true, apart := false, narrowed := true }
def FnExactAfterSpaceStepsUptoSaid : Prop := fnExactAfterSpaceStepsUptoRow.holds Tryz.pinned (OpenSpec.upto fnExactAfterSpaceStepsSpec)

/-- 'laws.FnExactClausesOfRun', WHERE WHAT IT READS IS OF BULK AT MOST 1048576: true; the input reads as it did. -/
def fnExactClausesOfRunUptoRow : OpenClaim := { program := "ytbbdfaegfiepeaagreat", sum := "535a3e9e7331d779380a5b1bdc429a1a03cad573fd5deeef9c0d821894c478c8", func := "loop.example/g01080/laws.FnExactClausesOfRun", spec := "fnExactClausesOfRun", unfollowed := true, recurses := true, apart := false, narrowed := true }
def FnExactClausesOfRunUptoSaid : Prop := fnExactClausesOfRunUptoRow.holds Tryz.pinned (OpenSpec.upto fnExactClausesOfRunSpec)

/-- 'laws.FnExactRunToProof', WHERE WHAT IT READS IS OF BULK AT MOST 1048576: true; the input reads as it did. -/
def fnExactRunToProofUptoRow : OpenClaim := { program := "ytbbdfaegfiepeaagreat", sum := "535a3e9e7331d779380a5b1bdc429a1a03cad573fd5deeef9c0d821894c478c8", func := "loop.example/g01080/laws.FnExactRunToProof", spec := "fnExactRunToProof", unfollowed := true, recurses := true, apart := false, narrowed := true }
def FnExactRunToProofUptoSaid : Prop := fnExactRunToProofUptoRow.holds Tryz.pinned (OpenSpec.upto fnExactRunToProofSpec)

/-- 'laws.FnExactBenchClauses', WHERE WHAT IT READS IS OF BULK AT MOST 1048576: true; the input reads as it did. -/
def fnExactBenchClausesUptoRow : OpenClaim := { program := "ytbbdfaegfiepeaagreat", sum := "535a3e9e7331d779380a5b1bdc429a1a03cad573fd5deeef9c0d821894c478c8", func := "loop.example/g01080/laws.FnExactBenchClauses", spec := "fnExactBenchClauses", unfollowed := true, recurses := true, apart := false, narrowed := true }
def FnExactBenchClausesUptoSaid : Prop := fnExactBenchClausesUptoRow.holds Tryz.pinned (OpenSpec.upto fnExactBenchClausesSpec)

/-- 'laws.FnExactReplayProof', WHERE WHAT IT READS IS OF BULK AT MOST 1048576: true; the input reads as it did. -/
def fnExactReplayProofUptoRow : OpenClaim := { program := "ytbbdfaegfiepeaagreat", sum := "535a3e9e7331d779380a5b1bdc429a1a03cad573fd5deeef9c0d821894c478c8", func := "loop.example/g01080/laws.FnExactReplayProof", spec := "fnExactReplayProof", unfollowed := true, recurses := true, apart := false, narrowed := true }
def FnExactReplayProofUptoSaid : Prop := fnExactReplayProofUptoRow.holds Tryz.pinned (OpenSpec.upto fnExactReplayProofSpec)

/-- 'laws.FnExactUnfoldProof', WHERE WHAT IT READS IS OF BULK AT MOST 1048576: true; the input reads as it did. -/
def fnExactUnfoldProofUptoRow : OpenClaim := { program := "ytbbdfaegfiepeaagreat", sum := "535a3e9e7331d779380a5b1bdc429a1a03cad573fd5deeef9c0d821894c478c8", func := "loop.example/g01080/laws.FnExactUnfoldProof", spec := "fnExactUnfoldProof", unfollowed := true, recurses := true, apart := false, narrowed := true }
def FnExactUnfoldProofUptoSaid : Prop := fnExactUnfoldProofUptoRow.holds Tryz.pinned (OpenSpec.upto fnExactUnfoldProofSpec)

/-- 'laws.FnExactProofToTree', WHERE WHAT IT READS IS OF BULK AT MOST 1048576: true; the input reads as it did. -/
def fnExactProofToTreeUptoRow : OpenClaim := { program := "ytbbdfaegfiepeaagreat", sum := "535a3e9e7331d779380a5b1bdc429a1a03cad573fd5deeef9c0d821894c478c8", func := "loop.example/g01080/laws.FnExactProofToTree", spec := "fnExactProofToTree", unfollowed := true, recurses := true, apart := false, narrowed := true }
def FnExactProofToTreeUptoSaid : Prop := fnExactProofToTreeUptoRow.holds Tryz.pinned (OpenSpec.upto fnExactProofToTreeSpec)

/-- 'laws.FnExactTreeClauses', WHERE WHAT IT READS IS OF BULK AT MOST 1048576: true; the input reads as it did. -/
def fnExactTreeClausesUptoRow : OpenClaim := { program := "ytbbdfaegfiepeaagreat", sum := "535a3e9e7331d779380a5b1bdc429a1a03cad573fd5deeef9c0d821894c478c8", func := "loop.example/g01080/laws.FnExactTreeClauses", spec := "fnExactTreeClauses", unfollowed := true, recurses := true, apart := false, narrowed := true }
def FnExactTreeClausesUptoSaid : Prop := fnExactTreeClausesUptoRow.holds Tryz.pinned (OpenSpec.upto fnExactTreeClausesSpec)

/-- 'laws.FnExactMiddleStep', WHERE WHAT IT READS IS OF BULK AT MOST 1048576: true; the input reads as it did. -/
def fnExactMiddleStepUptoRow : OpenClaim := { program := "ytbbdfaegfiepeaagreat", sum := "535a3e9e7331d779380a5b1bdc429a1a03cad573fd5deeef9c0d821894c478c8", func := "loop.example/g01080/laws.FnExactMiddleStep", spec := "fnExactMiddleStep", unfollowed := true, recurses := true, apart := false, narrowed := true }
def FnExactMiddleStepUptoSaid : Prop := fnExactMiddleStepUptoRow.holds Tryz.pinned (OpenSpec.upto fnExactMiddleStepSpec)

/-- 'laws.FnExactAnalysisOf', WHERE WHAT IT READS IS OF BULK AT MOST 1048576: true; the input reads as it did. -/
def fnExactAnalysisOfUptoRow : OpenClaim := { program := "ytbbdfaegfiepeaagreat", sum := "535a3e9e7331d779380a5b1bdc429a1a03cad573fd5deeef9c0d821894c478c8", func := "loop.example/g01080/laws.FnExactAnalysisOf", spec := "fnExactAnalysisOf", unfollowed := true, recurses := true, apart := false, narrowed := true }
def FnExactAnalysisOfUptoSaid : Prop := fnExactAnalysisOfUptoRow.holds Tryz.pinned (OpenSpec.upto fnExactAnalysisOfSpec)

end Rows
end Go.Proofs.YtbbdfaegfiepeaaGreat
