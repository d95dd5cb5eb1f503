/-
  No cell of these rows narrows 'for every input' (looked for: loops, veiled, ifaces, maps, wideKeys, modest, calm, conditions, laid).
  DERIVED. THE GIVEN ROWS OF THIS SEAT. 4 by the template 'for every input the law returns true; each argument reads behind the call as it read before'; 0 by the template 'total and deterministic' (their statements: YtjkdeonnohadeaaGreatTotals.lean).
  GIVEN WITH THE SEED: the statements are not yours to turn. If you find one false, say at which input.
  Laid BY PROGRAM, IN A SANDBOX (cutbox-rows.mjs): the forced cells as the released guide's own fill.sh prints them over the translation cb0ed2651c9952f2… (all of the seat's roots in one cut). By AI agents, Wed Nov 11 2026. No macro, syntax, notation, axiom, sorry.
-/
import Derived.Test.YtjkdeonnohadeaaGreatChecked
import GoSem.Claim
import GoSem.ClaimJoined
import GoSem.ClaimMapViews
import Derived.JoinedTies
import Derived.KernelRfl
namespace Go.Proofs.YtjkdeonnohadeaaGreat
/- THE CELL 'sum', in the pinned program and in every row, IS THE sha256 OF THE DUMP (.gsa) THAT YtjkdeonnohadeaaGreatProg.lean LOADS. Nothing in Lean hashes anything: it is a label: what it is worth is what the hold of that sum in a sandbox is worth. -/
noncomputable def Tryz.pinned : Pinned := { name := "ytjkdeonnohadeaagreat", sum := "cb0ed2651c9952f2e4191a74c8bebaaf06674d693ec09cc37021315b64c31a39", checked := Tryz.checked }
namespace Rows
def none {H : Type} : Left H := { results := [], args := [] }

/-- 'laws.FnExactReplayProof': WHATEVER THE INPUT: true; the input reads as it did. -/
def fnExactReplayProofSpec : ChangeSpec := { name := "fnExactReplayProof", fn := fun _ => fun
  | [d1, d2] => { results := [.lit (.bool true)], args := [d1, d2] }
  | _ => none }
def fnExactReplayProofRow : OpenClaim := { program := "ytjkdeonnohadeaagreat", sum := "cb0ed2651c9952f2e4191a74c8bebaaf06674d693ec09cc37021315b64c31a39", func := "loop.example/g01080/laws.FnExactReplayProof", spec := "fnExactReplayProof", unfollowed := true, recurses := true, apart := false }
def FnExactReplayProofSaid : Prop := fnExactReplayProofRow.holds Tryz.pinned (OpenSpec.ofChange fnExactReplayProofSpec)

/-- ITS FALSE NEIGHBOUR: 'it returns false'. Refute it at one input. -/
def fnExactReplayProofWrong : ChangeSpec := { name := "fnExactReplayProof", fn := fun _ => fun
  | [d1, d2] => { results := [.lit (.bool false)], args := [d1, d2] }
  | _ => none }
def FnExactReplayProofWrongFalsely : Prop := fnExactReplayProofRow.holds Tryz.pinned (OpenSpec.ofChange fnExactReplayProofWrong)

/-- 'laws.FnExactAnalysisOf': WHATEVER THE INPUT: true; the input reads as it did. -/
def fnExactAnalysisOfSpec : ChangeSpec := { name := "fnExactAnalysisOf", fn := fun _ => fun
  | [d1, d2, d3] => { results := [.lit (.bool true)], args := [d1, d2, d3] }
  | _ => none }
def fnExactAnalysisOfRow : OpenClaim := { program := "ytjkdeonnohadeaagreat", sum := "cb0ed2651c9952f2e4191a74c8bebaaf06674d693ec09cc37021315b64c31a39", func := "loop.example/g01080/laws.FnExactAnalysisOf", spec := "fnExactAnalysisOf", unfollowed := true, recurses := true, apart := false }
def FnExactAnalysisOfSaid : Prop := fnExactAnalysisOfRow.holds Tryz.pinned (OpenSpec.ofChange fnExactAnalysisOfSpec)

/-- ITS FALSE NEIGHBOUR: 'it returns false'. Refute it at one input. -/
def fnExactAnalysisOfWrong : ChangeSpec := { name := "fnExactAnalysisOf", fn := fun _ => fun
  | [d1, d2, d3] => { results := [.lit (.bool false)], args := [d1, d2, d3] }
  | _ => none }
def FnExactAnalysisOfWrongFalsely : Prop := fnExactAnalysisOfRow.holds Tryz.pinned (OpenSpec.ofChange fnExactAnalysisOfWrong)

/-- 'laws.FnExactTrimLearned': WHATEVER THE INPUT: true; the input reads as it did. -/
def fnExactTrimLearnedSpec : ChangeSpec := { name := "fnExactTrimLearned", fn := fun _ => fun
  | [d1, d2] => { results := [.lit (.bool true)], args := [d1, d2] }
  | _ => none }
def fnExactTrimLearnedRow : OpenClaim := { program := "ytjkdeonnohadeaagreat", sum := "cb0ed2651c9952f2e4191a74c8bebaaf06674d693ec09cc37021315b64c31a39", func := "loop.example/g01080/laws.FnExactTrimLearned", spec := "fnExactTrimLearned", unfollowed := true, recurses := true, apart := false }
def FnExactTrimLearnedSaid : Prop := fnExactTrimLearnedRow.holds Tryz.pinned (OpenSpec.ofChange fnExactTrimLearnedSpec)

/-- ITS FALSE NEIGHBOUR: 'it returns false'. Refute it at one input. -/
def fnExactTrimLearnedWrong : ChangeSpec := { name := "fnExactTrimLearned", fn := fun _ => fun
  | [d1, d2] => { results := [.lit (.bool false)], args := [d1, d2] }
  | _ => none }
def FnExactTrimLearnedWrongFalsely : Prop := fnExactTrimLearnedRow.holds Tryz.pinned (OpenSpec.ofChange fnExactTrimLearnedWrong)

/-- 'laws.FnExactLearnedToProof': WHATEVER THE INPUT: true; the input reads as it did. -/
def fnExactLearnedToProofSpec : ChangeSpec := { name := "fnExactLearnedToProof", fn := fun _ => fun
  | [d1, d2] => { results := [.lit (.bool true)], args := [d1, d2] }
  | _ => none }
def fnExactLearnedToProofRow : OpenClaim := { program := "ytjkdeonnohadeaagreat", sum := "cb0ed2651c9952f2e4191a74c8bebaaf06674d693ec09cc37021315b64c31a39", func := "loop.example/g01080/laws.FnExactLearnedToProof", spec := "fnExactLearnedToProof", unfollowed := true, recurses := true, apart := false }
def FnExactLearnedToProofSaid : Prop := fnExactLearnedToProofRow.holds Tryz.pinned (OpenSpec.ofChange fnExactLearnedToProofSpec)

/-- ITS FALSE NEIGHBOUR: 'it returns false'. Refute it at one input. -/
def fnExactLearnedToProofWrong : ChangeSpec := { name := "fnExactLearnedToProof", fn := fun _ => fun
  | [d1, d2] => { results := [.lit (.bool false)], args := [d1, d2] }
  | _ => none }
def FnExactLearnedToProofWrongFalsely : Prop := fnExactLearnedToProofRow.holds Tryz.pinned (OpenSpec.ofChange fnExactLearnedToProofWrong)

/- THE SECOND FORM. 'bulk': how many values and letters a reading holds, each counted each time it is reached (what is shared counts as often as it is met; a slice's spare places count too). A statement '..UptoSaid' is the law's where the arguments, and the package variables that the reading takes, are together of bulk at most 1048576: NARROWER than '..Said'. Prove '..Said' where nothing that the law and all that it calls make is longer than what came in: it says more and counts as full. Else prove '..UptoSaid'. A law counts once. -/
mutual
def uptoBulk {H : Type} : DataW H → Nat
  | .lit (.string bytes) => bytes.length + 1
  | .lit _ => 1
  | .nil => 1
  | .ptr d => uptoBulk d + 1
  | .slice elems spare => uptoBulkAll elems + uptoBulkAll spare + 1
  | .agg parts => uptoBulkAll parts + 1
  | .iface _ d => uptoBulk d + 1
  | .map entries => uptoBulkEntries entries + 1
  | .held _ => 1
def uptoBulkAll {H : Type} : List (DataW H) → Nat
  | [] => 0
  | d :: r => uptoBulk d + uptoBulkAll r
def uptoBulkEntries {H : Type} : List (Lit × DataW H) → Nat
  | [] => 0
  | x :: r => uptoBulkEntry x + uptoBulkEntries r
def uptoBulkEntry {H : Type} : Lit × DataW H → Nat
  | (.string bytes, d) => bytes.length + uptoBulk d + 1
  | (_, d) => uptoBulk d + 1
 end
def uptoSmall : (H : Type) → List (DataW H) → Bool := fun _ ds => decide (uptoBulkAll ds ≤ 1048576)
def OpenSpec.upto (s : _root_.Go.ChangeSpec) : _root_.Go.OpenSpec := { _root_.Go.OpenSpec.ofChange s with cond := some uptoSmall }

/-- 'laws.FnExactReplayProof', WHERE WHAT IT READS IS OF BULK AT MOST 1048576: true; the input reads as it did. -/
def fnExactReplayProofUptoRow : OpenClaim := { program := "ytjkdeonnohadeaagreat", sum := "cb0ed2651c9952f2e4191a74c8bebaaf06674d693ec09cc37021315b64c31a39", func := "loop.example/g01080/laws.FnExactReplayProof", spec := "fnExactReplayProof", unfollowed := true, recurses := true, apart := false, narrowed := true }
def FnExactReplayProofUptoSaid : Prop := fnExactReplayProofUptoRow.holds Tryz.pinned (OpenSpec.upto fnExactReplayProofSpec)

/-- 'laws.FnExactAnalysisOf', WHERE WHAT IT READS IS OF BULK AT MOST 1048576: true; the input reads as it did. -/
def fnExactAnalysisOfUptoRow : OpenClaim := { program := "ytjkdeonnohadeaagreat", sum := "cb0ed2651c9952f2e4191a74c8bebaaf06674d693ec09cc37021315b64c31a39", func := "loop.example/g01080/laws.FnExactAnalysisOf", spec := "fnExactAnalysisOf", unfollowed := true, recurses := true, apart := false, narrowed := true }
def FnExactAnalysisOfUptoSaid : Prop := fnExactAnalysisOfUptoRow.holds Tryz.pinned (OpenSpec.upto fnExactAnalysisOfSpec)

/-- 'laws.FnExactTrimLearned', WHERE WHAT IT READS IS OF BULK AT MOST 1048576: true; the input reads as it did. -/
def fnExactTrimLearnedUptoRow : OpenClaim := { program := "ytjkdeonnohadeaagreat", sum := "cb0ed2651c9952f2e4191a74c8bebaaf06674d693ec09cc37021315b64c31a39", func := "loop.example/g01080/laws.FnExactTrimLearned", spec := "fnExactTrimLearned", unfollowed := true, recurses := true, apart := false, narrowed := true }
def FnExactTrimLearnedUptoSaid : Prop := fnExactTrimLearnedUptoRow.holds Tryz.pinned (OpenSpec.upto fnExactTrimLearnedSpec)

/-- 'laws.FnExactLearnedToProof', WHERE WHAT IT READS IS OF BULK AT MOST 1048576: true; the input reads as it did. -/
def fnExactLearnedToProofUptoRow : OpenClaim := { program := "ytjkdeonnohadeaagreat", sum := "cb0ed2651c9952f2e4191a74c8bebaaf06674d693ec09cc37021315b64c31a39", func := "loop.example/g01080/laws.FnExactLearnedToProof", spec := "fnExactLearnedToProof", unfollowed := true, recurses := true, apart := false, narrowed := true }
def FnExactLearnedToProofUptoSaid : Prop := fnExactLearnedToProofUptoRow.holds Tryz.pinned (OpenSpec.upto fnExactLearnedToProofSpec)

end Rows
end Go.Proofs.YtjkdeonnohadeaaGreat
