/-
  No cell of these rows narrows 'for every input' (looked for: loops, veiled, ifaces, maps, wideKeys, modest, calm, conditions, laid).
  DERIVED. THE GIVEN ROWS OF THIS SEAT. 3 by the template 'for every input the law returns true; each argument reads behind the call as it read before'; 0 by the template 'total and deterministic' (their statements: YtkaikagbfoadpaaGreatTotals.lean).
  GIVEN WITH THE SEED: the statements are not yours to turn. If you find one false, say at which input.
  Laid BY PROGRAM, IN A SANDBOX (cutbox-rows.mjs): the forced cells as the released guide's own fill.sh prints them over the translation a9571550dfb99acc… (all of the seat's roots in one cut). By AI agents, Wed Nov 11 2026. No macro, syntax, notation, axiom, sorry.
-/
import Derived.Test.YtkaikagbfoadpaaGreatChecked
import GoSem.Claim
import GoSem.ClaimJoined
import GoSem.ClaimMapViews
import Derived.JoinedTies
import Derived.KernelRfl
namespace Go.Proofs.YtkaikagbfoadpaaGreat
/- THE CELL 'sum', in the pinned program and in every row, IS THE sha256 OF THE DUMP (.gsa) THAT YtkaikagbfoadpaaGreatProg.lean LOADS. Nothing in Lean hashes anything: it is a label: what it is worth is what the hold of that sum in a sandbox is worth. -/
noncomputable def Tryz.pinned : Pinned := { name := "ytkaikagbfoadpaagreat", sum := "a9571550dfb99acc6b32b14b039770b2f7e48fd86dbd05c11879fb7888dd8ca9", checked := Tryz.checked }
namespace Rows
def none {H : Type} : Left H := { results := [], args := [] }

/-- 'laws.FnPcSteps': WHATEVER THE INPUT: true; the input reads as it did. -/
def fnPcStepsSpec : ChangeSpec := { name := "fnPcSteps", fn := fun _ => fun
  | [d] => { results := [.lit (.bool true)], args := [d] }
  | _ => none }
def fnPcStepsRow : OpenClaim := { program := "ytkaikagbfoadpaagreat", sum := "a9571550dfb99acc6b32b14b039770b2f7e48fd86dbd05c11879fb7888dd8ca9", func := "loop.example/g01080/laws.FnPcSteps", spec := "fnPcSteps", unfollowed := true, recurses := true, apart := false }
def FnPcStepsSaid : Prop := fnPcStepsRow.holds Tryz.pinned (OpenSpec.ofChange fnPcStepsSpec)

/-- ITS FALSE NEIGHBOUR: 'it returns false'. Refute it at one input. -/
def fnPcStepsWrong : ChangeSpec := { name := "fnPcSteps", fn := fun _ => fun
  | [d] => { results := [.lit (.bool false)], args := [d] }
  | _ => none }
def FnPcStepsWrongFalsely : Prop := fnPcStepsRow.holds Tryz.pinned (OpenSpec.ofChange fnPcStepsWrong)

/-- 'laws.FnPlaneProofs': WHATEVER THE INPUT: true; the input reads as it did. -/
def fnPlaneProofsSpec : ChangeSpec := { name := "fnPlaneProofs", fn := fun _ => fun
  | [d] => { results := [.lit (.bool true)], args := [d] }
  | _ => none }
def fnPlaneProofsRow : OpenClaim := { program := "ytkaikagbfoadpaagreat", sum := "a9571550dfb99acc6b32b14b039770b2f7e48fd86dbd05c11879fb7888dd8ca9", func := "loop.example/g01080/laws.FnPlaneProofs", spec := "fnPlaneProofs", unfollowed := true, recurses := true, apart := false }
def FnPlaneProofsSaid : Prop := fnPlaneProofsRow.holds Tryz.pinned (OpenSpec.ofChange fnPlaneProofsSpec)

/-- ITS FALSE NEIGHBOUR: 'it returns false'. Refute it at one input. -/
def fnPlaneProofsWrong : ChangeSpec := { name := "fnPlaneProofs", fn := fun _ => fun
  | [d] => { results := [.lit (.bool false)], args := [d] }
  | _ => none }
def FnPlaneProofsWrongFalsely : Prop := fnPlaneProofsRow.holds Tryz.pinned (OpenSpec.ofChange fnPlaneProofsWrong)

/-- 'laws.FnChained': WHATEVER THE INPUT: true; the input reads as it did. -/
def fnChainedSpec : ChangeSpec := { name := "fnChained", fn := fun _ => fun
  | [d] => { results := [.lit (.bool true)], args := [d] }
  | _ => none }
def fnChainedRow : OpenClaim := { program := "ytkaikagbfoadpaagreat", sum := "a9571550dfb99acc6b32b14b039770b2f7e48fd86dbd05c11879fb7888dd8ca9", func := "loop.example/g01080/laws.FnChained", spec := "fnChained", unfollowed := true, recurses := true, apart := false }
def FnChainedSaid : Prop := fnChainedRow.holds Tryz.pinned (OpenSpec.ofChange fnChainedSpec)

/-- ITS FALSE NEIGHBOUR: 'it returns false'. Refute it at one input. -/
def fnChainedWrong : ChangeSpec := { name := "fnChained", fn := fun _ => fun
  | [d] => { results := [.lit (.bool false)], args := [d] }
  | _ => none }
def FnChainedWrongFalsely : Prop := fnChainedRow.holds Tryz.pinned (OpenSpec.ofChange fnChainedWrong)

/- THE SECOND FORM. 'bulk': how many values and letters a reading holds, each counted each time it is reached (what is shared counts as often as it is met; a slice's spare places count too). A statement '..UptoSaid' is the law's where the arguments, and the package variables that the reading takes, are together of bulk at most 1048576: NARROWER than '..Said'. Prove '..Said' where nothing that the law and all that it calls make is longer than what came in: it says more and counts as full. Else prove '..UptoSaid'. A law counts once. -/
mutual
def uptoBulk {H : Type} : DataW H → Nat
  | .lit (.string bytes) => bytes.length + 1
  | .lit _ => 1
  | .nil => 1
  | .ptr d => uptoBulk d + 1
  | .slice elems spare => uptoBulkAll elems + uptoBulkAll spare + 1
  | .agg parts => uptoBulkAll parts + 1
  | .iface _ d => uptoBulk d + 1
  | .map entries => uptoBulkEntries entries + 1
  | .held _ => 1
def uptoBulkAll {H : Type} : List (DataW H) → Nat
  | [] => 0
  | d :: r => uptoBulk d + uptoBulkAll r
def uptoBulkEntries {H : Type} : List (Lit × DataW H) → Nat
  | [] => 0
  | x :: r => uptoBulkEntry x + uptoBulkEntries r
def uptoBulkEntry {H : Type} : Lit × DataW H → Nat
  | (.string bytes, d) => bytes.length + uptoBulk d + 1
  | (_, d) => uptoBulk d + 1
 end
def uptoSmall : (H : Type) → List (DataW H) → Bool := fun _ ds => decide (uptoBulkAll ds ≤ 1048576)
def OpenSpec.upto (s : _root_.Go.ChangeSpec) : _root_.Go.OpenSpec := { _root_.Go.OpenSpec.ofChange s with cond := some uptoSmall }

/-- 'laws.FnPcSteps', WHERE WHAT IT READS IS OF BULK AT MOST 1048576: true; the input reads as it did. -/
def fnPcStepsUptoRow : OpenClaim := { program := "ytkaikagbfoadpaagreat", sum := "a9571550dfb99acc6b32b14b039770b2f7e48fd86dbd05c11879fb7888dd8ca9", func := "loop.example/g01080/laws.FnPcSteps", spec := "fnPcSteps", unfollowed := true, recurses := true, apart := false, narrowed := true }
def FnPcStepsUptoSaid : Prop := fnPcStepsUptoRow.holds Tryz.pinned (OpenSpec.upto fnPcStepsSpec)

/-- 'laws.FnPlaneProofs', WHERE WHAT IT READS IS OF BULK AT MOST 1048576: true; the input reads as it did. -/
def fnPlaneProofsUptoRow : OpenClaim := { program := "ytkaikagbfoadpaagreat", sum := "a9571550dfb99acc6b32b14b039770b2f7e48fd86dbd05c11879fb7888dd8ca9", func := "loop.example/g01080/laws.FnPlaneProofs", spec := "fnPlaneProofs", unfollowed := true, recurses := true, apart := false, narrowed := true }
def FnPlaneProofsUptoSaid : Prop := fnPlaneProofsUptoRow.holds Tryz.pinned (OpenSpec.upto fnPlaneProofsSpec)

/-- 'laws.FnChained', WHERE WHAT IT READS IS OF BULK AT MOST 1048576: true; the input reads as it did. -/
def fnChainedUptoRow : OpenClaim := { program := "ytkaikagbfoadpaagreat", sum := "a9571550dfb99acc6b32b14b039770b2f7e48fd86dbd05c11879fb7888dd8ca9", func := "loop.example/g01080/laws.FnChained", spec := "fnChained", unfollowed := true, recurses := true, apart := false, narrowed := true }
def FnChainedUptoSaid : Prop := fnChainedUptoRow.holds Tryz.pinned (OpenSpec.upto fnChainedSpec)

end Rows
end Go.Proofs.YtkaikagbfoadpaaGreat
