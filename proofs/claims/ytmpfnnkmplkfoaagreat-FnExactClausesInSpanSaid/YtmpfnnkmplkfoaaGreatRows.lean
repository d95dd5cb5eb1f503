/-
  No cell of these rows narrows 'for every input' (looked for: loops, veiled, ifaces, maps, wideKeys, modest, calm, conditions, laid).
  DERIVED. THE GIVEN ROWS OF THIS SEAT. 5 by the template 'for every input the law returns true; each argument reads behind the call as it read before'; 0 by the template 'total and deterministic' (their statements: YtmpfnnkmplkfoaaGreatTotals.lean).
  GIVEN WITH THE SEED: the statements are not yours to turn. If you find one false, say at which input.
  Laid BY PROGRAM, IN A SANDBOX (cutbox-rows.mjs): the forced cells as the released guide's own fill.sh prints them over the translation 4f94ed7d31fd93a7… (all of the seat's roots in one cut). By AI agents, Wed Nov 11 2026. No macro, syntax, notation, axiom, sorry.
-/
import Derived.Test.YtmpfnnkmplkfoaaGreatChecked
import GoSem.Claim
import GoSem.ClaimJoined
import GoSem.ClaimMapViews
import Derived.JoinedTies
import Derived.KernelRfl
namespace Go.Proofs.YtmpfnnkmplkfoaaGreat
/- THE CELL 'sum', in the pinned program and in every row, IS THE sha256 OF THE DUMP (.gsa) THAT YtmpfnnkmplkfoaaGreatProg.lean LOADS. Nothing in Lean hashes anything: it is a label: what it is worth is what the hold of that sum in a sandbox is worth. -/
noncomputable def Tryz.pinned : Pinned := { name := "ytmpfnnkmplkfoaagreat", sum := "4f94ed7d31fd93a73e51b80ac51c98ad75204a0e19098a76d039d1d59952ac90", checked := Tryz.checked }
namespace Rows
def none {H : Type} : Left H := { results := [], args := [] }

/-- 'laws.FnExactClausesOfRun': WHATEVER THE INPUT: true; the input reads as it did. -/
def fnExactClausesOfRunSpec : ChangeSpec := { name := "fnExactClausesOfRun", fn := fun _ => fun
  | [d1, d2] => { results := [.lit (.bool true)], args := [d1, d2] }
  | _ => none }
def fnExactClausesOfRunRow : OpenClaim := { program := "ytmpfnnkmplkfoaagreat", sum := "4f94ed7d31fd93a73e51b80ac51c98ad75204a0e19098a76d039d1d59952ac90", func := "loop.example/g01080/laws.FnExactClausesOfRun", spec := "fnExactClausesOfRun", unfollowed := true, recurses := true, apart := false }
def FnExactClausesOfRunSaid : Prop := fnExactClausesOfRunRow.holds Tryz.pinned (OpenSpec.ofChange fnExactClausesOfRunSpec)

/-- ITS FALSE NEIGHBOUR: 'it returns false'. Refute it at one input. -/
def fnExactClausesOfRunWrong : ChangeSpec := { name := "fnExactClausesOfRun", fn := fun _ => fun
  | [d1, d2] => { results := [.lit (.bool false)], args := [d1, d2] }
  | _ => none }
def FnExactClausesOfRunWrongFalsely : Prop := fnExactClausesOfRunRow.holds Tryz.pinned (OpenSpec.ofChange fnExactClausesOfRunWrong)

/-- 'laws.FnExactBenchClauses': WHATEVER THE INPUT: true; the input reads as it did. -/
def fnExactBenchClausesSpec : ChangeSpec := { name := "fnExactBenchClauses", fn := fun _ => fun
  | [d] => { results := [.lit (.bool true)], args := [d] }
  | _ => none }
def fnExactBenchClausesRow : OpenClaim := { program := "ytmpfnnkmplkfoaagreat", sum := "4f94ed7d31fd93a73e51b80ac51c98ad75204a0e19098a76d039d1d59952ac90", func := "loop.example/g01080/laws.FnExactBenchClauses", spec := "fnExactBenchClauses", unfollowed := true, recurses := true, apart := false }
def FnExactBenchClausesSaid : Prop := fnExactBenchClausesRow.holds Tryz.pinned (OpenSpec.ofChange fnExactBenchClausesSpec)

/-- ITS FALSE NEIGHBOUR: 'it returns false'. Refute it at one input. -/
def fnExactBenchClausesWrong : ChangeSpec := { name := "fnExactBenchClauses", fn := fun _ => fun
  | [d] => { results := [.lit (.bool false)], args := [d] }
  | _ => none }
def FnExactBenchClausesWrongFalsely : Prop := fnExactBenchClausesRow.holds Tryz.pinned (OpenSpec.ofChange fnExactBenchClausesWrong)

/-- 'laws.FnExactTreeClauses': WHATEVER THE INPUT: true; the input reads as it did. -/
def fnExactTreeClausesSpec : ChangeSpec := { name := "fnExactTreeClauses", fn := fun _ => fun
  | [d1, d2] => { results := [.lit (.bool true)], args := [d1, d2] }
  | _ => none }
def fnExactTreeClausesRow : OpenClaim := { program := "ytmpfnnkmplkfoaagreat", sum := "4f94ed7d31fd93a73e51b80ac51c98ad75204a0e19098a76d039d1d59952ac90", func := "loop.example/g01080/laws.FnExactTreeClauses", spec := "fnExactTreeClauses", unfollowed := true, recurses := true, apart := false }
def FnExactTreeClausesSaid : Prop := fnExactTreeClausesRow.holds Tryz.pinned (OpenSpec.ofChange fnExactTreeClausesSpec)

/-- ITS FALSE NEIGHBOUR: 'it returns false'. Refute it at one input. -/
def fnExactTreeClausesWrong : ChangeSpec := { name := "fnExactTreeClauses", fn := fun _ => fun
  | [d1, d2] => { results := [.lit (.bool false)], args := [d1, d2] }
  | _ => none }
def FnExactTreeClausesWrongFalsely : Prop := fnExactTreeClausesRow.holds Tryz.pinned (OpenSpec.ofChange fnExactTreeClausesWrong)

/-- 'laws.FnExactProofToTree': WHATEVER THE INPUT: true; the input reads as it did. -/
def fnExactProofToTreeSpec : ChangeSpec := { name := "fnExactProofToTree", fn := fun _ => fun
  | [d1, d2] => { results := [.lit (.bool true)], args := [d1, d2] }
  | _ => none }
def fnExactProofToTreeRow : OpenClaim := { program := "ytmpfnnkmplkfoaagreat", sum := "4f94ed7d31fd93a73e51b80ac51c98ad75204a0e19098a76d039d1d59952ac90", func := "loop.example/g01080/laws.FnExactProofToTree", spec := "fnExactProofToTree", unfollowed := true, recurses := true, apart := false }
def FnExactProofToTreeSaid : Prop := fnExactProofToTreeRow.holds Tryz.pinned (OpenSpec.ofChange fnExactProofToTreeSpec)

/-- ITS FALSE NEIGHBOUR: 'it returns false'. Refute it at one input. -/
def fnExactProofToTreeWrong : ChangeSpec := { name := "fnExactProofToTree", fn := fun _ => fun
  | [d1, d2] => { results := [.lit (.bool false)], args := [d1, d2] }
  | _ => none }
def FnExactProofToTreeWrongFalsely : Prop := fnExactProofToTreeRow.holds Tryz.pinned (OpenSpec.ofChange fnExactProofToTreeWrong)

/-- 'laws.FnExactClausesInSpan': WHATEVER THE INPUT: true; the input reads as it did. -/
def fnExactClausesInSpanSpec : ChangeSpec := { name := "fnExactClausesInSpan", fn := fun _ => fun
  | [d1, d2, d3] => { results := [.lit (.bool true)], args := [d1, d2, d3] }
  | _ => none }
def fnExactClausesInSpanRow : OpenClaim := { program := "ytmpfnnkmplkfoaagreat", sum := "4f94ed7d31fd93a73e51b80ac51c98ad75204a0e19098a76d039d1d59952ac90", func := "loop.example/g01080/laws.FnExactClausesInSpan", spec := "fnExactClausesInSpan", unfollowed := true, recurses := true, apart := false }
def FnExactClausesInSpanSaid : Prop := fnExactClausesInSpanRow.holds Tryz.pinned (OpenSpec.ofChange fnExactClausesInSpanSpec)

/-- ITS FALSE NEIGHBOUR: 'it returns false'. Refute it at one input. -/
def fnExactClausesInSpanWrong : ChangeSpec := { name := "fnExactClausesInSpan", fn := fun _ => fun
  | [d1, d2, d3] => { results := [.lit (.bool false)], args := [d1, d2, d3] }
  | _ => none }
def FnExactClausesInSpanWrongFalsely : Prop := fnExactClausesInSpanRow.holds Tryz.pinned (OpenSpec.ofChange fnExactClausesInSpanWrong)

/- THE SECOND FORM. 'bulk': how many values and letters a reading holds, each counted each time it is reached (what is shared counts as often as it is met; a slice's spare places count too). A statement '..UptoSaid' is the law's where the arguments, and the package variables that the reading takes, are together of bulk at most 1048576: NARROWER than '..Said'. Prove '..Said' where nothing that the law and all that it calls make is longer than what came in: it says more and counts as full. Else prove '..UptoSaid'. A law counts once. -/
mutual
def uptoBulk {H : Type} : DataW H → Nat
  | .lit (.string bytes) => bytes.length + 1
  | .lit _ => 1
  | .nil => 1
  | .ptr d => uptoBulk d + 1
  | .slice elems spare => uptoBulkAll elems + uptoBulkAll spare + 1
  | .agg parts => uptoBulkAll parts + 1
  | .iface _ d => uptoBulk d + 1
  | .map entries => uptoBulkEntries entries + 1
  | .held _ => 1
def uptoBulkAll {H : Type} : List (DataW H) → Nat
  | [] => 0
  | d :: r => uptoBulk d + uptoBulkAll r
def uptoBulkEntries {H : Type} : List (Lit × DataW H) → Nat
  | [] => 0
  | x :: r => uptoBulkEntry x + uptoBulkEntries r
def uptoBulkEntry {H : Type} : Lit × DataW H → Nat
  | (.string bytes, d) => bytes.length + uptoBulk d + 1
  | (_, d) => uptoBulk d + 1
 end
def uptoSmall : (H : Type) → List (DataW H) → Bool := fun _ ds => decide (uptoBulkAll ds ≤ 1048576)
def OpenSpec.upto (s : _root_.Go.ChangeSpec) : _root_.Go.OpenSpec := { _root_.Go.OpenSpec.ofChange s with cond := some uptoSmall }

/-- 'laws.FnExactClausesOfRun', WHERE WHAT IT READS IS OF BULK AT MOST 1048576: true; the input reads as it did. -/
def fnExactClausesOfRunUptoRow : OpenClaim := { program := "ytmpfnnkmplkfoaagreat", sum := "4f94ed7d31fd93a73e51b80ac51c98ad75204a0e19098a76d039d1d59952ac90", func := "loop.example/g01080/laws.FnExactClausesOfRun", spec := "fnExactClausesOfRun", unfollowed := true, recurses := true, apart := false, narrowed := true }
def FnExactClausesOfRunUptoSaid : Prop := fnExactClausesOfRunUptoRow.holds Tryz.pinned (OpenSpec.upto fnExactClausesOfRunSpec)

/-- 'laws.FnExactBenchClauses', WHERE WHAT IT READS IS OF BULK AT MOST 1048576: true; the input reads as it did. -/
def fnExactBenchClausesUptoRow : OpenClaim := { program := "ytmpfnnkmplkfoaagreat", sum := "4f94ed7d31fd93a73e51b80ac51c98ad75204a0e19098a76d039d1d59952ac90", func := "loop.example/g01080/laws.FnExactBenchClauses", spec := "fnExactBenchClauses", unfollowed := true, recurses := true, apart := false, narrowed := true }
def FnExactBenchClausesUptoSaid : Prop := fnExactBenchClausesUptoRow.holds Tryz.pinned (OpenSpec.upto fnExactBenchClausesSpec)

/-- 'laws.FnExactTreeClauses', WHERE WHAT IT READS IS OF BULK AT MOST 1048576: true; the input reads as it did. -/
def fnExactTreeClausesUptoRow : OpenClaim := { program := "ytmpfnnkmplkfoaagreat", sum := "4f94ed7d31fd93a73e51b80ac51c98ad75204a0e19098a76d039d1d59952ac90", func := "loop.example/g01080/laws.FnExactTreeClauses", spec := "fnExactTreeClauses", unfollowed := true, recurses := true, apart := false, narrowed := true }
def FnExactTreeClausesUptoSaid : Prop := fnExactTreeClausesUptoRow.holds Tryz.pinned (OpenSpec.upto fnExactTreeClausesSpec)

/-- 'laws.FnExactProofToTree', WHERE WHAT IT READS IS OF BULK AT MOST 1048576: true; the input reads as it did. -/
def fnExactProofToTreeUptoRow : OpenClaim := { program := "ytmpfnnkmplkfoaagreat", sum := "4f94ed7d31fd93a73e51b80ac51c98ad75204a0e19098a76d039d1d59952ac90", func := "loop.example/g01080/laws.FnExactProofToTree", spec := "fnExactProofToTree", unfollowed := true, recurses := true, apart := false, narrowed := true }
def FnExactProofToTreeUptoSaid : Prop := fnExactProofToTreeUptoRow.holds Tryz.pinned (OpenSpec.upto fnExactProofToTreeSpec)

/-- 'laws.FnExactClausesInSpan', WHERE WHAT IT READS IS OF BULK AT MOST 1048576: true; the input reads as it did. -/
def fnExactClausesInSpanUptoRow : OpenClaim := { program := "ytmpfnnkmplkfoaagreat", sum := "4f94ed7d31fd93a73e51b80ac51c98ad75204a0e19098a76d039d1d59952ac90", func := "loop.example/g01080/laws.FnExactClausesInSpan", spec := "fnExactClausesInSpan", unfollowed := true, recurses := true, apart := false, narrowed := true }
def FnExactClausesInSpanUptoSaid : Prop := fnExactClausesInSpanUptoRow.holds Tryz.pinned (OpenSpec.upto fnExactClausesInSpanSpec)

end Rows
end Go.Proofs.YtmpfnnkmplkfoaaGreat
