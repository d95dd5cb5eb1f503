/-
  No cell of these rows narrows 'for every input' (looked for: loops, veiled, ifaces, maps, wideKeys, modest, calm, conditions, laid).
  DERIVED. THE GIVEN ROWS OF THIS SEAT. 8 by the template 'for every input the law returns true; each argument reads behind the call as it read before'; 0 by the template 'total and deterministic' (their statements: YtjpjbfbloplacaaGreatTotals.lean).
  GIVEN WITH THE SEED: the statements are not yours to turn. If you find one false, say at which input.
  Laid BY PROGRAM, IN A SANDBOX (cutbox-rows.mjs): the forced cells as the released guide's own fill.sh prints them over the translation f5926b81b69532d2… (all of the seat's roots in one cut). By AI agents, Wed Nov 11 2026. No macro, syntax, notation, axiom, sorry.
-/
import Derived.Test.YtjpjbfbloplacaaGreatChecked
import GoSem.Claim
import GoSem.ClaimJoined
import GoSem.ClaimMapViews
import Derived.JoinedTies
import Derived.KernelRfl
namespace Go.Proofs.YtjpjbfbloplacaaGreat
/- THE CELL 'sum', in the pinned program and in every row, IS THE sha256 OF THE DUMP (.gsa) THAT YtjpjbfbloplacaaGreatProg.lean LOADS. Nothing in Lean hashes anything: it is a label: what it is worth is what the hold of that sum in a sandbox is worth. -/
noncomputable def Tryz.pinned : Pinned := { name := "ytjpjbfbloplacaagreat", sum := "f5926b81b69532d2e4722411529023611f39e838a0b4c2a6c432b459595655c7", checked := Tryz.checked }
namespace Rows
def none {H : Type} : Left H := { results := [], args := [] }

/-- 'laws.FnExactIsTranslationOf': WHATEVER THE INPUT: true; the input reads as it did. -/
def fnExactIsTranslationOfSpec : ChangeSpec := { name := "fnExactIsTranslationOf", fn := fun _ => fun
  | [d1, d2, d3, d4] => { results := [.lit (.bool true)], args := [d1, d2, d3, d4] }
  | _ => none }
def fnExactIsTranslationOfRow : OpenClaim := { program := "ytjpjbfbloplacaagreat", sum := "f5926b81b69532d2e4722411529023611f39e838a0b4c2a6c432b459595655c7", func := "loop.example/g01080/laws.FnExactIsTranslationOf", spec := "fnExactIsTranslationOf", unfollowed := true, recurses := true, apart := false }
def FnExactIsTranslationOfSaid : Prop := fnExactIsTranslationOfRow.holds Tryz.pinned (OpenSpec.ofChange fnExactIsTranslationOfSpec)

/-- ITS FALSE NEIGHBOUR: 'it returns false'. Refute it at one input. -/
def fnExactIsTranslationOfWrong : ChangeSpec := { name := "fnExactIsTranslationOf", fn := fun _ => fun
  | [d1, d2, d3, d4] => { results := [.lit (.bool false)], args := [d1, d2, d3, d4] }
  | _ => none }
def FnExactIsTranslationOfWrongFalsely : Prop := fnExactIsTranslationOfRow.holds Tryz.pinned (OpenSpec.ofChange fnExactIsTranslationOfWrong)

/-- 'laws.FnExactTranslatedDegree': WHATEVER THE INPUT: true; the input reads as it did. -/
def fnExactTranslatedDegreeSpec : ChangeSpec := { name := "fnExactTranslatedDegree", fn := fun _ => fun
  | [d1, d2, d3] => { results := [.lit (.bool true)], args := [d1, d2, d3] }
  | _ => none }
def fnExactTranslatedDegreeRow : OpenClaim := { program := "ytjpjbfbloplacaagreat", sum := "f5926b81b69532d2e4722411529023611f39e838a0b4c2a6c432b459595655c7", func := "loop.example/g01080/laws.FnExactTranslatedDegree", spec := "fnExactTranslatedDegree", unfollowed := true, recurses := true, apart := false }
def FnExactTranslatedDegreeSaid : Prop := fnExactTranslatedDegreeRow.holds Tryz.pinned (OpenSpec.ofChange fnExactTranslatedDegreeSpec)

/-- ITS FALSE NEIGHBOUR: 'it returns false'. Refute it at one input. -/
def fnExactTranslatedDegreeWrong : ChangeSpec := { name := "fnExactTranslatedDegree", fn := fun _ => fun
  | [d1, d2, d3] => { results := [.lit (.bool false)], args := [d1, d2, d3] }
  | _ => none }
def FnExactTranslatedDegreeWrongFalsely : Prop := fnExactTranslatedDegreeRow.holds Tryz.pinned (OpenSpec.ofChange fnExactTranslatedDegreeWrong)

/-- 'laws.FnExactProofToPlanes': WHATEVER THE INPUT: true; the input reads as it did. -/
def fnExactProofToPlanesSpec : ChangeSpec := { name := "fnExactProofToPlanes", fn := fun _ => fun
  | [d1, d2] => { results := [.lit (.bool true)], args := [d1, d2] }
  | _ => none }
def fnExactProofToPlanesRow : OpenClaim := { program := "ytjpjbfbloplacaagreat", sum := "f5926b81b69532d2e4722411529023611f39e838a0b4c2a6c432b459595655c7", func := "loop.example/g01080/laws.FnExactProofToPlanes", spec := "fnExactProofToPlanes", unfollowed := true, recurses := true, apart := false }
def FnExactProofToPlanesSaid : Prop := fnExactProofToPlanesRow.holds Tryz.pinned (OpenSpec.ofChange fnExactProofToPlanesSpec)

/-- ITS FALSE NEIGHBOUR: 'it returns false'. Refute it at one input. -/
def fnExactProofToPlanesWrong : ChangeSpec := { name := "fnExactProofToPlanes", fn := fun _ => fun
  | [d1, d2] => { results := [.lit (.bool false)], args := [d1, d2] }
  | _ => none }
def FnExactProofToPlanesWrongFalsely : Prop := fnExactProofToPlanesRow.holds Tryz.pinned (OpenSpec.ofChange fnExactProofToPlanesWrong)

/-- 'laws.FnExactRemainderOf': WHATEVER THE INPUT: true; the input reads as it did. -/
def fnExactRemainderOfSpec : ChangeSpec := { name := "fnExactRemainderOf", fn := fun _ => fun
  | [d1, d2, d3, d4] => { results := [.lit (.bool true)], args := [d1, d2, d3, d4] }
  | _ => none }
def fnExactRemainderOfRow : OpenClaim := { program := "ytjpjbfbloplacaagreat", sum := "f5926b81b69532d2e4722411529023611f39e838a0b4c2a6c432b459595655c7", func := "loop.example/g01080/laws.FnExactRemainderOf", spec := "fnExactRemainderOf", unfollowed := true, recurses := true, apart := false }
def FnExactRemainderOfSaid : Prop := fnExactRemainderOfRow.holds Tryz.pinned (OpenSpec.ofChange fnExactRemainderOfSpec)

/-- ITS FALSE NEIGHBOUR: 'it returns false'. Refute it at one input. -/
def fnExactRemainderOfWrong : ChangeSpec := { name := "fnExactRemainderOf", fn := fun _ => fun
  | [d1, d2, d3, d4] => { results := [.lit (.bool false)], args := [d1, d2, d3, d4] }
  | _ => none }
def FnExactRemainderOfWrongFalsely : Prop := fnExactRemainderOfRow.holds Tryz.pinned (OpenSpec.ofChange fnExactRemainderOfWrong)

/-- 'laws.FnExactIsInPcSpan': WHATEVER THE INPUT: true; the input reads as it did. -/
def fnExactIsInPcSpanSpec : ChangeSpec := { name := "fnExactIsInPcSpan", fn := fun _ => fun
  | [d1, d2, d3, d4] => { results := [.lit (.bool true)], args := [d1, d2, d3, d4] }
  | _ => none }
def fnExactIsInPcSpanRow : OpenClaim := { program := "ytjpjbfbloplacaagreat", sum := "f5926b81b69532d2e4722411529023611f39e838a0b4c2a6c432b459595655c7", func := "loop.example/g01080/laws.FnExactIsInPcSpan", spec := "fnExactIsInPcSpan", unfollowed := true, recurses := true, apart := false }
def FnExactIsInPcSpanSaid : Prop := fnExactIsInPcSpanRow.holds Tryz.pinned (OpenSpec.ofChange fnExactIsInPcSpanSpec)

/-- ITS FALSE NEIGHBOUR: 'it returns false'. Refute it at one input. -/
def fnExactIsInPcSpanWrong : ChangeSpec := { name := "fnExactIsInPcSpan", fn := fun _ => fun
  | [d1, d2, d3, d4] => { results := [.lit (.bool false)], args := [d1, d2, d3, d4] }
  | _ => none }
def FnExactIsInPcSpanWrongFalsely : Prop := fnExactIsInPcSpanRow.holds Tryz.pinned (OpenSpec.ofChange fnExactIsInPcSpanWrong)

/-- 'laws.FnExactPcBasis': WHATEVER THE INPUT: true; the input reads as it did. -/
def fnExactPcBasisSpec : ChangeSpec := { name := "fnExactPcBasis", fn := fun _ => fun
  | [d1, d2, d3] => { results := [.lit (.bool true)], args := [d1, d2, d3] }
  | _ => none }
def fnExactPcBasisRow : OpenClaim := { program := "ytjpjbfbloplacaagreat", sum := "f5926b81b69532d2e4722411529023611f39e838a0b4c2a6c432b459595655c7", func := "loop.example/g01080/laws.FnExactPcBasis", spec := "fnExactPcBasis", unfollowed := true, recurses := true, apart := false }
def FnExactPcBasisSaid : Prop := fnExactPcBasisRow.holds Tryz.pinned (OpenSpec.ofChange fnExactPcBasisSpec)

/-- ITS FALSE NEIGHBOUR: 'it returns false'. Refute it at one input. -/
def fnExactPcBasisWrong : ChangeSpec := { name := "fnExactPcBasis", fn := fun _ => fun
  | [d1, d2, d3] => { results := [.lit (.bool false)], args := [d1, d2, d3] }
  | _ => none }
def FnExactPcBasisWrongFalsely : Prop := fnExactPcBasisRow.holds Tryz.pinned (OpenSpec.ofChange fnExactPcBasisWrong)

/-- 'laws.FnExactClausesInSpan': WHATEVER THE INPUT: true; the input reads as it did. -/
def fnExactClausesInSpanSpec : ChangeSpec := { name := "fnExactClausesInSpan", fn := fun _ => fun
  | [d1, d2, d3] => { results := [.lit (.bool true)], args := [d1, d2, d3] }
  | _ => none }
def fnExactClausesInSpanRow : OpenClaim := { program := "ytjpjbfbloplacaagreat", sum := "f5926b81b69532d2e4722411529023611f39e838a0b4c2a6c432b459595655c7", func := "loop.example/g01080/laws.FnExactClausesInSpan", spec := "fnExactClausesInSpan", unfollowed := true, recurses := true, apart := false }
def FnExactClausesInSpanSaid : Prop := fnExactClausesInSpanRow.holds Tryz.pinned (OpenSpec.ofChange fnExactClausesInSpanSpec)

/-- ITS FALSE NEIGHBOUR: 'it returns false'. Refute it at one input. -/
def fnExactClausesInSpanWrong : ChangeSpec := { name := "fnExactClausesInSpan", fn := fun _ => fun
  | [d1, d2, d3] => { results := [.lit (.bool false)], args := [d1, d2, d3] }
  | _ => none }
def FnExactClausesInSpanWrongFalsely : Prop := fnExactClausesInSpanRow.holds Tryz.pinned (OpenSpec.ofChange fnExactClausesInSpanWrong)

/-- 'laws.FnExactDegreesOver': WHATEVER THE INPUT: true; the input reads as it did. -/
def fnExactDegreesOverSpec : ChangeSpec := { name := "fnExactDegreesOver", fn := fun _ => fun
  | [d] => { results := [.lit (.bool true)], args := [d] }
  | _ => none }
def fnExactDegreesOverRow : OpenClaim := { program := "ytjpjbfbloplacaagreat", sum := "f5926b81b69532d2e4722411529023611f39e838a0b4c2a6c432b459595655c7", func := "loop.example/g01080/laws.FnExactDegreesOver", spec := "fnExactDegreesOver", unfollowed := true, recurses := true, apart := false }
def FnExactDegreesOverSaid : Prop := fnExactDegreesOverRow.holds Tryz.pinned (OpenSpec.ofChange fnExactDegreesOverSpec)

/-- ITS FALSE NEIGHBOUR: 'it returns false'. Refute it at one input. -/
def fnExactDegreesOverWrong : ChangeSpec := { name := "fnExactDegreesOver", fn := fun _ => fun
  | [d] => { results := [.lit (.bool false)], args := [d] }
  | _ => none }
def FnExactDegreesOverWrongFalsely : Prop := fnExactDegreesOverRow.holds Tryz.pinned (OpenSpec.ofChange fnExactDegreesOverWrong)

/- THE SECOND FORM. 'bulk': how many values and letters a reading holds, each counted each time it is reached (what is shared counts as often as it is met; a slice's spare places count too). A statement '..UptoSaid' is the law's where the arguments, and the package variables that the reading takes, are together of bulk at most 1048576: NARROWER than '..Said'. Prove '..Said' where nothing that the law and all that it calls make is longer than what came in: it says more and counts as full. Else prove '..UptoSaid'. A law counts once. -/
mutual
def uptoBulk {H : Type} : DataW H → Nat
  | .lit (.string bytes) => bytes.length + 1
  | .lit _ => 1
  | .nil => 1
  | .ptr d => uptoBulk d + 1
  | .slice elems spare => uptoBulkAll elems + uptoBulkAll spare + 1
  | .agg parts => uptoBulkAll parts + 1
  | .iface _ d => uptoBulk d + 1
  | .map entries => uptoBulkEntries entries + 1
  | .held _ => 1
def uptoBulkAll {H : Type} : List (DataW H) → Nat
  | [] => 0
  | d :: r => uptoBulk d + uptoBulkAll r
def uptoBulkEntries {H : Type} : List (Lit × DataW H) → Nat
  | [] => 0
  | x :: r => uptoBulkEntry x + uptoBulkEntries r
def uptoBulkEntry {H : Type} : Lit × DataW H → Nat
  | (.string bytes, d) => bytes.length + uptoBulk d + 1
  | (_, d) => uptoBulk d + 1
 end
def uptoSmall : (H : Type) → List (DataW H) → Bool := fun _ ds => decide (uptoBulkAll ds ≤ 1048576)
def OpenSpec.upto (s : _root_.Go.ChangeSpec) : _root_.Go.OpenSpec := { _root_.Go.OpenSpec.ofChange s with cond := some uptoSmall }

/-- 'laws.FnExactIsTranslationOf', WHERE WHAT IT READS IS OF BULK AT MOST 1048576: true; the input reads as it did. -/
def fnExactIsTranslationOfUptoRow : OpenClaim := { program := "ytjpjbfbloplacaagreat", sum := "f5926b81b69532d2e4722411529023611f39e838a0b4c2a6c432b459595655c7", func := "loop.example/g01080/laws.FnExactIsTranslationOf", spec := "fnExactIsTranslationOf", unfollowed := true, recurses := true, apart := false, narrowed := true }
def FnExactIsTranslationOfUptoSaid : Prop := fnExactIsTranslationOfUptoRow.holds Tryz.pinned (OpenSpec.upto fnExactIsTranslationOfSpec)

/-- 'laws.FnExactTranslatedDegree', WHERE WHAT IT READS IS OF BULK AT MOST 1048576: true; the input reads as it did. -/
def fnExactTranslatedDegreeUptoRow : OpenClaim := { program := "ytjpjbfbloplacaagreat", sum := "f5926b81b69532d2e4722411529023611f39e838a0b4c2a6c432b459595655c7", func := "loop.example/g01080/laws.FnExactTranslatedDegree", spec := "fnExactTranslatedDegree", unfollowed := true, recurses := true, apart := false, narrowed := true }
def FnExactTranslatedDegreeUptoSaid : Prop := fnExactTranslatedDegreeUptoRow.holds Tryz.pinned (OpenSpec.upto fnExactTranslatedDegreeSpec)

/-- 'laws.FnExactProofToPlanes', WHERE WHAT IT READS IS OF BULK AT MOST 1048576: true; the input reads as it did. -/
def fnExactProofToPlanesUptoRow : OpenClaim := { program := "ytjpjbfbloplacaagreat", sum := "f5926b81b69532d2e4722411529023611f39e838a0b4c2a6c432b459595655c7", func := "loop.example/g01080/laws.FnExactProofToPlanes", spec := "fnExactProofToPlanes", unfollowed := true, recurses := true, apart := false, narrowed := true }
def FnExactProofToPlanesUptoSaid : Prop := fnExactProofToPlanesUptoRow.holds Tryz.pinned (OpenSpec.upto fnExactProofToPlanesSpec)

/-- 'laws.FnExactRemainderOf', WHERE WHAT IT READS IS OF BULK AT MOST 1048576: true; the input reads as it did. -/
def fnExactRemainderOfUptoRow : OpenClaim := { program := "ytjpjbfbloplacaagreat", sum := "f5926b81b69532d2e4722411529023611f39e838a0b4c2a6c432b459595655c7", func := "loop.example/g01080/laws.FnExactRemainderOf", spec := "fnExactRemainderOf", unfollowed := true, recurses := true, apart := false, narrowed := true }
def FnExactRemainderOfUptoSaid : Prop := fnExactRemainderOfUptoRow.holds Tryz.pinned (OpenSpec.upto fnExactRemainderOfSpec)

/-- 'laws.FnExactIsInPcSpan', WHERE WHAT IT READS IS OF BULK AT MOST 1048576: true; the input reads as it did. -/
def fnExactIsInPcSpanUptoRow : OpenClaim := { program := "ytjpjbfbloplacaagreat", sum := "f5926b81b69532d2e4722411529023611f39e838a0b4c2a6c432b459595655c7", func := "loop.example/g01080/laws.FnExactIsInPcSpan", spec := "fnExactIsInPcSpan", unfollowed := true, recurses := true, apart := false, narrowed := true }
def FnExactIsInPcSpanUptoSaid : Prop := fnExactIsInPcSpanUptoRow.holds Tryz.pinned (OpenSpec.upto fnExactIsInPcSpanSpec)

/-- 'laws.FnExactPcBasis', WHERE WHAT IT READS IS OF BULK AT MOST 1048576: true; the input reads as it did. -/
def fnExactPcBasisUptoRow : OpenClaim := { program := "ytjpjbfbloplacaagreat", sum := "f5926b81b69532d2e4722411529023611f39e838a0b4c2a6c432b459595655c7", func := "loop.example/g01080/laws.FnExactPcBasis", spec := "fnExactPcBasis", unfollowed := true, recurses := true, apart := false, narrowed := true }
def FnExactPcBasisUptoSaid : Prop := fnExactPcBasisUptoRow.holds Tryz.pinned (OpenSpec.upto fnExactPcBasisSpec)

/-- 'laws.FnExactClausesInSpan', WHERE WHAT IT READS IS OF BULK AT MOST 1048576: true; the input reads as it did. -/
def fnExactClausesInSpanUptoRow : OpenClaim := { program := "ytjpjbfbloplacaagreat", sum := "f5926b81b69532d2e4722411529023611f39e838a0b4c2a6c432b459595655c7", func := "loop.example/g01080/laws.FnExactClausesInSpan", spec := "fnExactClausesInSpan", unfollowed := true, recurses := true, apart := false, narrowed := true }
def FnExactClausesInSpanUptoSaid : Prop := fnExactClausesInSpanUptoRow.holds Tryz.pinned (OpenSpec.upto fnExactClausesInSpanSpec)

/-- 'laws.FnExactDegreesOver', WHERE WHAT IT READS IS OF BULK AT MOST 1048576: true; the input reads as it did. -/
def fnExactDegreesOverUptoRow : OpenClaim := { program := "ytjpjbfbloplacaagreat", sum := "f5926b81b69532d2e4722411529023611f39e838a0b4c2a6c432b459595655c7", func := "loop.example/g01080/laws.FnExactDegreesOver", spec := "fnExactDegreesOver", unfollowed := true, recurses := true, apart := false, narrowed := true }
def FnExactDegreesOverUptoSaid : Prop := fnExactDegreesOverUptoRow.holds Tryz.pinned (OpenSpec.upto fnExactDegreesOverSpec)

end Rows
end Go.Proofs.YtjpjbfbloplacaaGreat
