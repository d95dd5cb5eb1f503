/-
  No cell of these rows narrows 'for every input' (looked for: loops, veiled, ifaces, maps, wideKeys, modest, calm, conditions, laid).
  DERIVED. THE GIVEN ROWS OF THIS SEAT. 3 by the template 'for every input the law returns true; each argument reads behind the call as it read before'; 0 by the template 'total and deterministic' (their statements: YtjfiedidpiopbaaGreatTotals.lean).
  GIVEN WITH THE SEED: the statements are not yours to turn. If you find one false, say at which input.
  Laid BY PROGRAM, IN A SANDBOX (cutbox-rows.mjs): the forced cells as the released guide's own fill.sh prints them over the translation 065f3863e974cce1… (all of the seat's roots in one cut). By AI agents, Wed Nov 11 2026. No macro, syntax, notation, axiom, sorry.
-/
import Derived.Test.YtjfiedidpiopbaaGreatChecked
import GoSem.Claim
import GoSem.ClaimJoined
import GoSem.ClaimMapViews
import Derived.JoinedTies
import Derived.KernelRfl
namespace Go.Proofs.YtjfiedidpiopbaaGreat
/- THE CELL 'sum', in the pinned program and in every row, IS THE sha256 OF THE DUMP (.gsa) THAT YtjfiedidpiopbaaGreatProg.lean LOADS. Nothing in Lean hashes anything: it is a label: what it is worth is what the hold of that sum in a sandbox is worth. -/
noncomputable def Tryz.pinned : Pinned := { name := "ytjfiedidpiopbaagreat", sum := "065f3863e974cce1154dc21b1fa0830ffd75318a98d23a932dfbceb2cdaf4cc2", checked := Tryz.checked }
namespace Rows
def none {H : Type} : Left H := { results := [], args := [] }

/-- 'laws.FnExactTimeForSpace': WHATEVER THE INPUT: true; the input reads as it did. -/
def fnExactTimeForSpaceSpec : ChangeSpec := { name := "fnExactTimeForSpace", fn := fun _ => fun
  | [d1, d2] => { results := [.lit (.bool true)], args := [d1, d2] }
  | _ => none }
def fnExactTimeForSpaceRow : OpenClaim := { program := "ytjfiedidpiopbaagreat", sum := "065f3863e974cce1154dc21b1fa0830ffd75318a98d23a932dfbceb2cdaf4cc2", func := "loop.example/g01080/laws.FnExactTimeForSpace", spec := "fnExactTimeForSpace", unfollowed := true, recurses := true, apart := false }
def FnExactTimeForSpaceSaid : Prop := fnExactTimeForSpaceRow.holds Tryz.pinned (OpenSpec.ofChange fnExactTimeForSpaceSpec)

/-- ITS FALSE NEIGHBOUR: 'it returns false'. Refute it at one input. -/
def fnExactTimeForSpaceWrong : ChangeSpec := { name := "fnExactTimeForSpace", fn := fun _ => fun
  | [d1, d2] => { results := [.lit (.bool false)], args := [d1, d2] }
  | _ => none }
def FnExactTimeForSpaceWrongFalsely : Prop := fnExactTimeForSpaceRow.holds Tryz.pinned (OpenSpec.ofChange fnExactTimeForSpaceWrong)

/-- 'laws.FnExactLeastSpace': WHATEVER THE INPUT: true; the input reads as it did. -/
def fnExactLeastSpaceSpec : ChangeSpec := { name := "fnExactLeastSpace", fn := fun _ => fun
  | [d] => { results := [.lit (.bool true)], args := [d] }
  | _ => none }
def fnExactLeastSpaceRow : OpenClaim := { program := "ytjfiedidpiopbaagreat", sum := "065f3863e974cce1154dc21b1fa0830ffd75318a98d23a932dfbceb2cdaf4cc2", func := "loop.example/g01080/laws.FnExactLeastSpace", spec := "fnExactLeastSpace", unfollowed := true, recurses := true, apart := false }
def FnExactLeastSpaceSaid : Prop := fnExactLeastSpaceRow.holds Tryz.pinned (OpenSpec.ofChange fnExactLeastSpaceSpec)

/-- ITS FALSE NEIGHBOUR: 'it returns false'. Refute it at one input. -/
def fnExactLeastSpaceWrong : ChangeSpec := { name := "fnExactLeastSpace", fn := fun _ => fun
  | [d] => { results := [.lit (.bool false)], args := [d] }
  | _ => none }
def FnExactLeastSpaceWrongFalsely : Prop := fnExactLeastSpaceRow.holds Tryz.pinned (OpenSpec.ofChange fnExactLeastSpaceWrong)

/-- 'laws.FnExactShortestRun': WHATEVER THE INPUT: true; the input reads as it did. -/
def fnExactShortestRunSpec : ChangeSpec := { name := "fnExactShortestRun", fn := fun _ => fun
  | [d1, d2] => { results := [.lit (.bool true)], args := [d1, d2] }
  | _ => none }
def fnExactShortestRunRow : OpenClaim := { program := "ytjfiedidpiopbaagreat", sum := "065f3863e974cce1154dc21b1fa0830ffd75318a98d23a932dfbceb2cdaf4cc2", func := "loop.example/g01080/laws.FnExactShortestRun", spec := "fnExactShortestRun", unfollowed := true, recurses := true, apart := false }
def FnExactShortestRunSaid : Prop := fnExactShortestRunRow.holds Tryz.pinned (OpenSpec.ofChange fnExactShortestRunSpec)

/-- ITS FALSE NEIGHBOUR: 'it returns false'. Refute it at one input. -/
def fnExactShortestRunWrong : ChangeSpec := { name := "fnExactShortestRun", fn := fun _ => fun
  | [d1, d2] => { results := [.lit (.bool false)], args := [d1, d2] }
  | _ => none }
def FnExactShortestRunWrongFalsely : Prop := fnExactShortestRunRow.holds Tryz.pinned (OpenSpec.ofChange fnExactShortestRunWrong)

/- THE SECOND FORM. 'bulk': how many values and letters a reading holds, each counted each time it is reached (what is shared counts as often as it is met; a slice's spare places count too). A statement '..UptoSaid' is the law's where the arguments, and the package variables that the reading takes, are together of bulk at most 1048576: NARROWER than '..Said'. Prove '..Said' where nothing that the law and all that it calls make is longer than what came in: it says more and counts as full. Else prove '..UptoSaid'. A law counts once. -/
mutual
def uptoBulk {H : Type} : DataW H → Nat
  | .lit (.string bytes) => bytes.length + 1
  | .lit _ => 1
  | .nil => 1
  | .ptr d => uptoBulk d + 1
  | .slice elems spare => uptoBulkAll elems + uptoBulkAll spare + 1
  | .agg parts => uptoBulkAll parts + 1
  | .iface _ d => uptoBulk d + 1
  | .map entries => uptoBulkEntries entries + 1
  | .held _ => 1
def uptoBulkAll {H : Type} : List (DataW H) → Nat
  | [] => 0
  | d :: r => uptoBulk d + uptoBulkAll r
def uptoBulkEntries {H : Type} : List (Lit × DataW H) → Nat
  | [] => 0
  | x :: r => uptoBulkEntry x + uptoBulkEntries r
def uptoBulkEntry {H : Type} : Lit × DataW H → Nat
  | (.string bytes, d) => bytes.length + uptoBulk d + 1
  | (_, d) => uptoBulk d + 1
 end
def uptoSmall : (H : Type) → List (DataW H) → Bool := fun _ ds => decide (uptoBulkAll ds ≤ 1048576)
def OpenSpec.upto (s : _root_.Go.ChangeSpec) : _root_.Go.OpenSpec := { _root_.Go.OpenSpec.ofChange s with cond := some uptoSmall }

/-- 'laws.FnExactTimeForSpace', WHERE WHAT IT READS IS OF BULK AT MOST 1048576: true; the input reads as it did. -/
def fnExactTimeForSpaceUptoRow : OpenClaim := { program := "ytjfiedidpiopbaagreat", sum := "065f3863e974cce1154dc21b1fa0830ffd75318a98d23a932dfbceb2cdaf4cc2", func := "loop.example/g01080/laws.FnExactTimeForSpace", spec := "fnExactTimeForSpace", unfollowed := true, recurses := true, apart := false, narrowed := true }
def FnExactTimeForSpaceUptoSaid : Prop := fnExactTimeForSpaceUptoRow.holds Tryz.pinned (OpenSpec.upto fnExactTimeForSpaceSpec)

/-- 'laws.FnExactLeastSpace', WHERE WHAT IT READS IS OF BULK AT MOST 1048576: true; the input reads as it did. -/
def fnExactLeastSpaceUptoRow : OpenClaim := { program := "ytjfiedidpiopbaagreat", sum := "065f3863e974cce1154dc21b1fa0830ffd75318a98d23a932dfbceb2cdaf4cc2", func := "loop.example/g01080/laws.FnExactLeastSpace", spec := "fnExactLeastSpace", unfollowed := true, recurses := true, apart := false, narrowed := true }
def FnExactLeastSpaceUptoSaid : Prop := fnExactLeastSpaceUptoRow.holds Tryz.pinned (OpenSpec.upto fnExactLeastSpaceSpec)

/-- 'laws.FnExactShortestRun', WHERE WHAT IT READS IS OF BULK AT MOST 1048576: true; the input reads as it did. -/
def fnExactShortestRunUptoRow : OpenClaim := { program := "ytjfiedidpiopbaagreat", sum := "065f3863e974cce1154dc21b1fa0830ffd75318a98d23a932dfbceb2cdaf4cc2", func := "loop.example/g01080/laws.FnExactShortestRun", spec := "fnExactShortestRun", unfollowed := true, recurses := true, apart := false, narrowed := true }
def FnExactShortestRunUptoSaid : Prop := fnExactShortestRunUptoRow.holds Tryz.pinned (OpenSpec.upto fnExactShortestRunSpec)

end Rows
end Go.Proofs.YtjfiedidpiopbaaGreat
