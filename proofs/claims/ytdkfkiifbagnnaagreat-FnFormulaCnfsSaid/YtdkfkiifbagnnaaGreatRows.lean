/-
  No cell of these rows narrows 'for every input' (looked for: loops, veiled, ifaces, maps, wideKeys, modest, calm, conditions, laid).
  DERIVED. THE GIVEN ROWS OF THIS SEAT. 6 by the template 'for every input the law returns true; each argument reads behind the call as it read before'; 0 by the template 'total and deterministic' (their statements: YtdkfkiifbagnnaaGreatTotals.lean).
  GIVEN WITH THE SEED: the statements are not yours to turn. If you find one false, say at which input.
  Laid BY PROGRAM, IN A SANDBOX (cutbox-rows.mjs): the forced cells as the released guide's own fill.sh prints them over the translation 76a8cee5ed61f63c… (all of the seat's roots in one cut). By AI agents, Wed Nov 11 2026. No macro, syntax, notation, axiom, sorry.
-/
import Derived.Test.YtdkfkiifbagnnaaGreatChecked
import GoSem.Claim
import GoSem.ClaimJoined
import GoSem.ClaimMapViews
import Derived.JoinedTies
import Derived.KernelRfl
namespace Go.Proofs.YtdkfkiifbagnnaaGreat
/- THE CELL 'sum', in the pinned program and in every row, IS THE sha256 OF THE DUMP (.gsa) THAT YtdkfkiifbagnnaaGreatProg.lean LOADS. Nothing in Lean hashes anything: it is a label: what it is worth is what the hold of that sum in a sandbox is worth. -/
noncomputable def Tryz.pinned : Pinned := { name := "ytdkfkiifbagnnaagreat", sum := "76a8cee5ed61f63c7e7677d2a36ffa66807a50d5a248fc11ddf155114738a423", checked := Tryz.checked }
namespace Rows
def none {H : Type} : Left H := { results := [], args := [] }

/-- 'laws.FnExactCutFreeFor': WHATEVER THE INPUT: true; the input reads as it did. -/
def fnExactCutFreeForSpec : ChangeSpec := { name := "fnExactCutFreeFor", fn := fun _ => fun
  | [d1, d2] => { results := [.lit (.bool true)], args := [d1, d2] }
  | _ => none }
def fnExactCutFreeForRow : OpenClaim := { program := "ytdkfkiifbagnnaagreat", sum := "76a8cee5ed61f63c7e7677d2a36ffa66807a50d5a248fc11ddf155114738a423", func := "loop.example/g01080/laws.FnExactCutFreeFor", spec := "fnExactCutFreeFor", inPlace := ["internal/bytealg.IndexByteString", "internal/bytealg.IndexString", "internal/bytealg.abigen_runtime_cmpstring"], unfollowed := true, recurses := true, named := ["internal/bytealg.MaxLen"], apart := false }
def FnExactCutFreeForSaid : Prop := fnExactCutFreeForRow.holds Tryz.pinned (OpenSpec.ofChange fnExactCutFreeForSpec)

/-- ITS FALSE NEIGHBOUR: 'it returns false'. Refute it at one input. -/
def fnExactCutFreeForWrong : ChangeSpec := { name := "fnExactCutFreeFor", fn := fun _ => fun
  | [d1, d2] => { results := [.lit (.bool false)], args := [d1, d2] }
  | _ => none }
def FnExactCutFreeForWrongFalsely : Prop := fnExactCutFreeForRow.holds Tryz.pinned (OpenSpec.ofChange fnExactCutFreeForWrong)

/-- 'laws.FnExactTrimSeq': WHATEVER THE INPUT: true; the input reads as it did. -/
def fnExactTrimSeqSpec : ChangeSpec := { name := "fnExactTrimSeq", fn := fun _ => fun
  | [d] => { results := [.lit (.bool true)], args := [d] }
  | _ => none }
def fnExactTrimSeqRow : OpenClaim := { program := "ytdkfkiifbagnnaagreat", sum := "76a8cee5ed61f63c7e7677d2a36ffa66807a50d5a248fc11ddf155114738a423", func := "loop.example/g01080/laws.FnExactTrimSeq", spec := "fnExactTrimSeq", inPlace := ["internal/bytealg.IndexByteString", "internal/bytealg.IndexString", "internal/bytealg.abigen_runtime_cmpstring"], unfollowed := true, recurses := true, named := ["internal/bytealg.MaxLen"], apart := false }
def FnExactTrimSeqSaid : Prop := fnExactTrimSeqRow.holds Tryz.pinned (OpenSpec.ofChange fnExactTrimSeqSpec)

/-- ITS FALSE NEIGHBOUR: 'it returns false'. Refute it at one input. -/
def fnExactTrimSeqWrong : ChangeSpec := { name := "fnExactTrimSeq", fn := fun _ => fun
  | [d] => { results := [.lit (.bool false)], args := [d] }
  | _ => none }
def FnExactTrimSeqWrongFalsely : Prop := fnExactTrimSeqRow.holds Tryz.pinned (OpenSpec.ofChange fnExactTrimSeqWrong)

/-- 'laws.FnExactJoinByCut': WHATEVER THE INPUT: true; the input reads as it did. -/
def fnExactJoinByCutSpec : ChangeSpec := { name := "fnExactJoinByCut", fn := fun _ => fun
  | [d1, d2, d3] => { results := [.lit (.bool true)], args := [d1, d2, d3] }
  | _ => none }
def fnExactJoinByCutRow : OpenClaim := { program := "ytdkfkiifbagnnaagreat", sum := "76a8cee5ed61f63c7e7677d2a36ffa66807a50d5a248fc11ddf155114738a423", func := "loop.example/g01080/laws.FnExactJoinByCut", spec := "fnExactJoinByCut", inPlace := ["internal/bytealg.IndexByteString", "internal/bytealg.IndexString", "internal/bytealg.abigen_runtime_cmpstring"], unfollowed := true, recurses := true, named := ["internal/bytealg.MaxLen"], apart := false }
def FnExactJoinByCutSaid : Prop := fnExactJoinByCutRow.holds Tryz.pinned (OpenSpec.ofChange fnExactJoinByCutSpec)

/-- ITS FALSE NEIGHBOUR: 'it returns false'. Refute it at one input. -/
def fnExactJoinByCutWrong : ChangeSpec := { name := "fnExactJoinByCut", fn := fun _ => fun
  | [d1, d2, d3] => { results := [.lit (.bool false)], args := [d1, d2, d3] }
  | _ => none }
def FnExactJoinByCutWrongFalsely : Prop := fnExactJoinByCutRow.holds Tryz.pinned (OpenSpec.ofChange fnExactJoinByCutWrong)

/-- 'laws.FnExactDropCuts': WHATEVER THE INPUT: true; the input reads as it did. -/
def fnExactDropCutsSpec : ChangeSpec := { name := "fnExactDropCuts", fn := fun _ => fun
  | [d] => { results := [.lit (.bool true)], args := [d] }
  | _ => none }
def fnExactDropCutsRow : OpenClaim := { program := "ytdkfkiifbagnnaagreat", sum := "76a8cee5ed61f63c7e7677d2a36ffa66807a50d5a248fc11ddf155114738a423", func := "loop.example/g01080/laws.FnExactDropCuts", spec := "fnExactDropCuts", inPlace := ["internal/bytealg.IndexByteString", "internal/bytealg.IndexString", "internal/bytealg.abigen_runtime_cmpstring"], unfollowed := true, recurses := true, named := ["internal/bytealg.MaxLen"], apart := false }
def FnExactDropCutsSaid : Prop := fnExactDropCutsRow.holds Tryz.pinned (OpenSpec.ofChange fnExactDropCutsSpec)

/-- ITS FALSE NEIGHBOUR: 'it returns false'. Refute it at one input. -/
def fnExactDropCutsWrong : ChangeSpec := { name := "fnExactDropCuts", fn := fun _ => fun
  | [d] => { results := [.lit (.bool false)], args := [d] }
  | _ => none }
def FnExactDropCutsWrongFalsely : Prop := fnExactDropCutsRow.holds Tryz.pinned (OpenSpec.ofChange fnExactDropCutsWrong)

/-- 'laws.FnExactModusSequents': WHATEVER THE INPUT: true; the input reads as it did. -/
def fnExactModusSequentsSpec : ChangeSpec := { name := "fnExactModusSequents", fn := fun _ => fun
  | [d1, d2] => { results := [.lit (.bool true)], args := [d1, d2] }
  | _ => none }
def fnExactModusSequentsRow : OpenClaim := { program := "ytdkfkiifbagnnaagreat", sum := "76a8cee5ed61f63c7e7677d2a36ffa66807a50d5a248fc11ddf155114738a423", func := "loop.example/g01080/laws.FnExactModusSequents", spec := "fnExactModusSequents", inPlace := ["internal/bytealg.IndexByteString", "internal/bytealg.IndexString", "internal/bytealg.abigen_runtime_cmpstring"], unfollowed := true, recurses := true, named := ["internal/bytealg.MaxLen"], apart := false }
def FnExactModusSequentsSaid : Prop := fnExactModusSequentsRow.holds Tryz.pinned (OpenSpec.ofChange fnExactModusSequentsSpec)

/-- ITS FALSE NEIGHBOUR: 'it returns false'. Refute it at one input. -/
def fnExactModusSequentsWrong : ChangeSpec := { name := "fnExactModusSequents", fn := fun _ => fun
  | [d1, d2] => { results := [.lit (.bool false)], args := [d1, d2] }
  | _ => none }
def FnExactModusSequentsWrongFalsely : Prop := fnExactModusSequentsRow.holds Tryz.pinned (OpenSpec.ofChange fnExactModusSequentsWrong)

/-- 'laws.FnFormulaCnfs': WHATEVER THE INPUT: true; the input reads as it did. -/
def fnFormulaCnfsSpec : ChangeSpec := { name := "fnFormulaCnfs", fn := fun _ => fun
  | [d] => { results := [.lit (.bool true)], args := [d] }
  | _ => none }
def fnFormulaCnfsRow : OpenClaim := { program := "ytdkfkiifbagnnaagreat", sum := "76a8cee5ed61f63c7e7677d2a36ffa66807a50d5a248fc11ddf155114738a423", func := "loop.example/g01080/laws.FnFormulaCnfs", spec := "fnFormulaCnfs", inPlace := ["internal/bytealg.IndexByteString", "internal/bytealg.IndexString", "internal/bytealg.abigen_runtime_cmpstring"], unfollowed := true, recurses := true, named := ["internal/bytealg.MaxLen"], apart := false }
def FnFormulaCnfsSaid : Prop := fnFormulaCnfsRow.holds Tryz.pinned (OpenSpec.ofChange fnFormulaCnfsSpec)

/-- ITS FALSE NEIGHBOUR: 'it returns false'. Refute it at one input. -/
def fnFormulaCnfsWrong : ChangeSpec := { name := "fnFormulaCnfs", fn := fun _ => fun
  | [d] => { results := [.lit (.bool false)], args := [d] }
  | _ => none }
def FnFormulaCnfsWrongFalsely : Prop := fnFormulaCnfsRow.holds Tryz.pinned (OpenSpec.ofChange fnFormulaCnfsWrong)

/- THE SECOND FORM. 'bulk': how many values and letters a reading holds, each counted each time it is reached (what is shared counts as often as it is met; a slice's spare places count too). A statement '..UptoSaid' is the law's where the arguments, and the package variables that the reading takes, are together of bulk at most 1048576: NARROWER than '..Said'. Prove '..Said' where nothing that the law and all that it calls make is longer than what came in: it says more and counts as full. Else prove '..UptoSaid'. A law counts once. -/
mutual
def uptoBulk {H : Type} : DataW H → Nat
  | .lit (.string bytes) => bytes.length + 1
  | .lit _ => 1
  | .nil => 1
  | .ptr d => uptoBulk d + 1
  | .slice elems spare => uptoBulkAll elems + uptoBulkAll spare + 1
  | .agg parts => uptoBulkAll parts + 1
  | .iface _ d => uptoBulk d + 1
  | .map entries => uptoBulkEntries entries + 1
  | .held _ => 1
def uptoBulkAll {H : Type} : List (DataW H) → Nat
  | [] => 0
  | d :: r => uptoBulk d + uptoBulkAll r
def uptoBulkEntries {H : Type} : List (Lit × DataW H) → Nat
  | [] => 0
  | x :: r => uptoBulkEntry x + uptoBulkEntries r
def uptoBulkEntry {H : Type} : Lit × DataW H → Nat
  | (.string bytes, d) => bytes.length + uptoBulk d + 1
  | (_, d) => uptoBulk d + 1
 end
def uptoSmall : (H : Type) → List (DataW H) → Bool := fun _ ds => decide (uptoBulkAll ds ≤ 1048576)
def OpenSpec.upto (s : _root_.Go.ChangeSpec) : _root_.Go.OpenSpec := { _root_.Go.OpenSpec.ofChange s with cond := some uptoSmall }

/-- 'laws.FnExactCutFreeFor', WHERE WHAT IT READS IS OF BULK AT MOST 1048576: true; the input reads as it did. -/
def fnExactCutFreeForUptoRow : OpenClaim := { program := "ytdkfkiifbagnnaagreat", sum := "76a8cee5ed61f63c7e7677d2a36ffa66807a50d5a248fc11ddf155114738a423", func := "loop.example/g01080/laws.FnExactCutFreeFor", spec := "fnExactCutFreeFor", inPlace := ["internal/bytealg.IndexByteString", "internal/bytealg.IndexString", "internal/bytealg.abigen_runtime_cmpstring"], unfollowed := true, recurses := true, named := ["internal/bytealg.MaxLen"], apart := false, narrowed := true }
def FnExactCutFreeForUptoSaid : Prop := fnExactCutFreeForUptoRow.holds Tryz.pinned (OpenSpec.upto fnExactCutFreeForSpec)

/-- 'laws.FnExactTrimSeq', WHERE WHAT IT READS IS OF BULK AT MOST 1048576: true; the input reads as it did. -/
def fnExactTrimSeqUptoRow : OpenClaim := { program := "ytdkfkiifbagnnaagreat", sum := "76a8cee5ed61f63c7e7677d2a36ffa66807a50d5a248fc11ddf155114738a423", func := "loop.example/g01080/laws.FnExactTrimSeq", spec := "fnExactTrimSeq", inPlace := ["internal/bytealg.IndexByteString", "internal/bytealg.IndexString", "internal/bytealg.abigen_runtime_cmpstring"], unfollowed := true, recurses := true, named := ["internal/bytealg.MaxLen"], apart := false, narrowed := true }
def FnExactTrimSeqUptoSaid : Prop := fnExactTrimSeqUptoRow.holds Tryz.pinned (OpenSpec.upto fnExactTrimSeqSpec)

/-- 'laws.FnExactJoinByCut', WHERE WHAT IT READS IS OF BULK AT MOST 1048576: true; the input reads as it did. -/
def fnExactJoinByCutUptoRow : OpenClaim := { program := "ytdkfkiifbagnnaagreat", sum := "76a8cee5ed61f63c7e7677d2a36ffa66807a50d5a248fc11ddf155114738a423", func := "loop.example/g01080/laws.FnExactJoinByCut", spec := "fnExactJoinByCut", inPlace := ["internal/bytealg.IndexByteString", "internal/bytealg.IndexString", "internal/bytealg.abigen_runtime_cmpstring"], unfollowed := true, recurses := true, named := ["internal/bytealg.MaxLen"], apart := false, narrowed := true }
def FnExactJoinByCutUptoSaid : Prop := fnExactJoinByCutUptoRow.holds Tryz.pinned (OpenSpec.upto fnExactJoinByCutSpec)

/-- 'laws.FnExactDropCuts', WHERE WHAT IT READS IS OF BULK AT MOST 1048576: true; the input reads as it did. -/
def fnExactDropCutsUptoRow : OpenClaim := { program := "ytdkfkiifbagnnaagreat", sum := "76a8cee5ed61f63c7e7677d2a36ffa66807a50d5a248fc11ddf155114738a423", func := "loop.example/g01080/laws.FnExactDropCuts", spec := "fnExactDropCuts", inPlace := ["internal/bytealg.IndexByteString", "internal/bytealg.IndexString", "internal/bytealg.abigen_runtime_cmpstring"], unfollowed := true, recurses := true, named := ["internal/bytealg.MaxLen"], apart := false, narrowed := true }
def FnExactDropCutsUptoSaid : Prop := fnExactDropCutsUptoRow.holds Tryz.pinned (OpenSpec.upto fnExactDropCutsSpec)

/-- 'laws.FnExactModusSequents', WHERE WHAT IT READS IS OF BULK AT MOST 1048576: true; the input reads as it did. -/
def fnExactModusSequentsUptoRow : OpenClaim := { program := "ytdkfkiifbagnnaagreat", sum := "76a8cee5ed61f63c7e7677d2a36ffa66807a50d5a248fc11ddf155114738a423", func := "loop.example/g01080/laws.FnExactModusSequents", spec := "fnExactModusSequents", inPlace := ["internal/bytealg.IndexByteString", "internal/bytealg.IndexString", "internal/bytealg.abigen_runtime_cmpstring"], unfollowed := true, recurses := true, named := ["internal/bytealg.MaxLen"], apart := false, narrowed := true }
def FnExactModusSequentsUptoSaid : Prop := fnExactModusSequentsUptoRow.holds Tryz.pinned (OpenSpec.upto fnExactModusSequentsSpec)

/-- 'laws.FnFormulaCnfs', WHERE WHAT IT READS IS OF BULK AT MOST 1048576: true; the input reads as it did. -/
def fnFormulaCnfsUptoRow : OpenClaim := { program := "ytdkfkiifbagnnaagreat", sum := "76a8cee5ed61f63c7e7677d2a36ffa66807a50d5a248fc11ddf155114738a423", func := "loop.example/g01080/laws.FnFormulaCnfs", spec := "fnFormulaCnfs", inPlace := ["internal/bytealg.IndexByteString", "internal/bytealg.IndexString", "internal/bytealg.abigen_runtime_cmpstring"], unfollowed := true, recurses := true, named := ["internal/bytealg.MaxLen"], apart := false, narrowed := true }
def FnFormulaCnfsUptoSaid : Prop := fnFormulaCnfsUptoRow.holds Tryz.pinned (OpenSpec.upto fnFormulaCnfsSpec)

end Rows
end Go.Proofs.YtdkfkiifbagnnaaGreat
