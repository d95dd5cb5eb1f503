/-
  DERIVED. GIVEN WITH THE SEED: THE CARDS: each row of YtjkhehplbjempaaGreatDoorRows.lean that lists a variable, with what it lists TIED to the program's text (the seventh form; the later family's looks); each row that meets fmt, with fmt's text TOLD by the authors' own Lean function (tested against real Go, not proved from fmt's source: count such statements apart). THE CARD IS WHAT COUNTS. Prove the row's statement (the work); the ties are given (YtjkhehplbjempaaGreatDoorTie.lean); close each card by the builder's one call (the guide's Derived/Test/ToyasCard.lean, 'card_holds'). Laid BY PROGRAM, IN A SANDBOX (cutbox-door.mjs). By AI agents, Wed Nov 11 2026. No macro, syntax, notation, axiom, sorry.
-/
import Derived.Test.YtjkhehplbjempaaGreatDoorRows
import GoSem.ClaimSeven
namespace Go.Proofs.YtjkhehplbjempaaGreatDoor
namespace Rows

/-- THE TIED CARD OF 'laws.FnExactDerivationText'. -/
def fnExactDerivationTextCard : Claim7 := { stood := { row := fnExactDerivationTextRow, standIns := [], harness := (true, "8a77922764f4fbfcc34cab59e244afdbd741b99a6b0c4a9fd0342d8390558ca9"), looks := false }, kinds := [], alts := [], laidByText := true, laidKinds := [.data, .data, .data], laidTests := true, laidLooks := .later }
def FnExactDerivationTextCardSaid : Prop := Claim7.holds Tryz.pinned (.plain (OpenSpec.ofChange fnExactDerivationTextSpec)) fnExactDerivationTextCard

/-- THE TIED CARD OF 'laws.FnExactBenchText'. -/
def fnExactBenchTextCard : Claim7 := { stood := { row := fnExactBenchTextRow, standIns := [], harness := (true, "8a77922764f4fbfcc34cab59e244afdbd741b99a6b0c4a9fd0342d8390558ca9"), looks := false }, kinds := [], alts := [], laidByText := true, laidKinds := [.data, .data, .data], laidTests := true, laidLooks := .later }
def FnExactBenchTextCardSaid : Prop := Claim7.holds Tryz.pinned (.plain (OpenSpec.ofChange fnExactBenchTextSpec)) fnExactBenchTextCard

/-- THE SECOND FORM's CARD OF 'laws.FnExactDerivationText'. -/
def fnExactDerivationTextUptoCard : Claim7 := { stood := { row := fnExactDerivationTextUptoRow, standIns := [], harness := (true, "8a77922764f4fbfcc34cab59e244afdbd741b99a6b0c4a9fd0342d8390558ca9"), looks := false }, kinds := [], alts := [], laidByText := true, laidKinds := [.data, .data, .data], laidTests := true, laidLooks := .later }
def FnExactDerivationTextUptoCardSaid : Prop := Claim7.holds Tryz.pinned (.plain (OpenSpec.upto fnExactDerivationTextSpec)) fnExactDerivationTextUptoCard

/-- THE SECOND FORM's CARD OF 'laws.FnExactBenchText'. -/
def fnExactBenchTextUptoCard : Claim7 := { stood := { row := fnExactBenchTextUptoRow, standIns := [], harness := (true, "8a77922764f4fbfcc34cab59e244afdbd741b99a6b0c4a9fd0342d8390558ca9"), looks := false }, kinds := [], alts := [], laidByText := true, laidKinds := [.data, .data, .data], laidTests := true, laidLooks := .later }
def FnExactBenchTextUptoCardSaid : Prop := Claim7.holds Tryz.pinned (.plain (OpenSpec.upto fnExactBenchTextSpec)) fnExactBenchTextUptoCard
end Rows
end Go.Proofs.YtjkhehplbjempaaGreatDoor
