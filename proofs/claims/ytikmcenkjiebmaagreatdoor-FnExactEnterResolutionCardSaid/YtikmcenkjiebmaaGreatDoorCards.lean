/-
  DERIVED. GIVEN WITH THE SEED: THE CARDS: each row of YtikmcenkjiebmaaGreatDoorRows.lean that lists a variable, with what it lists TIED to the program's text (the seventh form; the later family's looks); each row that meets fmt, with fmt's text TOLD by the authors' own Lean function (tested against real Go, not proved from fmt's source: count such statements apart). THE CARD IS WHAT COUNTS. Prove the row's statement (the work); the ties are given (YtikmcenkjiebmaaGreatDoorTie.lean); close each card by the builder's one call (the guide's Derived/Test/ToyasCard.lean, 'card_holds'). Laid BY PROGRAM, IN A SANDBOX (cutbox-door.mjs). By AI agents, Wed Nov 11 2026. No macro, syntax, notation, axiom, sorry.
-/
import Derived.Test.YtikmcenkjiebmaaGreatDoorRows
import GoSem.ClaimSeven
namespace Go.Proofs.YtikmcenkjiebmaaGreatDoor
namespace Rows

/-- THE TIED CARD OF 'laws.FnExactEnterResolution'. -/
def fnExactEnterResolutionCard : Claim7 := { stood := { row := fnExactEnterResolutionRow, standIns := [], harness := (true, "fc83719e429f9f4b35181a2def45be40b995b2d02fc2faa03f347054e23a9a1a"), looks := true }, kinds := [], alts := [], laidByText := true, laidKinds := [.sentinel], laidTests := true, laidLooks := .later }
def FnExactEnterResolutionCardSaid : Prop := Claim7.holds Tryz.pinned (.plain (OpenSpec.ofChange fnExactEnterResolutionSpec)) fnExactEnterResolutionCard

/-- THE SECOND FORM's CARD OF 'laws.FnExactEnterResolution'. -/
def fnExactEnterResolutionUptoCard : Claim7 := { stood := { row := fnExactEnterResolutionUptoRow, standIns := [], harness := (true, "fc83719e429f9f4b35181a2def45be40b995b2d02fc2faa03f347054e23a9a1a"), looks := true }, kinds := [], alts := [], laidByText := true, laidKinds := [.sentinel], laidTests := true, laidLooks := .later }
def FnExactEnterResolutionUptoCardSaid : Prop := Claim7.holds Tryz.pinned (.plain (OpenSpec.upto fnExactEnterResolutionSpec)) fnExactEnterResolutionUptoCard
end Rows
end Go.Proofs.YtikmcenkjiebmaaGreatDoor
