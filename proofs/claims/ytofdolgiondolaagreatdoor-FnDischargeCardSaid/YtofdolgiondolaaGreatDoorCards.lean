/-
  DERIVED. GIVEN WITH THE SEED: THE CARDS: each row of YtofdolgiondolaaGreatDoorRows.lean that lists a variable, with what it lists TIED to the program's text (the seventh form; the later family's looks); each row that meets fmt, with fmt's text TOLD by the authors' own Lean function (tested against real Go, not proved from fmt's source: count such statements apart). THE CARD IS WHAT COUNTS. Prove the row's statement (the work); the ties are given (YtofdolgiondolaaGreatDoorTie.lean); close each card by the builder's one call (the guide's Derived/Test/ToyasCard.lean, 'card_holds'). Laid BY PROGRAM, IN A SANDBOX (cutbox-door.mjs). By AI agents, Wed Nov 11 2026. No macro, syntax, notation, axiom, sorry.
-/
import Derived.Test.YtofdolgiondolaaGreatDoorRows
import GoSem.ClaimSeven
namespace Go.Proofs.YtofdolgiondolaaGreatDoor
namespace Rows

/-- THE TIED CARD OF 'laws.FnDischarge'. -/
def fnDischargeCard : Claim7 := { stood := { row := fnDischargeRow, standIns := [], harness := (true, "763aaae08ac8bc9b5d399f93fab2aeed8f66484945f133210826f2369c4babfa"), looks := false }, kinds := [], alts := [], laidByText := true, laidKinds := [.data], laidTests := true, laidLooks := .later }
def FnDischargeCardSaid : Prop := Claim7.holds Tryz.pinned (.plain (OpenSpec.ofChange fnDischargeSpec)) fnDischargeCard

/-- THE SECOND FORM's CARD OF 'laws.FnDischarge'. -/
def fnDischargeUptoCard : Claim7 := { stood := { row := fnDischargeUptoRow, standIns := [], harness := (true, "763aaae08ac8bc9b5d399f93fab2aeed8f66484945f133210826f2369c4babfa"), looks := false }, kinds := [], alts := [], laidByText := true, laidKinds := [.data], laidTests := true, laidLooks := .later }
def FnDischargeUptoCardSaid : Prop := Claim7.holds Tryz.pinned (.plain (OpenSpec.upto fnDischargeSpec)) fnDischargeUptoCard
end Rows
end Go.Proofs.YtofdolgiondolaaGreatDoor
