/-
  DERIVED. GIVEN WITH THE SEED: THE CARDS: each row of YtdkfkiifbagnnaaGreatDoorRows.lean that lists a variable, with what it lists TIED to the program's text (the seventh form; the later family's looks); each row that meets fmt, with fmt's text TOLD by the authors' own Lean function (tested against real Go, not proved from fmt's source: count such statements apart). THE CARD IS WHAT COUNTS. Prove the row's statement (the work); the ties are given (YtdkfkiifbagnnaaGreatDoorTie.lean); close each card by the builder's one call (the guide's Derived/Test/ToyasCard.lean, 'card_holds'). Laid BY PROGRAM, IN A SANDBOX (cutbox-door.mjs). By AI agents, Wed Nov 11 2026. No macro, syntax, notation, axiom, sorry.
-/
import Derived.Test.YtdkfkiifbagnnaaGreatDoorRows
import GoSem.ClaimSeven
namespace Go.Proofs.YtdkfkiifbagnnaaGreatDoor
namespace Rows

/-- THE TIED CARD OF 'laws.FnExactSchemeSequents'. -/
def fnExactSchemeSequentsCard : Claim7 := { stood := { row := fnExactSchemeSequentsRow, standIns := [], harness := (true, "d46be2101d96a10d5d519d8f84fb68394c10c1fd2139e92c09f6b65e994b4c0a"), looks := false }, kinds := [], alts := [], laidByText := true, laidKinds := [.data], laidTests := true, laidLooks := .later }
def FnExactSchemeSequentsCardSaid : Prop := Claim7.holds Tryz.pinned (.plain (OpenSpec.ofChange fnExactSchemeSequentsSpec)) fnExactSchemeSequentsCard

/-- THE TIED CARD OF 'laws.FnDischarge'. -/
def fnDischargeCard : Claim7 := { stood := { row := fnDischargeRow, standIns := [], harness := (true, "d46be2101d96a10d5d519d8f84fb68394c10c1fd2139e92c09f6b65e994b4c0a"), looks := false }, kinds := [], alts := [], laidByText := true, laidKinds := [.data], laidTests := true, laidLooks := .later }
def FnDischargeCardSaid : Prop := Claim7.holds Tryz.pinned (.plain (OpenSpec.ofChange fnDischargeSpec)) fnDischargeCard

/-- THE SECOND FORM's CARD OF 'laws.FnExactSchemeSequents'. -/
def fnExactSchemeSequentsUptoCard : Claim7 := { stood := { row := fnExactSchemeSequentsUptoRow, standIns := [], harness := (true, "d46be2101d96a10d5d519d8f84fb68394c10c1fd2139e92c09f6b65e994b4c0a"), looks := false }, kinds := [], alts := [], laidByText := true, laidKinds := [.data], laidTests := true, laidLooks := .later }
def FnExactSchemeSequentsUptoCardSaid : Prop := Claim7.holds Tryz.pinned (.plain (OpenSpec.upto fnExactSchemeSequentsSpec)) fnExactSchemeSequentsUptoCard

/-- THE SECOND FORM's CARD OF 'laws.FnDischarge'. -/
def fnDischargeUptoCard : Claim7 := { stood := { row := fnDischargeUptoRow, standIns := [], harness := (true, "d46be2101d96a10d5d519d8f84fb68394c10c1fd2139e92c09f6b65e994b4c0a"), looks := false }, kinds := [], alts := [], laidByText := true, laidKinds := [.data], laidTests := true, laidLooks := .later }
def FnDischargeUptoCardSaid : Prop := Claim7.holds Tryz.pinned (.plain (OpenSpec.upto fnDischargeSpec)) fnDischargeUptoCard
end Rows
end Go.Proofs.YtdkfkiifbagnnaaGreatDoor
