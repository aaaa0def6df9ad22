/-
  DERIVED. GIVEN WITH THE SEED: THE CARDS: each row of YtfimmcnfmipnlaaDoorRows.lean that lists a variable, with what it lists TIED to the program's text (the seventh form; the later family's looks); each row that meets fmt, with fmt's text TOLD by the authors' own Lean function (tested against real Go, not proved from fmt's source: count such statements apart). THE CARD IS WHAT COUNTS. Prove the row's statement (the work); the ties are given (YtfimmcnfmipnlaaDoorTie.lean); close each card by the builder's one call (the guide's Derived/Test/ToyasCard.lean, 'card_holds'). Laid BY PROGRAM, IN A SANDBOX (cutbox-door.mjs). By AI agents, Wed Nov 11 2026. No macro, syntax, notation, axiom, sorry.
-/
import Derived.Test.YtfimmcnfmipnlaaDoorRows
import GoSem.ClaimSeven
namespace Go.Proofs.YtfimmcnfmipnlaaDoor
namespace Rows

/-- THE TIED CARD OF 'ratchetlaw26.DefJoins'. -/
def defJoinsCard : Claim7 := { stood := { row := defJoinsRow, standIns := [], harness := (true, "f98882d3fad1816def32ea5fcbfa2e4247b8c9330d18f8a1ad99d07b22e3965d"), looks := false }, kinds := [], alts := [], laidByText := true, laidKinds := [.data, .data, .data], laidTests := true, laidLooks := .later }
def DefJoinsCardSaid : Prop := Claim7.holds Tryd.pinned (.plain (OpenSpec.ofChange defJoinsSpec)) defJoinsCard

/-- THE TIED CARD OF 'ratchetlaw26.DefPrints'. -/
def defPrintsCard : Claim7 := { stood := { row := defPrintsRow, standIns := [], harness := (true, "f98882d3fad1816def32ea5fcbfa2e4247b8c9330d18f8a1ad99d07b22e3965d"), looks := false }, kinds := [], alts := [], laidByText := true, laidKinds := [.data, .data, .data], laidTests := true, laidLooks := .later }
def DefPrintsCardSaid : Prop := Claim7.holds Tryd.pinned (.plain (OpenSpec.ofChange defPrintsSpec)) defPrintsCard

/-- THE SECOND FORM's CARD OF 'ratchetlaw26.DefJoins'. -/
def defJoinsUptoCard : Claim7 := { stood := { row := defJoinsUptoRow, standIns := [], harness := (true, "f98882d3fad1816def32ea5fcbfa2e4247b8c9330d18f8a1ad99d07b22e3965d"), looks := false }, kinds := [], alts := [], laidByText := true, laidKinds := [.data, .data, .data], laidTests := true, laidLooks := .later }
def DefJoinsUptoCardSaid : Prop := Claim7.holds Tryd.pinned (.plain (OpenSpec.upto defJoinsSpec)) defJoinsUptoCard

/-- THE SECOND FORM's CARD OF 'ratchetlaw26.DefPrints'. -/
def defPrintsUptoCard : Claim7 := { stood := { row := defPrintsUptoRow, standIns := [], harness := (true, "f98882d3fad1816def32ea5fcbfa2e4247b8c9330d18f8a1ad99d07b22e3965d"), looks := false }, kinds := [], alts := [], laidByText := true, laidKinds := [.data, .data, .data], laidTests := true, laidLooks := .later }
def DefPrintsUptoCardSaid : Prop := Claim7.holds Tryd.pinned (.plain (OpenSpec.upto defPrintsSpec)) defPrintsUptoCard
end Rows
end Go.Proofs.YtfimmcnfmipnlaaDoor
