/-
  DERIVED. GIVEN WITH THE SEED: THE CARDS: each row of YtkdfenkpfffcaaaDoorRows.lean that lists a variable, with what it lists TIED to the program's text (the seventh form; the later family's looks); each row that meets fmt, with fmt's text TOLD by the authors' own Lean function (tested against real Go, not proved from fmt's source: count such statements apart). THE CARD IS WHAT COUNTS. Prove the row's statement (the work); the ties are given (YtkdfenkpfffcaaaDoorTie.lean); close each card by the builder's one call (the guide's Derived/Test/ToyasCard.lean, 'card_holds'). Laid BY PROGRAM, IN A SANDBOX (cutbox-door.mjs). By AI agents, Wed Nov 11 2026. No macro, syntax, notation, axiom, sorry.
-/
import Derived.Test.YtkdfenkpfffcaaaDoorRows
import GoSem.ClaimSeven
namespace Go.Proofs.YtkdfenkpfffcaaaDoor
namespace Rows

/-- THE TIED CARD OF 'ratchetlaw26.DefJoins'. -/
def defJoinsCard : Claim7 := { stood := { row := defJoinsRow, standIns := [], harness := (true, "688745fdf566a726fba3362992cd180106e74facf3e8dc97ef3dea45bc6ac0e8"), looks := false }, kinds := [], alts := [], laidByText := true, laidKinds := [.data, .data, .data], laidTests := true, laidLooks := .later }
def DefJoinsCardSaid : Prop := Claim7.holds Tryd.pinned (.plain (OpenSpec.ofChange defJoinsSpec)) defJoinsCard

/-- THE TIED CARD OF 'ratchetlaw26.DefBack'. -/
def defBackCard : Claim7 := { stood := { row := defBackRow, standIns := [], harness := (true, "688745fdf566a726fba3362992cd180106e74facf3e8dc97ef3dea45bc6ac0e8"), looks := false }, kinds := [], alts := [], laidByText := true, laidKinds := [.data, .data, .data], laidTests := true, laidLooks := .later }
def DefBackCardSaid : Prop := Claim7.holds Tryd.pinned (.plain (OpenSpec.ofChange defBackSpec)) defBackCard

/-- THE TIED CARD OF 'ratchetlaw26.DefTexts'. -/
def defTextsCard : Claim7 := { stood := { row := defTextsRow, standIns := [], harness := (true, "688745fdf566a726fba3362992cd180106e74facf3e8dc97ef3dea45bc6ac0e8"), looks := false }, kinds := [], alts := [], laidByText := true, laidKinds := [.data, .data, .data], laidTests := true, laidLooks := .later }
def DefTextsCardSaid : Prop := Claim7.holds Tryd.pinned (.plain (OpenSpec.ofChange defTextsSpec)) defTextsCard

/-- THE TIED CARD OF 'ratchetlaw26.DefPrints'. -/
def defPrintsCard : Claim7 := { stood := { row := defPrintsRow, standIns := [], harness := (true, "688745fdf566a726fba3362992cd180106e74facf3e8dc97ef3dea45bc6ac0e8"), looks := false }, kinds := [], alts := [], laidByText := true, laidKinds := [.data, .data, .data], laidTests := true, laidLooks := .later }
def DefPrintsCardSaid : Prop := Claim7.holds Tryd.pinned (.plain (OpenSpec.ofChange defPrintsSpec)) defPrintsCard

/-- THE SECOND FORM's CARD OF 'ratchetlaw26.DefJoins'. -/
def defJoinsUptoCard : Claim7 := { stood := { row := defJoinsUptoRow, standIns := [], harness := (true, "688745fdf566a726fba3362992cd180106e74facf3e8dc97ef3dea45bc6ac0e8"), looks := false }, kinds := [], alts := [], laidByText := true, laidKinds := [.data, .data, .data], laidTests := true, laidLooks := .later }
def DefJoinsUptoCardSaid : Prop := Claim7.holds Tryd.pinned (.plain (OpenSpec.upto defJoinsSpec)) defJoinsUptoCard

/-- THE SECOND FORM's CARD OF 'ratchetlaw26.DefBack'. -/
def defBackUptoCard : Claim7 := { stood := { row := defBackUptoRow, standIns := [], harness := (true, "688745fdf566a726fba3362992cd180106e74facf3e8dc97ef3dea45bc6ac0e8"), looks := false }, kinds := [], alts := [], laidByText := true, laidKinds := [.data, .data, .data], laidTests := true, laidLooks := .later }
def DefBackUptoCardSaid : Prop := Claim7.holds Tryd.pinned (.plain (OpenSpec.upto defBackSpec)) defBackUptoCard

/-- THE SECOND FORM's CARD OF 'ratchetlaw26.DefTexts'. -/
def defTextsUptoCard : Claim7 := { stood := { row := defTextsUptoRow, standIns := [], harness := (true, "688745fdf566a726fba3362992cd180106e74facf3e8dc97ef3dea45bc6ac0e8"), looks := false }, kinds := [], alts := [], laidByText := true, laidKinds := [.data, .data, .data], laidTests := true, laidLooks := .later }
def DefTextsUptoCardSaid : Prop := Claim7.holds Tryd.pinned (.plain (OpenSpec.upto defTextsSpec)) defTextsUptoCard

/-- THE SECOND FORM's CARD OF 'ratchetlaw26.DefPrints'. -/
def defPrintsUptoCard : Claim7 := { stood := { row := defPrintsUptoRow, standIns := [], harness := (true, "688745fdf566a726fba3362992cd180106e74facf3e8dc97ef3dea45bc6ac0e8"), looks := false }, kinds := [], alts := [], laidByText := true, laidKinds := [.data, .data, .data], laidTests := true, laidLooks := .later }
def DefPrintsUptoCardSaid : Prop := Claim7.holds Tryd.pinned (.plain (OpenSpec.upto defPrintsSpec)) defPrintsUptoCard
end Rows
end Go.Proofs.YtkdfenkpfffcaaaDoor
