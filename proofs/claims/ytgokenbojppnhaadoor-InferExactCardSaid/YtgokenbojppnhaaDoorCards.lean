/-
  DERIVED. GIVEN WITH THE SEED: THE CARDS: each row of YtgokenbojppnhaaDoorRows.lean that lists a variable, with what it lists TIED to the program's text (the seventh form; the later family's looks); each row that meets fmt, with fmt's text TOLD by the authors' own Lean function (tested against real Go, not proved from fmt's source: count such statements apart). THE CARD IS WHAT COUNTS. Prove the row's statement (the work); the ties are given (YtgokenbojppnhaaDoorTie.lean); close each card by the builder's one call (the guide's Derived/Test/ToyasCard.lean, 'card_holds'). Laid BY PROGRAM, IN A SANDBOX (cutbox-door.mjs). By AI agents, Wed Nov 11 2026. No macro, syntax, notation, axiom, sorry.
-/
import Derived.Test.YtgokenbojppnhaaDoorRows
import GoSem.ClaimSeven
namespace Go.Proofs.YtgokenbojppnhaaDoor
namespace Rows

/-- THE TIED CARD OF 'ratchetlaw27.InferExact'. -/
def inferExactCard : Claim7 := { stood := { row := inferExactRow, standIns := [], harness := (true, "1f43cb955480ed578bb69703d82b769d8234f8718cf8546294ce46272eeed57d"), looks := false }, kinds := [], alts := [], laidByText := true, laidKinds := [.data, .data, .data], laidTests := true, laidLooks := .later }
def InferExactCardSaid : Prop := Claim7.holds Tryd.pinned (.plain (OpenSpec.ofChange inferExactSpec)) inferExactCard

/-- THE TIED CARD OF 'ratchetlaw27.InferJoins'. -/
def inferJoinsCard : Claim7 := { stood := { row := inferJoinsRow, standIns := [], harness := (true, "1f43cb955480ed578bb69703d82b769d8234f8718cf8546294ce46272eeed57d"), looks := false }, kinds := [], alts := [], laidByText := true, laidKinds := [.data, .data, .data], laidTests := true, laidLooks := .later }
def InferJoinsCardSaid : Prop := Claim7.holds Tryd.pinned (.plain (OpenSpec.ofChange inferJoinsSpec)) inferJoinsCard

/-- THE TIED CARD OF 'ratchetlaw27.InferResiduals'. -/
def inferResidualsCard : Claim7 := { stood := { row := inferResidualsRow, standIns := [], harness := (true, "1f43cb955480ed578bb69703d82b769d8234f8718cf8546294ce46272eeed57d"), looks := false }, kinds := [], alts := [], laidByText := true, laidKinds := [.data, .data, .data], laidTests := true, laidLooks := .later }
def InferResidualsCardSaid : Prop := Claim7.holds Tryd.pinned (.plain (OpenSpec.ofChange inferResidualsSpec)) inferResidualsCard

/-- THE SECOND FORM's CARD OF 'ratchetlaw27.InferExact'. -/
def inferExactUptoCard : Claim7 := { stood := { row := inferExactUptoRow, standIns := [], harness := (true, "1f43cb955480ed578bb69703d82b769d8234f8718cf8546294ce46272eeed57d"), looks := false }, kinds := [], alts := [], laidByText := true, laidKinds := [.data, .data, .data], laidTests := true, laidLooks := .later }
def InferExactUptoCardSaid : Prop := Claim7.holds Tryd.pinned (.plain (OpenSpec.upto inferExactSpec)) inferExactUptoCard

/-- THE SECOND FORM's CARD OF 'ratchetlaw27.InferJoins'. -/
def inferJoinsUptoCard : Claim7 := { stood := { row := inferJoinsUptoRow, standIns := [], harness := (true, "1f43cb955480ed578bb69703d82b769d8234f8718cf8546294ce46272eeed57d"), looks := false }, kinds := [], alts := [], laidByText := true, laidKinds := [.data, .data, .data], laidTests := true, laidLooks := .later }
def InferJoinsUptoCardSaid : Prop := Claim7.holds Tryd.pinned (.plain (OpenSpec.upto inferJoinsSpec)) inferJoinsUptoCard

/-- THE SECOND FORM's CARD OF 'ratchetlaw27.InferResiduals'. -/
def inferResidualsUptoCard : Claim7 := { stood := { row := inferResidualsUptoRow, standIns := [], harness := (true, "1f43cb955480ed578bb69703d82b769d8234f8718cf8546294ce46272eeed57d"), looks := false }, kinds := [], alts := [], laidByText := true, laidKinds := [.data, .data, .data], laidTests := true, laidLooks := .later }
def InferResidualsUptoCardSaid : Prop := Claim7.holds Tryd.pinned (.plain (OpenSpec.upto inferResidualsSpec)) inferResidualsUptoCard
end Rows
end Go.Proofs.YtgokenbojppnhaaDoor
