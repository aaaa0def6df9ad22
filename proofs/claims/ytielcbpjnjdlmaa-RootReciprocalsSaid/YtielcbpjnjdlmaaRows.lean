/-
  No cell of these rows narrows 'for every input' (looked for: loops, veiled, ifaces, maps, wideKeys, modest, calm, conditions, laid).
  DERIVED. THE GIVEN ROWS OF THIS SEAT. 11 by the template 'for every input the law returns true; each argument reads behind the call as it read before'; 0 by the template 'total and deterministic' (their statements: YtielcbpjnjdlmaaTotals.lean).
  GIVEN WITH THE SEED: the statements are not yours to turn. If you find one false, say at which input.
  Laid BY PROGRAM, IN A SANDBOX (cutbox-rows.mjs): the forced cells as the released guide's own fill.sh prints them over the translation b1ce99a702250ec6… (all of the seat's roots in one cut). By AI agents, Wed Nov 11 2026. No macro, syntax, notation, axiom, sorry.
-/
import Derived.Test.YtielcbpjnjdlmaaChecked
import GoSem.Claim
import GoSem.ClaimJoined
import GoSem.ClaimMapViews
import Derived.JoinedTies
import Derived.KernelRfl
namespace Go.Proofs.Ytielcbpjnjdlmaa
/- THE CELL 'sum', in the pinned program and in every row, IS THE sha256 OF THE DUMP (.gsa) THAT YtielcbpjnjdlmaaProg.lean LOADS. Nothing in Lean hashes anything: it is a label: what it is worth is what the hold of that sum in a sandbox is worth. -/
noncomputable def Try.pinned : Pinned := { name := "ytielcbpjnjdlmaa", sum := "b1ce99a702250ec6e342ae1f5ce8f59cbc0bae8efdcaacf9b3653ce491a5ba95", checked := Try.checked }
namespace Rows
def none {H : Type} : Left H := { results := [], args := [] }

/-- 'ratchetlaw25.SeedDraws': WHATEVER THE INPUT: true; the input reads as it did. -/
def seedDrawsSpec : ChangeSpec := { name := "seedDraws", fn := fun _ => fun
  | [d] => { results := [.lit (.bool true)], args := [d] }
  | _ => none }
def seedDrawsRow : OpenClaim := { program := "ytielcbpjnjdlmaa", sum := "b1ce99a702250ec6e342ae1f5ce8f59cbc0bae8efdcaacf9b3653ce491a5ba95", func := "ratchet/ratchetlaw25.SeedDraws", spec := "seedDraws", unfollowed := true, recurses := true, apart := false }
def SeedDrawsSaid : Prop := seedDrawsRow.holds Try.pinned (OpenSpec.ofChange seedDrawsSpec)

/-- ITS FALSE NEIGHBOUR: 'it returns false'. Refute it at one input. -/
def seedDrawsWrong : ChangeSpec := { name := "seedDraws", fn := fun _ => fun
  | [d] => { results := [.lit (.bool false)], args := [d] }
  | _ => none }
def SeedDrawsWrongFalsely : Prop := seedDrawsRow.holds Try.pinned (OpenSpec.ofChange seedDrawsWrong)

/-- 'ratchetlaw26.DefParses': WHATEVER THE INPUT: true; the input reads as it did. -/
def defParsesSpec : ChangeSpec := { name := "defParses", fn := fun _ => fun
  | [d] => { results := [.lit (.bool true)], args := [d] }
  | _ => none }
def defParsesRow : OpenClaim := { program := "ytielcbpjnjdlmaa", sum := "b1ce99a702250ec6e342ae1f5ce8f59cbc0bae8efdcaacf9b3653ce491a5ba95", func := "ratchet/ratchetlaw26.DefParses", spec := "defParses", unfollowed := true, recurses := true, apart := false }
def DefParsesSaid : Prop := defParsesRow.holds Try.pinned (OpenSpec.ofChange defParsesSpec)

/-- ITS FALSE NEIGHBOUR: 'it returns false'. Refute it at one input. -/
def defParsesWrong : ChangeSpec := { name := "defParses", fn := fun _ => fun
  | [d] => { results := [.lit (.bool false)], args := [d] }
  | _ => none }
def DefParsesWrongFalsely : Prop := defParsesRow.holds Try.pinned (OpenSpec.ofChange defParsesWrong)

/-- 'ratchetlaw2.FxLaws': WHATEVER THE INPUT: true; the input reads as it did. -/
def fxLawsSpec : ChangeSpec := { name := "fxLaws", fn := fun _ => fun
  | [d] => { results := [.lit (.bool true)], args := [d] }
  | _ => none }
def fxLawsRow : OpenClaim := { program := "ytielcbpjnjdlmaa", sum := "b1ce99a702250ec6e342ae1f5ce8f59cbc0bae8efdcaacf9b3653ce491a5ba95", func := "ratchet/ratchetlaw2.FxLaws", spec := "fxLaws", inPlace := ["math/bits.Add64", "math/bits.Sub64"], unfollowed := true, recurses := true, named := ["math/bits.divideError", "math/bits.overflowError"], apart := false }
def FxLawsSaid : Prop := fxLawsRow.holds Try.pinned (OpenSpec.ofChange fxLawsSpec)

/-- ITS FALSE NEIGHBOUR: 'it returns false'. Refute it at one input. -/
def fxLawsWrong : ChangeSpec := { name := "fxLaws", fn := fun _ => fun
  | [d] => { results := [.lit (.bool false)], args := [d] }
  | _ => none }
def FxLawsWrongFalsely : Prop := fxLawsRow.holds Try.pinned (OpenSpec.ofChange fxLawsWrong)

/-- 'ratchetlaw2.FxSums': WHATEVER THE INPUT: true; the input reads as it did. -/
def fxSumsSpec : ChangeSpec := { name := "fxSums", fn := fun _ => fun
  | [d] => { results := [.lit (.bool true)], args := [d] }
  | _ => none }
def fxSumsRow : OpenClaim := { program := "ytielcbpjnjdlmaa", sum := "b1ce99a702250ec6e342ae1f5ce8f59cbc0bae8efdcaacf9b3653ce491a5ba95", func := "ratchet/ratchetlaw2.FxSums", spec := "fxSums", inPlace := ["math/bits.Add64", "math/bits.Sub64"], unfollowed := true, recurses := true, named := ["math/bits.divideError", "math/bits.overflowError"], apart := false }
def FxSumsSaid : Prop := fxSumsRow.holds Try.pinned (OpenSpec.ofChange fxSumsSpec)

/-- ITS FALSE NEIGHBOUR: 'it returns false'. Refute it at one input. -/
def fxSumsWrong : ChangeSpec := { name := "fxSums", fn := fun _ => fun
  | [d] => { results := [.lit (.bool false)], args := [d] }
  | _ => none }
def FxSumsWrongFalsely : Prop := fxSumsRow.holds Try.pinned (OpenSpec.ofChange fxSumsWrong)

/-- 'ratchetlaw2.FxCloses': WHATEVER THE INPUT: true; the input reads as it did. -/
def fxClosesSpec : ChangeSpec := { name := "fxCloses", fn := fun _ => fun
  | [d] => { results := [.lit (.bool true)], args := [d] }
  | _ => none }
def fxClosesRow : OpenClaim := { program := "ytielcbpjnjdlmaa", sum := "b1ce99a702250ec6e342ae1f5ce8f59cbc0bae8efdcaacf9b3653ce491a5ba95", func := "ratchet/ratchetlaw2.FxCloses", spec := "fxCloses", inPlace := ["math/bits.Add64", "math/bits.Sub64"], unfollowed := true, recurses := true, named := ["math/bits.divideError", "math/bits.overflowError"], apart := false }
def FxClosesSaid : Prop := fxClosesRow.holds Try.pinned (OpenSpec.ofChange fxClosesSpec)

/-- ITS FALSE NEIGHBOUR: 'it returns false'. Refute it at one input. -/
def fxClosesWrong : ChangeSpec := { name := "fxCloses", fn := fun _ => fun
  | [d] => { results := [.lit (.bool false)], args := [d] }
  | _ => none }
def FxClosesWrongFalsely : Prop := fxClosesRow.holds Try.pinned (OpenSpec.ofChange fxClosesWrong)

/-- 'ratchetlaw2.FxExact': WHATEVER THE INPUT: true; the input reads as it did. -/
def fxExactSpec : ChangeSpec := { name := "fxExact", fn := fun _ => fun
  | [d] => { results := [.lit (.bool true)], args := [d] }
  | _ => none }
def fxExactRow : OpenClaim := { program := "ytielcbpjnjdlmaa", sum := "b1ce99a702250ec6e342ae1f5ce8f59cbc0bae8efdcaacf9b3653ce491a5ba95", func := "ratchet/ratchetlaw2.FxExact", spec := "fxExact", inPlace := ["math/bits.Add64", "math/bits.Sub64"], unfollowed := true, recurses := true, named := ["math/bits.divideError", "math/bits.overflowError"], apart := false }
def FxExactSaid : Prop := fxExactRow.holds Try.pinned (OpenSpec.ofChange fxExactSpec)

/-- ITS FALSE NEIGHBOUR: 'it returns false'. Refute it at one input. -/
def fxExactWrong : ChangeSpec := { name := "fxExact", fn := fun _ => fun
  | [d] => { results := [.lit (.bool false)], args := [d] }
  | _ => none }
def FxExactWrongFalsely : Prop := fxExactRow.holds Try.pinned (OpenSpec.ofChange fxExactWrong)

/-- 'ratchetlaw2.FxOrder': WHATEVER THE INPUT: true; the input reads as it did. -/
def fxOrderSpec : ChangeSpec := { name := "fxOrder", fn := fun _ => fun
  | [d] => { results := [.lit (.bool true)], args := [d] }
  | _ => none }
def fxOrderRow : OpenClaim := { program := "ytielcbpjnjdlmaa", sum := "b1ce99a702250ec6e342ae1f5ce8f59cbc0bae8efdcaacf9b3653ce491a5ba95", func := "ratchet/ratchetlaw2.FxOrder", spec := "fxOrder", inPlace := ["math/bits.Add64", "math/bits.Sub64"], unfollowed := true, recurses := true, named := ["math/bits.divideError", "math/bits.overflowError"], apart := false }
def FxOrderSaid : Prop := fxOrderRow.holds Try.pinned (OpenSpec.ofChange fxOrderSpec)

/-- ITS FALSE NEIGHBOUR: 'it returns false'. Refute it at one input. -/
def fxOrderWrong : ChangeSpec := { name := "fxOrder", fn := fun _ => fun
  | [d] => { results := [.lit (.bool false)], args := [d] }
  | _ => none }
def FxOrderWrongFalsely : Prop := fxOrderRow.holds Try.pinned (OpenSpec.ofChange fxOrderWrong)

/-- 'ratchetlaw3.RootPowers': WHATEVER THE INPUT: true; the input reads as it did. -/
def rootPowersSpec : ChangeSpec := { name := "rootPowers", fn := fun _ => fun
  | [d] => { results := [.lit (.bool true)], args := [d] }
  | _ => none }
def rootPowersRow : OpenClaim := { program := "ytielcbpjnjdlmaa", sum := "b1ce99a702250ec6e342ae1f5ce8f59cbc0bae8efdcaacf9b3653ce491a5ba95", func := "ratchet/ratchetlaw3.RootPowers", spec := "rootPowers", inPlace := ["math/bits.Add64", "math/bits.Sub64"], unfollowed := true, recurses := true, named := ["math/bits.divideError", "math/bits.overflowError"], apart := false }
def RootPowersSaid : Prop := rootPowersRow.holds Try.pinned (OpenSpec.ofChange rootPowersSpec)

/-- ITS FALSE NEIGHBOUR: 'it returns false'. Refute it at one input. -/
def rootPowersWrong : ChangeSpec := { name := "rootPowers", fn := fun _ => fun
  | [d] => { results := [.lit (.bool false)], args := [d] }
  | _ => none }
def RootPowersWrongFalsely : Prop := rootPowersRow.holds Try.pinned (OpenSpec.ofChange rootPowersWrong)

/-- 'ratchetlaw3.RootReciprocals': WHATEVER THE INPUT: true; the input reads as it did. -/
def rootReciprocalsSpec : ChangeSpec := { name := "rootReciprocals", fn := fun _ => fun
  | [d] => { results := [.lit (.bool true)], args := [d] }
  | _ => none }
def rootReciprocalsRow : OpenClaim := { program := "ytielcbpjnjdlmaa", sum := "b1ce99a702250ec6e342ae1f5ce8f59cbc0bae8efdcaacf9b3653ce491a5ba95", func := "ratchet/ratchetlaw3.RootReciprocals", spec := "rootReciprocals", inPlace := ["math/bits.Add64", "math/bits.Sub64"], unfollowed := true, recurses := true, named := ["math/bits.divideError", "math/bits.overflowError"], apart := false }
def RootReciprocalsSaid : Prop := rootReciprocalsRow.holds Try.pinned (OpenSpec.ofChange rootReciprocalsSpec)

/-- ITS FALSE NEIGHBOUR: 'it returns false'. Refute it at one input. -/
def rootReciprocalsWrong : ChangeSpec := { name := "rootReciprocals", fn := fun _ => fun
  | [d] => { results := [.lit (.bool false)], args := [d] }
  | _ => none }
def RootReciprocalsWrongFalsely : Prop := rootReciprocalsRow.holds Try.pinned (OpenSpec.ofChange rootReciprocalsWrong)

/-- 'ratchetlaw3.RootExact': WHATEVER THE INPUT: true; the input reads as it did. -/
def rootExactSpec : ChangeSpec := { name := "rootExact", fn := fun _ => fun
  | [d] => { results := [.lit (.bool true)], args := [d] }
  | _ => none }
def rootExactRow : OpenClaim := { program := "ytielcbpjnjdlmaa", sum := "b1ce99a702250ec6e342ae1f5ce8f59cbc0bae8efdcaacf9b3653ce491a5ba95", func := "ratchet/ratchetlaw3.RootExact", spec := "rootExact", inPlace := ["math/bits.Add64", "math/bits.Sub64"], unfollowed := true, recurses := true, named := ["math/bits.divideError", "math/bits.overflowError"], apart := false }
def RootExactSaid : Prop := rootExactRow.holds Try.pinned (OpenSpec.ofChange rootExactSpec)

/-- ITS FALSE NEIGHBOUR: 'it returns false'. Refute it at one input. -/
def rootExactWrong : ChangeSpec := { name := "rootExact", fn := fun _ => fun
  | [d] => { results := [.lit (.bool false)], args := [d] }
  | _ => none }
def RootExactWrongFalsely : Prop := rootExactRow.holds Try.pinned (OpenSpec.ofChange rootExactWrong)

/-- 'ratchetlaw3.RootSquares': WHATEVER THE INPUT: true; the input reads as it did. -/
def rootSquaresSpec : ChangeSpec := { name := "rootSquares", fn := fun _ => fun
  | [d] => { results := [.lit (.bool true)], args := [d] }
  | _ => none }
def rootSquaresRow : OpenClaim := { program := "ytielcbpjnjdlmaa", sum := "b1ce99a702250ec6e342ae1f5ce8f59cbc0bae8efdcaacf9b3653ce491a5ba95", func := "ratchet/ratchetlaw3.RootSquares", spec := "rootSquares", inPlace := ["math/bits.Add64", "math/bits.Sub64"], unfollowed := true, recurses := true, named := ["math/bits.divideError", "math/bits.overflowError"], apart := false }
def RootSquaresSaid : Prop := rootSquaresRow.holds Try.pinned (OpenSpec.ofChange rootSquaresSpec)

/-- ITS FALSE NEIGHBOUR: 'it returns false'. Refute it at one input. -/
def rootSquaresWrong : ChangeSpec := { name := "rootSquares", fn := fun _ => fun
  | [d] => { results := [.lit (.bool false)], args := [d] }
  | _ => none }
def RootSquaresWrongFalsely : Prop := rootSquaresRow.holds Try.pinned (OpenSpec.ofChange rootSquaresWrong)

/- THE SECOND FORM. 'bulk': how many values and letters a reading holds, each counted each time it is reached (what is shared counts as often as it is met; a slice's spare places count too). A statement '..UptoSaid' is the law's where the arguments, and the package variables that the reading takes, are together of bulk at most 1048576: NARROWER than '..Said'. Prove '..Said' where nothing that the law and all that it calls make is longer than what came in: it says more and counts as full. Else prove '..UptoSaid'. A law counts once. -/
mutual
def uptoBulk {H : Type} : DataW H → Nat
  | .lit (.string bytes) => bytes.length + 1
  | .lit _ => 1
  | .nil => 1
  | .ptr d => uptoBulk d + 1
  | .slice elems spare => uptoBulkAll elems + uptoBulkAll spare + 1
  | .agg parts => uptoBulkAll parts + 1
  | .iface _ d => uptoBulk d + 1
  | .map entries => uptoBulkEntries entries + 1
  | .held _ => 1
def uptoBulkAll {H : Type} : List (DataW H) → Nat
  | [] => 0
  | d :: r => uptoBulk d + uptoBulkAll r
def uptoBulkEntries {H : Type} : List (Lit × DataW H) → Nat
  | [] => 0
  | x :: r => uptoBulkEntry x + uptoBulkEntries r
def uptoBulkEntry {H : Type} : Lit × DataW H → Nat
  | (.string bytes, d) => bytes.length + uptoBulk d + 1
  | (_, d) => uptoBulk d + 1
 end
def uptoSmall : (H : Type) → List (DataW H) → Bool := fun _ ds => decide (uptoBulkAll ds ≤ 1048576)
def OpenSpec.upto (s : _root_.Go.ChangeSpec) : _root_.Go.OpenSpec := { _root_.Go.OpenSpec.ofChange s with cond := some uptoSmall }

/-- 'ratchetlaw25.SeedDraws', WHERE WHAT IT READS IS OF BULK AT MOST 1048576: true; the input reads as it did. -/
def seedDrawsUptoRow : OpenClaim := { program := "ytielcbpjnjdlmaa", sum := "b1ce99a702250ec6e342ae1f5ce8f59cbc0bae8efdcaacf9b3653ce491a5ba95", func := "ratchet/ratchetlaw25.SeedDraws", spec := "seedDraws", unfollowed := true, recurses := true, apart := false, narrowed := true }
def SeedDrawsUptoSaid : Prop := seedDrawsUptoRow.holds Try.pinned (OpenSpec.upto seedDrawsSpec)

/-- 'ratchetlaw26.DefParses', WHERE WHAT IT READS IS OF BULK AT MOST 1048576: true; the input reads as it did. -/
def defParsesUptoRow : OpenClaim := { program := "ytielcbpjnjdlmaa", sum := "b1ce99a702250ec6e342ae1f5ce8f59cbc0bae8efdcaacf9b3653ce491a5ba95", func := "ratchet/ratchetlaw26.DefParses", spec := "defParses", unfollowed := true, recurses := true, apart := false, narrowed := true }
def DefParsesUptoSaid : Prop := defParsesUptoRow.holds Try.pinned (OpenSpec.upto defParsesSpec)

/-- 'ratchetlaw2.FxLaws', WHERE WHAT IT READS IS OF BULK AT MOST 1048576: true; the input reads as it did. -/
def fxLawsUptoRow : OpenClaim := { program := "ytielcbpjnjdlmaa", sum := "b1ce99a702250ec6e342ae1f5ce8f59cbc0bae8efdcaacf9b3653ce491a5ba95", func := "ratchet/ratchetlaw2.FxLaws", spec := "fxLaws", inPlace := ["math/bits.Add64", "math/bits.Sub64"], unfollowed := true, recurses := true, named := ["math/bits.divideError", "math/bits.overflowError"], apart := false, narrowed := true }
def FxLawsUptoSaid : Prop := fxLawsUptoRow.holds Try.pinned (OpenSpec.upto fxLawsSpec)

/-- 'ratchetlaw2.FxSums', WHERE WHAT IT READS IS OF BULK AT MOST 1048576: true; the input reads as it did. -/
def fxSumsUptoRow : OpenClaim := { program := "ytielcbpjnjdlmaa", sum := "b1ce99a702250ec6e342ae1f5ce8f59cbc0bae8efdcaacf9b3653ce491a5ba95", func := "ratchet/ratchetlaw2.FxSums", spec := "fxSums", inPlace := ["math/bits.Add64", "math/bits.Sub64"], unfollowed := true, recurses := true, named := ["math/bits.divideError", "math/bits.overflowError"], apart := false, narrowed := true }
def FxSumsUptoSaid : Prop := fxSumsUptoRow.holds Try.pinned (OpenSpec.upto fxSumsSpec)

/-- 'ratchetlaw2.FxCloses', WHERE WHAT IT READS IS OF BULK AT MOST 1048576: true; the input reads as it did. -/
def fxClosesUptoRow : OpenClaim := { program := "ytielcbpjnjdlmaa", sum := "b1ce99a702250ec6e342ae1f5ce8f59cbc0bae8efdcaacf9b3653ce491a5ba95", func := "ratchet/ratchetlaw2.FxCloses", spec := "fxCloses", inPlace := ["math/bits.Add64", "math/bits.Sub64"], unfollowed := true, recurses := true, named := ["math/bits.divideError", "math/bits.overflowError"], apart := false, narrowed := true }
def FxClosesUptoSaid : Prop := fxClosesUptoRow.holds Try.pinned (OpenSpec.upto fxClosesSpec)

/-- 'ratchetlaw2.FxExact', WHERE WHAT IT READS IS OF BULK AT MOST 1048576: true; the input reads as it did. -/
def fxExactUptoRow : OpenClaim := { program := "ytielcbpjnjdlmaa", sum := "b1ce99a702250ec6e342ae1f5ce8f59cbc0bae8efdcaacf9b3653ce491a5ba95", func := "ratchet/ratchetlaw2.FxExact", spec := "fxExact", inPlace := ["math/bits.Add64", "math/bits.Sub64"], unfollowed := true, recurses := true, named := ["math/bits.divideError", "math/bits.overflowError"], apart := false, narrowed := true }
def FxExactUptoSaid : Prop := fxExactUptoRow.holds Try.pinned (OpenSpec.upto fxExactSpec)

/-- 'ratchetlaw2.FxOrder', WHERE WHAT IT READS IS OF BULK AT MOST 1048576: true; the input reads as it did. -/
def fxOrderUptoRow : OpenClaim := { program := "ytielcbpjnjdlmaa", sum := "b1ce99a702250ec6e342ae1f5ce8f59cbc0bae8efdcaacf9b3653ce491a5ba95", func := "ratchet/ratchetlaw2.FxOrder", spec := "fxOrder", inPlace := ["math/bits.Add64", "math/bits.Sub64"], unfollowed := true, recurses := true, named := ["math/bits.divideError", "math/bits.overflowError"], apart := false, narrowed := true }
def FxOrderUptoSaid : Prop := fxOrderUptoRow.holds Try.pinned (OpenSpec.upto fxOrderSpec)

/-- 'ratchetlaw3.RootPowers', WHERE WHAT IT READS IS OF BULK AT MOST 1048576: true; the input reads as it did. -/
def rootPowersUptoRow : OpenClaim := { program := "ytielcbpjnjdlmaa", sum := "b1ce99a702250ec6e342ae1f5ce8f59cbc0bae8efdcaacf9b3653ce491a5ba95", func := "ratchet/ratchetlaw3.RootPowers", spec := "rootPowers", inPlace := ["math/bits.Add64", "math/bits.Sub64"], unfollowed := true, recurses := true, named := ["math/bits.divideError", "math/bits.overflowError"], apart := false, narrowed := true }
def RootPowersUptoSaid : Prop := rootPowersUptoRow.holds Try.pinned (OpenSpec.upto rootPowersSpec)

/-- 'ratchetlaw3.RootReciprocals', WHERE WHAT IT READS IS OF BULK AT MOST 1048576: true; the input reads as it did. -/
def rootReciprocalsUptoRow : OpenClaim := { program := "ytielcbpjnjdlmaa", sum := "b1ce99a702250ec6e342ae1f5ce8f59cbc0bae8efdcaacf9b3653ce491a5ba95", func := "ratchet/ratchetlaw3.RootReciprocals", spec := "rootReciprocals", inPlace := ["math/bits.Add64", "math/bits.Sub64"], unfollowed := true, recurses := true, named := ["math/bits.divideError", "math/bits.overflowError"], apart := false, narrowed := true }
def RootReciprocalsUptoSaid : Prop := rootReciprocalsUptoRow.holds Try.pinned (OpenSpec.upto rootReciprocalsSpec)

/-- 'ratchetlaw3.RootExact', WHERE WHAT IT READS IS OF BULK AT MOST 1048576: true; the input reads as it did. -/
def rootExactUptoRow : OpenClaim := { program := "ytielcbpjnjdlmaa", sum := "b1ce99a702250ec6e342ae1f5ce8f59cbc0bae8efdcaacf9b3653ce491a5ba95", func := "ratchet/ratchetlaw3.RootExact", spec := "rootExact", inPlace := ["math/bits.Add64", "math/bits.Sub64"], unfollowed := true, recurses := true, named := ["math/bits.divideError", "math/bits.overflowError"], apart := false, narrowed := true }
def RootExactUptoSaid : Prop := rootExactUptoRow.holds Try.pinned (OpenSpec.upto rootExactSpec)

/-- 'ratchetlaw3.RootSquares', WHERE WHAT IT READS IS OF BULK AT MOST 1048576: true; the input reads as it did. -/
def rootSquaresUptoRow : OpenClaim := { program := "ytielcbpjnjdlmaa", sum := "b1ce99a702250ec6e342ae1f5ce8f59cbc0bae8efdcaacf9b3653ce491a5ba95", func := "ratchet/ratchetlaw3.RootSquares", spec := "rootSquares", inPlace := ["math/bits.Add64", "math/bits.Sub64"], unfollowed := true, recurses := true, named := ["math/bits.divideError", "math/bits.overflowError"], apart := false, narrowed := true }
def RootSquaresUptoSaid : Prop := rootSquaresUptoRow.holds Try.pinned (OpenSpec.upto rootSquaresSpec)

end Rows
end Go.Proofs.Ytielcbpjnjdlmaa
