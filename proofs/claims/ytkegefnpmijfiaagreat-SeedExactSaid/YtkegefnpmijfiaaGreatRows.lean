/-
  No cell of these rows narrows 'for every input' (looked for: loops, veiled, ifaces, maps, wideKeys, modest, calm, conditions, laid).
  DERIVED. THE GIVEN ROWS OF THIS SEAT. 10 by the template 'for every input the law returns true; each argument reads behind the call as it read before'; 0 by the template 'total and deterministic' (their statements: YtkegefnpmijfiaaGreatTotals.lean).
  GIVEN WITH THE SEED: the statements are not yours to turn. If you find one false, say at which input.
  Laid BY PROGRAM, IN A SANDBOX (cutbox-rows.mjs): the forced cells as the released guide's own fill.sh prints them over the translation c2ebaed46985256d… (all of the seat's roots in one cut). By AI agents, Wed Nov 11 2026. No macro, syntax, notation, axiom, sorry.
-/
import Derived.Test.YtkegefnpmijfiaaGreatChecked
import GoSem.Claim
import GoSem.ClaimJoined
import GoSem.ClaimMapViews
import Derived.JoinedTies
import Derived.KernelRfl
namespace Go.Proofs.YtkegefnpmijfiaaGreat
/- THE CELL 'sum', in the pinned program and in every row, IS THE sha256 OF THE DUMP (.gsa) THAT YtkegefnpmijfiaaGreatProg.lean LOADS. Nothing in Lean hashes anything: it is a label: what it is worth is what the hold of that sum in a sandbox is worth. -/
noncomputable def Tryz.pinned : Pinned := { name := "ytkegefnpmijfiaagreat", sum := "c2ebaed46985256d3f9ba887cb9935188f968748b9d5a78f4cf2fc45c14482ce", checked := Tryz.checked }
namespace Rows
def none {H : Type} : Left H := { results := [], args := [] }

/-- 'ratchetlaw14.NormExact': WHATEVER THE INPUT: true; the input reads as it did. -/
def normExactSpec : ChangeSpec := { name := "normExact", fn := fun _ => fun
  | [d] => { results := [.lit (.bool true)], args := [d] }
  | _ => none }
def normExactRow : OpenClaim := { program := "ytkegefnpmijfiaagreat", sum := "c2ebaed46985256d3f9ba887cb9935188f968748b9d5a78f4cf2fc45c14482ce", func := "ratchet/ratchetlaw14.NormExact", spec := "normExact", inPlace := ["math/bits.Add64", "math/bits.Sub64"], unfollowed := true, recurses := true, named := ["math/bits.divideError", "math/bits.overflowError"], apart := false }
def NormExactSaid : Prop := normExactRow.holds Tryz.pinned (OpenSpec.ofChange normExactSpec)

/-- ITS FALSE NEIGHBOUR: 'it returns false'. Refute it at one input. -/
def normExactWrong : ChangeSpec := { name := "normExact", fn := fun _ => fun
  | [d] => { results := [.lit (.bool false)], args := [d] }
  | _ => none }
def NormExactWrongFalsely : Prop := normExactRow.holds Tryz.pinned (OpenSpec.ofChange normExactWrong)

/-- 'ratchetlaw2.FxTexts': WHATEVER THE INPUT: true; the input reads as it did. -/
def fxTextsSpec : ChangeSpec := { name := "fxTexts", fn := fun _ => fun
  | [d] => { results := [.lit (.bool true)], args := [d] }
  | _ => none }
def fxTextsRow : OpenClaim := { program := "ytkegefnpmijfiaagreat", sum := "c2ebaed46985256d3f9ba887cb9935188f968748b9d5a78f4cf2fc45c14482ce", func := "ratchet/ratchetlaw2.FxTexts", spec := "fxTexts", inPlace := ["math/bits.Add64", "math/bits.Sub64"], unfollowed := true, recurses := true, named := ["math/bits.divideError", "math/bits.overflowError"], apart := false }
def FxTextsSaid : Prop := fxTextsRow.holds Tryz.pinned (OpenSpec.ofChange fxTextsSpec)

/-- ITS FALSE NEIGHBOUR: 'it returns false'. Refute it at one input. -/
def fxTextsWrong : ChangeSpec := { name := "fxTexts", fn := fun _ => fun
  | [d] => { results := [.lit (.bool false)], args := [d] }
  | _ => none }
def FxTextsWrongFalsely : Prop := fxTextsRow.holds Tryz.pinned (OpenSpec.ofChange fxTextsWrong)

/-- 'ratchetlaw25.SeedBounds': WHATEVER THE INPUT: true; the input reads as it did. -/
def seedBoundsSpec : ChangeSpec := { name := "seedBounds", fn := fun _ => fun
  | [d] => { results := [.lit (.bool true)], args := [d] }
  | _ => none }
def seedBoundsRow : OpenClaim := { program := "ytkegefnpmijfiaagreat", sum := "c2ebaed46985256d3f9ba887cb9935188f968748b9d5a78f4cf2fc45c14482ce", func := "ratchet/ratchetlaw25.SeedBounds", spec := "seedBounds", inPlace := ["math/bits.Add64", "math/bits.Sub64"], unfollowed := true, recurses := true, named := ["math/bits.divideError", "math/bits.overflowError"], apart := false }
def SeedBoundsSaid : Prop := seedBoundsRow.holds Tryz.pinned (OpenSpec.ofChange seedBoundsSpec)

/-- ITS FALSE NEIGHBOUR: 'it returns false'. Refute it at one input. -/
def seedBoundsWrong : ChangeSpec := { name := "seedBounds", fn := fun _ => fun
  | [d] => { results := [.lit (.bool false)], args := [d] }
  | _ => none }
def SeedBoundsWrongFalsely : Prop := seedBoundsRow.holds Tryz.pinned (OpenSpec.ofChange seedBoundsWrong)

/-- 'ratchetlaw25.SeedExact': WHATEVER THE INPUT: true; the input reads as it did. -/
def seedExactSpec : ChangeSpec := { name := "seedExact", fn := fun _ => fun
  | [d] => { results := [.lit (.bool true)], args := [d] }
  | _ => none }
def seedExactRow : OpenClaim := { program := "ytkegefnpmijfiaagreat", sum := "c2ebaed46985256d3f9ba887cb9935188f968748b9d5a78f4cf2fc45c14482ce", func := "ratchet/ratchetlaw25.SeedExact", spec := "seedExact", inPlace := ["math/bits.Add64", "math/bits.Sub64"], unfollowed := true, recurses := true, named := ["math/bits.divideError", "math/bits.overflowError"], apart := false }
def SeedExactSaid : Prop := seedExactRow.holds Tryz.pinned (OpenSpec.ofChange seedExactSpec)

/-- ITS FALSE NEIGHBOUR: 'it returns false'. Refute it at one input. -/
def seedExactWrong : ChangeSpec := { name := "seedExact", fn := fun _ => fun
  | [d] => { results := [.lit (.bool false)], args := [d] }
  | _ => none }
def SeedExactWrongFalsely : Prop := seedExactRow.holds Tryz.pinned (OpenSpec.ofChange seedExactWrong)

/-- 'ratchetlaw29.OptimSteps': WHATEVER THE INPUT: true; the input reads as it did. -/
def optimStepsSpec : ChangeSpec := { name := "optimSteps", fn := fun _ => fun
  | [d] => { results := [.lit (.bool true)], args := [d] }
  | _ => none }
def optimStepsRow : OpenClaim := { program := "ytkegefnpmijfiaagreat", sum := "c2ebaed46985256d3f9ba887cb9935188f968748b9d5a78f4cf2fc45c14482ce", func := "ratchet/ratchetlaw29.OptimSteps", spec := "optimSteps", inPlace := ["math/bits.Add64", "math/bits.Sub64"], unfollowed := true, recurses := true, named := ["math/bits.divideError", "math/bits.overflowError"], apart := false }
def OptimStepsSaid : Prop := optimStepsRow.holds Tryz.pinned (OpenSpec.ofChange optimStepsSpec)

/-- ITS FALSE NEIGHBOUR: 'it returns false'. Refute it at one input. -/
def optimStepsWrong : ChangeSpec := { name := "optimSteps", fn := fun _ => fun
  | [d] => { results := [.lit (.bool false)], args := [d] }
  | _ => none }
def OptimStepsWrongFalsely : Prop := optimStepsRow.holds Tryz.pinned (OpenSpec.ofChange optimStepsWrong)

/-- 'ratchetlaw29.OptimClips': WHATEVER THE INPUT: true; the input reads as it did. -/
def optimClipsSpec : ChangeSpec := { name := "optimClips", fn := fun _ => fun
  | [d] => { results := [.lit (.bool true)], args := [d] }
  | _ => none }
def optimClipsRow : OpenClaim := { program := "ytkegefnpmijfiaagreat", sum := "c2ebaed46985256d3f9ba887cb9935188f968748b9d5a78f4cf2fc45c14482ce", func := "ratchet/ratchetlaw29.OptimClips", spec := "optimClips", inPlace := ["math/bits.Add64", "math/bits.Sub64"], unfollowed := true, recurses := true, named := ["math/bits.divideError", "math/bits.overflowError"], apart := false }
def OptimClipsSaid : Prop := optimClipsRow.holds Tryz.pinned (OpenSpec.ofChange optimClipsSpec)

/-- ITS FALSE NEIGHBOUR: 'it returns false'. Refute it at one input. -/
def optimClipsWrong : ChangeSpec := { name := "optimClips", fn := fun _ => fun
  | [d] => { results := [.lit (.bool false)], args := [d] }
  | _ => none }
def OptimClipsWrongFalsely : Prop := optimClipsRow.holds Tryz.pinned (OpenSpec.ofChange optimClipsWrong)

/-- 'ratchetlaw29.OptimRates': WHATEVER THE INPUT: true; the input reads as it did. -/
def optimRatesSpec : ChangeSpec := { name := "optimRates", fn := fun _ => fun
  | [d] => { results := [.lit (.bool true)], args := [d] }
  | _ => none }
def optimRatesRow : OpenClaim := { program := "ytkegefnpmijfiaagreat", sum := "c2ebaed46985256d3f9ba887cb9935188f968748b9d5a78f4cf2fc45c14482ce", func := "ratchet/ratchetlaw29.OptimRates", spec := "optimRates", inPlace := ["math/bits.Add64", "math/bits.Sub64"], unfollowed := true, recurses := true, named := ["math/bits.divideError", "math/bits.overflowError"], apart := false }
def OptimRatesSaid : Prop := optimRatesRow.holds Tryz.pinned (OpenSpec.ofChange optimRatesSpec)

/-- ITS FALSE NEIGHBOUR: 'it returns false'. Refute it at one input. -/
def optimRatesWrong : ChangeSpec := { name := "optimRates", fn := fun _ => fun
  | [d] => { results := [.lit (.bool false)], args := [d] }
  | _ => none }
def OptimRatesWrongFalsely : Prop := optimRatesRow.holds Tryz.pinned (OpenSpec.ofChange optimRatesWrong)

/-- 'ratchetlaw29.OptimStill': WHATEVER THE INPUT: true; the input reads as it did. -/
def optimStillSpec : ChangeSpec := { name := "optimStill", fn := fun _ => fun
  | [d] => { results := [.lit (.bool true)], args := [d] }
  | _ => none }
def optimStillRow : OpenClaim := { program := "ytkegefnpmijfiaagreat", sum := "c2ebaed46985256d3f9ba887cb9935188f968748b9d5a78f4cf2fc45c14482ce", func := "ratchet/ratchetlaw29.OptimStill", spec := "optimStill", inPlace := ["math/bits.Add64", "math/bits.Sub64"], unfollowed := true, recurses := true, named := ["math/bits.divideError", "math/bits.overflowError"], apart := false }
def OptimStillSaid : Prop := optimStillRow.holds Tryz.pinned (OpenSpec.ofChange optimStillSpec)

/-- ITS FALSE NEIGHBOUR: 'it returns false'. Refute it at one input. -/
def optimStillWrong : ChangeSpec := { name := "optimStill", fn := fun _ => fun
  | [d] => { results := [.lit (.bool false)], args := [d] }
  | _ => none }
def OptimStillWrongFalsely : Prop := optimStillRow.holds Tryz.pinned (OpenSpec.ofChange optimStillWrong)

/-- 'ratchetlaw29.OptimKinds': WHATEVER THE INPUT: true; the input reads as it did. -/
def optimKindsSpec : ChangeSpec := { name := "optimKinds", fn := fun _ => fun
  | [d] => { results := [.lit (.bool true)], args := [d] }
  | _ => none }
def optimKindsRow : OpenClaim := { program := "ytkegefnpmijfiaagreat", sum := "c2ebaed46985256d3f9ba887cb9935188f968748b9d5a78f4cf2fc45c14482ce", func := "ratchet/ratchetlaw29.OptimKinds", spec := "optimKinds", inPlace := ["math/bits.Add64", "math/bits.Sub64"], unfollowed := true, recurses := true, named := ["math/bits.divideError", "math/bits.overflowError"], apart := false }
def OptimKindsSaid : Prop := optimKindsRow.holds Tryz.pinned (OpenSpec.ofChange optimKindsSpec)

/-- ITS FALSE NEIGHBOUR: 'it returns false'. Refute it at one input. -/
def optimKindsWrong : ChangeSpec := { name := "optimKinds", fn := fun _ => fun
  | [d] => { results := [.lit (.bool false)], args := [d] }
  | _ => none }
def OptimKindsWrongFalsely : Prop := optimKindsRow.holds Tryz.pinned (OpenSpec.ofChange optimKindsWrong)

/-- 'ratchetlaw29.OptimExact': WHATEVER THE INPUT: true; the input reads as it did. -/
def optimExactSpec : ChangeSpec := { name := "optimExact", fn := fun _ => fun
  | [d] => { results := [.lit (.bool true)], args := [d] }
  | _ => none }
def optimExactRow : OpenClaim := { program := "ytkegefnpmijfiaagreat", sum := "c2ebaed46985256d3f9ba887cb9935188f968748b9d5a78f4cf2fc45c14482ce", func := "ratchet/ratchetlaw29.OptimExact", spec := "optimExact", inPlace := ["math/bits.Add64", "math/bits.Sub64"], unfollowed := true, recurses := true, named := ["math/bits.divideError", "math/bits.overflowError"], apart := false }
def OptimExactSaid : Prop := optimExactRow.holds Tryz.pinned (OpenSpec.ofChange optimExactSpec)

/-- ITS FALSE NEIGHBOUR: 'it returns false'. Refute it at one input. -/
def optimExactWrong : ChangeSpec := { name := "optimExact", fn := fun _ => fun
  | [d] => { results := [.lit (.bool false)], args := [d] }
  | _ => none }
def OptimExactWrongFalsely : Prop := optimExactRow.holds Tryz.pinned (OpenSpec.ofChange optimExactWrong)

/- THE SECOND FORM. 'bulk': how many values and letters a reading holds, each counted each time it is reached (what is shared counts as often as it is met; a slice's spare places count too). A statement '..UptoSaid' is the law's where the arguments, and the package variables that the reading takes, are together of bulk at most 1048576: NARROWER than '..Said'. Prove '..Said' where nothing that the law and all that it calls make is longer than what came in: it says more and counts as full. Else prove '..UptoSaid'. A law counts once. -/
mutual
def uptoBulk {H : Type} : DataW H → Nat
  | .lit (.string bytes) => bytes.length + 1
  | .lit _ => 1
  | .nil => 1
  | .ptr d => uptoBulk d + 1
  | .slice elems spare => uptoBulkAll elems + uptoBulkAll spare + 1
  | .agg parts => uptoBulkAll parts + 1
  | .iface _ d => uptoBulk d + 1
  | .map entries => uptoBulkEntries entries + 1
  | .held _ => 1
def uptoBulkAll {H : Type} : List (DataW H) → Nat
  | [] => 0
  | d :: r => uptoBulk d + uptoBulkAll r
def uptoBulkEntries {H : Type} : List (Lit × DataW H) → Nat
  | [] => 0
  | x :: r => uptoBulkEntry x + uptoBulkEntries r
def uptoBulkEntry {H : Type} : Lit × DataW H → Nat
  | (.string bytes, d) => bytes.length + uptoBulk d + 1
  | (_, d) => uptoBulk d + 1
 end
def uptoSmall : (H : Type) → List (DataW H) → Bool := fun _ ds => decide (uptoBulkAll ds ≤ 1048576)
def OpenSpec.upto (s : _root_.Go.ChangeSpec) : _root_.Go.OpenSpec := { _root_.Go.OpenSpec.ofChange s with cond := some uptoSmall }

/-- 'ratchetlaw14.NormExact', WHERE WHAT IT READS IS OF BULK AT MOST 1048576: true; the input reads as it did. -/
def normExactUptoRow : OpenClaim := { program := "ytkegefnpmijfiaagreat", sum := "c2ebaed46985256d3f9ba887cb9935188f968748b9d5a78f4cf2fc45c14482ce", func := "ratchet/ratchetlaw14.NormExact", spec := "normExact", inPlace := ["math/bits.Add64", "math/bits.Sub64"], unfollowed := true, recurses := true, named := ["math/bits.divideError", "math/bits.overflowError"], apart := false, narrowed := true }
def NormExactUptoSaid : Prop := normExactUptoRow.holds Tryz.pinned (OpenSpec.upto normExactSpec)

/-- 'ratchetlaw2.FxTexts', WHERE WHAT IT READS IS OF BULK AT MOST 1048576: true; the input reads as it did. -/
def fxTextsUptoRow : OpenClaim := { program := "ytkegefnpmijfiaagreat", sum := "c2ebaed46985256d3f9ba887cb9935188f968748b9d5a78f4cf2fc45c14482ce", func := "ratchet/ratchetlaw2.FxTexts", spec := "fxTexts", inPlace := ["math/bits.Add64", "math/bits.Sub64"], unfollowed := true, recurses := true, named := ["math/bits.divideError", "math/bits.overflowError"], apart := false, narrowed := true }
def FxTextsUptoSaid : Prop := fxTextsUptoRow.holds Tryz.pinned (OpenSpec.upto fxTextsSpec)

/-- 'ratchetlaw25.SeedBounds', WHERE WHAT IT READS IS OF BULK AT MOST 1048576: true; the input reads as it did. -/
def seedBoundsUptoRow : OpenClaim := { program := "ytkegefnpmijfiaagreat", sum := "c2ebaed46985256d3f9ba887cb9935188f968748b9d5a78f4cf2fc45c14482ce", func := "ratchet/ratchetlaw25.SeedBounds", spec := "seedBounds", inPlace := ["math/bits.Add64", "math/bits.Sub64"], unfollowed := true, recurses := true, named := ["math/bits.divideError", "math/bits.overflowError"], apart := false, narrowed := true }
def SeedBoundsUptoSaid : Prop := seedBoundsUptoRow.holds Tryz.pinned (OpenSpec.upto seedBoundsSpec)

/-- 'ratchetlaw25.SeedExact', WHERE WHAT IT READS IS OF BULK AT MOST 1048576: true; the input reads as it did. -/
def seedExactUptoRow : OpenClaim := { program := "ytkegefnpmijfiaagreat", sum := "c2ebaed46985256d3f9ba887cb9935188f968748b9d5a78f4cf2fc45c14482ce", func := "ratchet/ratchetlaw25.SeedExact", spec := "seedExact", inPlace := ["math/bits.Add64", "math/bits.Sub64"], unfollowed := true, recurses := true, named := ["math/bits.divideError", "math/bits.overflowError"], apart := false, narrowed := true }
def SeedExactUptoSaid : Prop := seedExactUptoRow.holds Tryz.pinned (OpenSpec.upto seedExactSpec)

/-- 'ratchetlaw29.OptimSteps', WHERE WHAT IT READS IS OF BULK AT MOST 1048576: true; the input reads as it did. -/
def optimStepsUptoRow : OpenClaim := { program := "ytkegefnpmijfiaagreat", sum := "c2ebaed46985256d3f9ba887cb9935188f968748b9d5a78f4cf2fc45c14482ce", func := "ratchet/ratchetlaw29.OptimSteps", spec := "optimSteps", inPlace := ["math/bits.Add64", "math/bits.Sub64"], unfollowed := true, recurses := true, named := ["math/bits.divideError", "math/bits.overflowError"], apart := false, narrowed := true }
def OptimStepsUptoSaid : Prop := optimStepsUptoRow.holds Tryz.pinned (OpenSpec.upto optimStepsSpec)

/-- 'ratchetlaw29.OptimClips', WHERE WHAT IT READS IS OF BULK AT MOST 1048576: true; the input reads as it did. -/
def optimClipsUptoRow : OpenClaim := { program := "ytkegefnpmijfiaagreat", sum := "c2ebaed46985256d3f9ba887cb9935188f968748b9d5a78f4cf2fc45c14482ce", func := "ratchet/ratchetlaw29.OptimClips", spec := "optimClips", inPlace := ["math/bits.Add64", "math/bits.Sub64"], unfollowed := true, recurses := true, named := ["math/bits.divideError", "math/bits.overflowError"], apart := false, narrowed := true }
def OptimClipsUptoSaid : Prop := optimClipsUptoRow.holds Tryz.pinned (OpenSpec.upto optimClipsSpec)

/-- 'ratchetlaw29.OptimRates', WHERE WHAT IT READS IS OF BULK AT MOST 1048576: true; the input reads as it did. -/
def optimRatesUptoRow : OpenClaim := { program := "ytkegefnpmijfiaagreat", sum := "c2ebaed46985256d3f9ba887cb9935188f968748b9d5a78f4cf2fc45c14482ce", func := "ratchet/ratchetlaw29.OptimRates", spec := "optimRates", inPlace := ["math/bits.Add64", "math/bits.Sub64"], unfollowed := true, recurses := true, named := ["math/bits.divideError", "math/bits.overflowError"], apart := false, narrowed := true }
def OptimRatesUptoSaid : Prop := optimRatesUptoRow.holds Tryz.pinned (OpenSpec.upto optimRatesSpec)

/-- 'ratchetlaw29.OptimStill', WHERE WHAT IT READS IS OF BULK AT MOST 1048576: true; the input reads as it did. -/
def optimStillUptoRow : OpenClaim := { program := "ytkegefnpmijfiaagreat", sum := "c2ebaed46985256d3f9ba887cb9935188f968748b9d5a78f4cf2fc45c14482ce", func := "ratchet/ratchetlaw29.OptimStill", spec := "optimStill", inPlace := ["math/bits.Add64", "math/bits.Sub64"], unfollowed := true, recurses := true, named := ["math/bits.divideError", "math/bits.overflowError"], apart := false, narrowed := true }
def OptimStillUptoSaid : Prop := optimStillUptoRow.holds Tryz.pinned (OpenSpec.upto optimStillSpec)

/-- 'ratchetlaw29.OptimKinds', WHERE WHAT IT READS IS OF BULK AT MOST 1048576: true; the input reads as it did. -/
def optimKindsUptoRow : OpenClaim := { program := "ytkegefnpmijfiaagreat", sum := "c2ebaed46985256d3f9ba887cb9935188f968748b9d5a78f4cf2fc45c14482ce", func := "ratchet/ratchetlaw29.OptimKinds", spec := "optimKinds", inPlace := ["math/bits.Add64", "math/bits.Sub64"], unfollowed := true, recurses := true, named := ["math/bits.divideError", "math/bits.overflowError"], apart := false, narrowed := true }
def OptimKindsUptoSaid : Prop := optimKindsUptoRow.holds Tryz.pinned (OpenSpec.upto optimKindsSpec)

/-- 'ratchetlaw29.OptimExact', WHERE WHAT IT READS IS OF BULK AT MOST 1048576: true; the input reads as it did. -/
def optimExactUptoRow : OpenClaim := { program := "ytkegefnpmijfiaagreat", sum := "c2ebaed46985256d3f9ba887cb9935188f968748b9d5a78f4cf2fc45c14482ce", func := "ratchet/ratchetlaw29.OptimExact", spec := "optimExact", inPlace := ["math/bits.Add64", "math/bits.Sub64"], unfollowed := true, recurses := true, named := ["math/bits.divideError", "math/bits.overflowError"], apart := false, narrowed := true }
def OptimExactUptoSaid : Prop := optimExactUptoRow.holds Tryz.pinned (OpenSpec.upto optimExactSpec)

end Rows
end Go.Proofs.YtkegefnpmijfiaaGreat
