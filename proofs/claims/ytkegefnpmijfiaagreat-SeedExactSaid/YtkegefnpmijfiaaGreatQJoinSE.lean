/- SeedExact: the row's facts on the code that the law reaches (a theorem of its own: its check wants 7 GB). -/
import Derived.Test.YtkegefnpmijfiaaGreatRows
import Derived.ProofKit
import Derived.OpenShut
namespace Go.Proofs.YtkegefnpmijfiaaGreat.lawSeedExact
open Go.ChangeShapes Go.WideShapes Go.ChangeAt Go.RowKit
theorem joined : joinedFacts Tryz.pinned.checked.prog 6 Tryz.f6 Rows.seedExactSpec Rows.seedExactRow = true := by kernel_rfl
end Go.Proofs.YtkegefnpmijfiaaGreat.lawSeedExact
