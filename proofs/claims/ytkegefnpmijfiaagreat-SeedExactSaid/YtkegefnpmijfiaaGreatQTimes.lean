/- wide.Mul. fx: Shifted by fewer than 64 bits, products. -/
import Derived.Test.YtkegefnpmijfiaaGreatQShift
import Derived.Test.YtkegefnpmijfiaaGreatQFx
namespace Go.Proofs.YtkegefnpmijfiaaGreat
open Go.RowKit
end Go.Proofs.YtkegefnpmijfiaaGreat
namespace Go.Proofs.YtkegefnpmijfiaaGreat
open Go.RowKit
theorem w128_of_mag {x : Int} (h : mag x < 170141183460469231731687303715884105728) : W128 x := by
  unfold mag at h
  constructor <;> (split at h <;> omega)
end Go.Proofs.YtkegefnpmijfiaaGreat
