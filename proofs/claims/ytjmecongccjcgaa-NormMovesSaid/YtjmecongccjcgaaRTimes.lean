/- ref91: Times, Floor. -/
import Derived.Test.YtjmecongccjcgaaInts2
import Derived.Deep.DeepCutAuto
namespace Go.Proofs.Ytjmecongccjcgaa
open Go.RowKit
end Go.Proofs.Ytjmecongccjcgaa
