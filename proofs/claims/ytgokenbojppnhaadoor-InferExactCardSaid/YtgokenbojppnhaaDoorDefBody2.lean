/- (*def.reader).body: the walk. -/
import Derived.Test.YtgokenbojppnhaaDoorDefText
import Derived.Maps.AppendAt
namespace Go.Proofs.YtgokenbojppnhaaDoor
open Go.RowKit
end Go.Proofs.YtgokenbojppnhaaDoor
