/- Contracts of the posting reference: Key, Bytes, Of; and of posting.Of. -/
import Derived.Test.YtellhmbebimenaaDoorPb42

set_option linter.unusedVariables false
set_option linter.unusedSimpArgs false
namespace Go.Proofs.YtellhmbebimenaaDoor
open Go.RowKit

end Go.Proofs.YtellhmbebimenaaDoor
