/- Contract: may a ticket be (the reference's May, 13). -/
import Derived.Test.YtadabjkhiaidcaaDsl22

set_option linter.unusedVariables false
set_option linter.unusedSimpArgs false
namespace Go.Proofs.Ytadabjkhiaidcaa
open Go.RowKit

attribute [local go_sem ↓] Tk_execLoad

attribute [local go_sem] Tk_load loL_drew okL_drew

end Go.Proofs.Ytadabjkhiaidcaa
