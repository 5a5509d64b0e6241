/- Contracts: ticket.At; the reference's Much and Copy (13). -/
import Derived.Test.YtadabjkhiaidcaaDsl16

set_option linter.unusedVariables false
set_option linter.unusedSimpArgs false
namespace Go.Proofs.Ytadabjkhiaidcaa
open Go.RowKit

attribute [local go_sem ↓] Tk_execLoad Tk_execStore

attribute [local go_sem] Tk_load Tk_store loL_drew okL_drew there_sc World.there_drew

def Tkt.atL (u : Int) (t : Tk) : List Int := if Tkt.mayB t = true then Tkt.thenL u t else []
def Tkt.muchB (t : Tk) : Bool := decide (20 < t.cs.length) || decide (20 < t.ts.length) || decide (100 < t.hs.length) || decide (100 < t.loc.size)
end Go.Proofs.Ytadabjkhiaidcaa
