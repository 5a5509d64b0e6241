/- PostingReads returns true for all bytes, and leaves the memory that was there as it was. -/
import Derived.Test.YtellhmbebimenaaDoorPb47
import Derived.Test.YtellhmbebimenaaDoorPb48
import Derived.Test.YtellhmbebimenaaDoorPb43
import Derived.Test.YtellhmbebimenaaDoorPb45
import Derived.Deep.RegionWith

set_option linter.unusedVariables false
set_option linter.unusedSimpArgs false
namespace Go.Proofs.YtellhmbebimenaaDoor
open Go.RowKit

theorem eqPst (x0 x1 x2 x3 x4 x5 x6 x7 x8 x9 : Int) (w : World) : (binOp .eql 49 (.agg #[.int .i64 x0, .int .u64 x1, .int .i64 x2, .int .i64 x3, .int .i64 x4, .int .i64 x5, .int .i64 x6, .int .i64 x7, .int .i64 x8, .int .i64 x9]) (.agg #[.int .i64 x0, .int .u64 x1, .int .i64 x2, .int .i64 x3, .int .i64 x4, .int .i64 x5, .int .i64 x6, .int .i64 x7, .int .i64 x8, .int .i64 x9])).run Tryd.prog w = .ok (.bool true) w := by
  have hS : Tryd.prog.underlying 49 = some (.struct (Tryd.prog.fieldsOf 49)) := by kernel_rfl
  have hp : Tryd.prog.stoodInHeld 49 = false := by kernel_rfl
  rw [run_eql_struct, show (10000 : Nat) = 9999 + 1 from rfl, run_equalIn_agg w 9999 49 _ _ hS hp]
  simp only [Program.fieldsOf, Tryd.underlying49]
  go_simp
theorem guardPst (x y : Operand) (xs ys : Array Value) (w : World) : (eqGuard .eql 49 x y (.agg xs) (.agg ys)).run Tryd.prog w = .ok () w := run_eqGuard_agg w _ _ _ _ _ _ (by kernel_rfl)
end Go.Proofs.YtellhmbebimenaaDoor
namespace Go.Proofs.YtellhmbebimenaaDoor.postingReads
open Go.ChangeShapes Go.WideShapes Go.ChangeAt Go.RowKit

end Go.Proofs.YtellhmbebimenaaDoor.postingReads
