/-
  No cell of these rows narrows 'for every input' (looked for: loops, veiled, ifaces, maps, wideKeys, modest, calm, conditions, laid).
  DERIVED. THE GIVEN ROWS OF THIS SEAT. 3 by the template 'for every input the law returns true; each argument reads behind the call as it read before'; 0 by the template 'total and deterministic' (their statements: YtajpggnmhkpbkaaTotals.lean).
  GIVEN WITH THE SEED: the statements are not yours to turn. If you find one false, say at which input.
  Laid BY PROGRAM, IN A SANDBOX (cutbox-rows.mjs): the forced cells as the released guide's own fill.sh prints them over the translation bc77ecfa106eea3b… (all of the seat's roots in one cut). By AI agents, Wed Nov 11 2026. No macro, syntax, notation, axiom, sorry.
-/
import Derived.Test.YtajpggnmhkpbkaaChecked
import GoSem.Claim
import GoSem.ClaimJoined
import GoSem.ClaimMapViews
import Derived.JoinedTies
import Derived.KernelRfl
namespace Go.Proofs.Ytajpggnmhkpbkaa
/- THE CELL 'sum', in the pinned program and in every row, IS THE sha256 OF THE DUMP (.gsa) THAT YtajpggnmhkpbkaaProg.lean LOADS. Nothing in Lean hashes anything: it is a label: what it is worth is what the hold of that sum in a sandbox is worth. -/
noncomputable def Try.pinned : Pinned := { name := "ytajpggnmhkpbkaa", sum := "bc77ecfa106eea3b48da7b66eed9344107cbb4c559f286436dc965e2aa242923", checked := Try.checked }
namespace Rows
def none {H : Type} : Left H := { results := [], args := [] }

/-- 'couponlaw10.NumberStocks': WHATEVER THE INPUT: true; the input reads as it did. -/
def numberStocksSpec : ChangeSpec := { name := "numberStocks", fn := fun _ => fun
  | [d1, d2, d3, d4] => { results := [.lit (.bool true)], args := [d1, d2, d3, d4] }
  | _ => none }
def numberStocksRow : OpenClaim := { program := "ytajpggnmhkpbkaa", sum := "bc77ecfa106eea3b48da7b66eed9344107cbb4c559f286436dc965e2aa242923", func := "coupon/couponlaw10.NumberStocks", spec := "numberStocks", unfollowed := true, recurses := true, apart := false }
def NumberStocksSaid : Prop := numberStocksRow.holds Try.pinned (OpenSpec.ofChange numberStocksSpec)

/-- ITS FALSE NEIGHBOUR: 'it returns false'. Refute it at one input. -/
def numberStocksWrong : ChangeSpec := { name := "numberStocks", fn := fun _ => fun
  | [d1, d2, d3, d4] => { results := [.lit (.bool false)], args := [d1, d2, d3, d4] }
  | _ => none }
def NumberStocksWrongFalsely : Prop := numberStocksRow.holds Try.pinned (OpenSpec.ofChange numberStocksWrong)

/-- 'couponlaw17.ReportFollows': WHATEVER THE INPUT: true; the input reads as it did. -/
def reportFollowsSpec : ChangeSpec := { name := "reportFollows", fn := fun _ => fun
  | [d1, d2, d3, d4] => { results := [.lit (.bool true)], args := [d1, d2, d3, d4] }
  | _ => none }
def reportFollowsRow : OpenClaim := { program := "ytajpggnmhkpbkaa", sum := "bc77ecfa106eea3b48da7b66eed9344107cbb4c559f286436dc965e2aa242923", func := "coupon/couponlaw17.ReportFollows", spec := "reportFollows", inPlace := ["slices.overlaps[coupon/api.Posting]"], unfollowed := true, recurses := true, apart := false }
def ReportFollowsSaid : Prop := reportFollowsRow.holds Try.pinned (OpenSpec.ofChange reportFollowsSpec)

/-- ITS FALSE NEIGHBOUR: 'it returns false'. Refute it at one input. -/
def reportFollowsWrong : ChangeSpec := { name := "reportFollows", fn := fun _ => fun
  | [d1, d2, d3, d4] => { results := [.lit (.bool false)], args := [d1, d2, d3, d4] }
  | _ => none }
def ReportFollowsWrongFalsely : Prop := reportFollowsRow.holds Try.pinned (OpenSpec.ofChange reportFollowsWrong)

/-- 'couponlaw17.ReportJoins': WHATEVER THE INPUT: true; the input reads as it did. -/
def reportJoinsSpec : ChangeSpec := { name := "reportJoins", fn := fun _ => fun
  | [d1, d2, d3] => { results := [.lit (.bool true)], args := [d1, d2, d3] }
  | _ => none }
def reportJoinsRow : OpenClaim := { program := "ytajpggnmhkpbkaa", sum := "bc77ecfa106eea3b48da7b66eed9344107cbb4c559f286436dc965e2aa242923", func := "coupon/couponlaw17.ReportJoins", spec := "reportJoins", inPlace := ["slices.overlaps[coupon/api.Posting]"], unfollowed := true, recurses := true, apart := false }
def ReportJoinsSaid : Prop := reportJoinsRow.holds Try.pinned (OpenSpec.ofChange reportJoinsSpec)

/-- ITS FALSE NEIGHBOUR: 'it returns false'. Refute it at one input. -/
def reportJoinsWrong : ChangeSpec := { name := "reportJoins", fn := fun _ => fun
  | [d1, d2, d3] => { results := [.lit (.bool false)], args := [d1, d2, d3] }
  | _ => none }
def ReportJoinsWrongFalsely : Prop := reportJoinsRow.holds Try.pinned (OpenSpec.ofChange reportJoinsWrong)

/- THE SECOND FORM. 'bulk': how many values and letters a reading holds, each counted each time it is reached (what is shared counts as often as it is met; a slice's spare places count too). A statement '..UptoSaid' is the law's where the arguments, and the package variables that the reading takes, are together of bulk at most 1048576: NARROWER than '..Said'. Prove '..Said' where nothing that the law and all that it calls make is longer than what came in: it says more and counts as full. Else prove '..UptoSaid'. A law counts once. -/
mutual
def uptoBulk {H : Type} : DataW H → Nat
  | .lit (.string bytes) => bytes.length + 1
  | .lit _ => 1
  | .nil => 1
  | .ptr d => uptoBulk d + 1
  | .slice elems spare => uptoBulkAll elems + uptoBulkAll spare + 1
  | .agg parts => uptoBulkAll parts + 1
  | .iface _ d => uptoBulk d + 1
  | .map entries => uptoBulkEntries entries + 1
  | .held _ => 1
def uptoBulkAll {H : Type} : List (DataW H) → Nat
  | [] => 0
  | d :: r => uptoBulk d + uptoBulkAll r
def uptoBulkEntries {H : Type} : List (Lit × DataW H) → Nat
  | [] => 0
  | x :: r => uptoBulkEntry x + uptoBulkEntries r
def uptoBulkEntry {H : Type} : Lit × DataW H → Nat
  | (.string bytes, d) => bytes.length + uptoBulk d + 1
  | (_, d) => uptoBulk d + 1
 end
def uptoSmall : (H : Type) → List (DataW H) → Bool := fun _ ds => decide (uptoBulkAll ds ≤ 1048576)
def OpenSpec.upto (s : _root_.Go.ChangeSpec) : _root_.Go.OpenSpec := { _root_.Go.OpenSpec.ofChange s with cond := some uptoSmall }

/-- 'couponlaw10.NumberStocks', WHERE WHAT IT READS IS OF BULK AT MOST 1048576: true; the input reads as it did. -/
def numberStocksUptoRow : OpenClaim := { program := "ytajpggnmhkpbkaa", sum := "bc77ecfa106eea3b48da7b66eed9344107cbb4c559f286436dc965e2aa242923", func := "coupon/couponlaw10.NumberStocks", spec := "numberStocks", unfollowed := true, recurses := true, apart := false, narrowed := true }
def NumberStocksUptoSaid : Prop := numberStocksUptoRow.holds Try.pinned (OpenSpec.upto numberStocksSpec)

/-- 'couponlaw17.ReportFollows', WHERE WHAT IT READS IS OF BULK AT MOST 1048576: true; the input reads as it did. -/
def reportFollowsUptoRow : OpenClaim := { program := "ytajpggnmhkpbkaa", sum := "bc77ecfa106eea3b48da7b66eed9344107cbb4c559f286436dc965e2aa242923", func := "coupon/couponlaw17.ReportFollows", spec := "reportFollows", inPlace := ["slices.overlaps[coupon/api.Posting]"], unfollowed := true, recurses := true, apart := false, narrowed := true }
def ReportFollowsUptoSaid : Prop := reportFollowsUptoRow.holds Try.pinned (OpenSpec.upto reportFollowsSpec)

/-- 'couponlaw17.ReportJoins', WHERE WHAT IT READS IS OF BULK AT MOST 1048576: true; the input reads as it did. -/
def reportJoinsUptoRow : OpenClaim := { program := "ytajpggnmhkpbkaa", sum := "bc77ecfa106eea3b48da7b66eed9344107cbb4c559f286436dc965e2aa242923", func := "coupon/couponlaw17.ReportJoins", spec := "reportJoins", inPlace := ["slices.overlaps[coupon/api.Posting]"], unfollowed := true, recurses := true, apart := false, narrowed := true }
def ReportJoinsUptoSaid : Prop := reportJoinsUptoRow.holds Try.pinned (OpenSpec.upto reportJoinsSpec)

end Rows
end Go.Proofs.Ytajpggnmhkpbkaa
