/-
  No cell of these rows narrows 'for every input' (looked for: loops, veiled, ifaces, maps, wideKeys, modest, calm, conditions, laid).
  DERIVED. THE GIVEN ROWS OF THIS SEAT. 6 by the template 'for every input the law returns true; each argument reads behind the call as it read before'; 0 by the template 'total and deterministic' (their statements: YtmofcaclohnmmaaTotals.lean).
  GIVEN WITH THE SEED: the statements are not yours to turn. If you find one false, say at which input.
  Laid BY PROGRAM, IN A SANDBOX (cutbox-rows.mjs): the forced cells as the released guide's own fill.sh prints them over the translation 75a9e640e00b9088… (all of the seat's roots in one cut). By AI agents, Wed Nov 11 2026. No macro, syntax, notation, axiom, sorry.
-/
import Derived.Test.YtmofcaclohnmmaaChecked
import GoSem.Claim
import GoSem.ClaimJoined
import GoSem.ClaimMapViews
import Derived.JoinedTies
import Derived.KernelRfl
namespace Go.Proofs.Ytmofcaclohnmmaa
/- THE CELL 'sum', in the pinned program and in every row, IS THE sha256 OF THE DUMP (.gsa) THAT YtmofcaclohnmmaaProg.lean LOADS. Nothing in Lean hashes anything: it is a label: what it is worth is what the hold of that sum in a sandbox is worth. -/
noncomputable def Try.pinned : Pinned := { name := "ytmofcaclohnmmaa", sum := "75a9e640e00b90881029ff3133a936f466eb1aeedefde3f036843fe48ca2688b", checked := Try.checked }
namespace Rows
def none {H : Type} : Left H := { results := [], args := [] }

/-- 'couponlaw10.NumberLocators': WHATEVER THE INPUT: true; the input reads as it did. -/
def numberLocatorsSpec : ChangeSpec := { name := "numberLocators", fn := fun _ => fun
  | [d] => { results := [.lit (.bool true)], args := [d] }
  | _ => none }
def numberLocatorsRow : OpenClaim := { program := "ytmofcaclohnmmaa", sum := "75a9e640e00b90881029ff3133a936f466eb1aeedefde3f036843fe48ca2688b", func := "coupon/couponlaw10.NumberLocators", spec := "numberLocators", apart := false }
def NumberLocatorsSaid : Prop := numberLocatorsRow.holds Try.pinned (OpenSpec.ofChange numberLocatorsSpec)

/-- ITS FALSE NEIGHBOUR: 'it returns false'. Refute it at one input. -/
def numberLocatorsWrong : ChangeSpec := { name := "numberLocators", fn := fun _ => fun
  | [d] => { results := [.lit (.bool false)], args := [d] }
  | _ => none }
def NumberLocatorsWrongFalsely : Prop := numberLocatorsRow.holds Try.pinned (OpenSpec.ofChange numberLocatorsWrong)

/-- 'couponlaw10.NumberApart': WHATEVER THE INPUT: true; the input reads as it did. -/
def numberApartSpec : ChangeSpec := { name := "numberApart", fn := fun _ => fun
  | [d1, d2, d3] => { results := [.lit (.bool true)], args := [d1, d2, d3] }
  | _ => none }
def numberApartRow : OpenClaim := { program := "ytmofcaclohnmmaa", sum := "75a9e640e00b90881029ff3133a936f466eb1aeedefde3f036843fe48ca2688b", func := "coupon/couponlaw10.NumberApart", spec := "numberApart", apart := false }
def NumberApartSaid : Prop := numberApartRow.holds Try.pinned (OpenSpec.ofChange numberApartSpec)

/-- ITS FALSE NEIGHBOUR: 'it returns false'. Refute it at one input. -/
def numberApartWrong : ChangeSpec := { name := "numberApart", fn := fun _ => fun
  | [d1, d2, d3] => { results := [.lit (.bool false)], args := [d1, d2, d3] }
  | _ => none }
def NumberApartWrongFalsely : Prop := numberApartRow.holds Try.pinned (OpenSpec.ofChange numberApartWrong)

/-- 'couponlaw10.NumberTells': WHATEVER THE INPUT: true; the input reads as it did. -/
def numberTellsSpec : ChangeSpec := { name := "numberTells", fn := fun _ => fun
  | [d1, d2, d3, d4] => { results := [.lit (.bool true)], args := [d1, d2, d3, d4] }
  | _ => none }
def numberTellsRow : OpenClaim := { program := "ytmofcaclohnmmaa", sum := "75a9e640e00b90881029ff3133a936f466eb1aeedefde3f036843fe48ca2688b", func := "coupon/couponlaw10.NumberTells", spec := "numberTells", apart := false }
def NumberTellsSaid : Prop := numberTellsRow.holds Try.pinned (OpenSpec.ofChange numberTellsSpec)

/-- ITS FALSE NEIGHBOUR: 'it returns false'. Refute it at one input. -/
def numberTellsWrong : ChangeSpec := { name := "numberTells", fn := fun _ => fun
  | [d1, d2, d3, d4] => { results := [.lit (.bool false)], args := [d1, d2, d3, d4] }
  | _ => none }
def NumberTellsWrongFalsely : Prop := numberTellsRow.holds Try.pinned (OpenSpec.ofChange numberTellsWrong)

/-- 'couponlaw10.NumberStocks': WHATEVER THE INPUT: true; the input reads as it did. -/
def numberStocksSpec : ChangeSpec := { name := "numberStocks", fn := fun _ => fun
  | [d1, d2, d3, d4] => { results := [.lit (.bool true)], args := [d1, d2, d3, d4] }
  | _ => none }
def numberStocksRow : OpenClaim := { program := "ytmofcaclohnmmaa", sum := "75a9e640e00b90881029ff3133a936f466eb1aeedefde3f036843fe48ca2688b", func := "coupon/couponlaw10.NumberStocks", spec := "numberStocks", unfollowed := true, recurses := true, apart := false }
def NumberStocksSaid : Prop := numberStocksRow.holds Try.pinned (OpenSpec.ofChange numberStocksSpec)

/-- ITS FALSE NEIGHBOUR: 'it returns false'. Refute it at one input. -/
def numberStocksWrong : ChangeSpec := { name := "numberStocks", fn := fun _ => fun
  | [d1, d2, d3, d4] => { results := [.lit (.bool false)], args := [d1, d2, d3, d4] }
  | _ => none }
def NumberStocksWrongFalsely : Prop := numberStocksRow.holds Try.pinned (OpenSpec.ofChange numberStocksWrong)

/-- 'couponlaw10.NumberMakes': WHATEVER THE INPUT: true; the input reads as it did. -/
def numberMakesSpec : ChangeSpec := { name := "numberMakes", fn := fun _ => fun
  | [d1, d2] => { results := [.lit (.bool true)], args := [d1, d2] }
  | _ => none }
def numberMakesRow : OpenClaim := { program := "ytmofcaclohnmmaa", sum := "75a9e640e00b90881029ff3133a936f466eb1aeedefde3f036843fe48ca2688b", func := "coupon/couponlaw10.NumberMakes", spec := "numberMakes", apart := false }
def NumberMakesSaid : Prop := numberMakesRow.holds Try.pinned (OpenSpec.ofChange numberMakesSpec)

/-- ITS FALSE NEIGHBOUR: 'it returns false'. Refute it at one input. -/
def numberMakesWrong : ChangeSpec := { name := "numberMakes", fn := fun _ => fun
  | [d1, d2] => { results := [.lit (.bool false)], args := [d1, d2] }
  | _ => none }
def NumberMakesWrongFalsely : Prop := numberMakesRow.holds Try.pinned (OpenSpec.ofChange numberMakesWrong)

/-- 'couponlaw10.NumberChecks': WHATEVER THE INPUT: true; the input reads as it did. -/
def numberChecksSpec : ChangeSpec := { name := "numberChecks", fn := fun _ => fun
  | [d1, d2] => { results := [.lit (.bool true)], args := [d1, d2] }
  | _ => none }
def numberChecksRow : OpenClaim := { program := "ytmofcaclohnmmaa", sum := "75a9e640e00b90881029ff3133a936f466eb1aeedefde3f036843fe48ca2688b", func := "coupon/couponlaw10.NumberChecks", spec := "numberChecks", apart := false }
def NumberChecksSaid : Prop := numberChecksRow.holds Try.pinned (OpenSpec.ofChange numberChecksSpec)

/-- ITS FALSE NEIGHBOUR: 'it returns false'. Refute it at one input. -/
def numberChecksWrong : ChangeSpec := { name := "numberChecks", fn := fun _ => fun
  | [d1, d2] => { results := [.lit (.bool false)], args := [d1, d2] }
  | _ => none }
def NumberChecksWrongFalsely : Prop := numberChecksRow.holds Try.pinned (OpenSpec.ofChange numberChecksWrong)

/- THE SECOND FORM. 'bulk': how many values and letters a reading holds, each counted each time it is reached (what is shared counts as often as it is met; a slice's spare places count too). A statement '..UptoSaid' is the law's where the arguments, and the package variables that the reading takes, are together of bulk at most 1048576: NARROWER than '..Said'. Prove '..Said' where nothing that the law and all that it calls make is longer than what came in: it says more and counts as full. Else prove '..UptoSaid'. A law counts once. -/
mutual
def uptoBulk {H : Type} : DataW H → Nat
  | .lit (.string bytes) => bytes.length + 1
  | .lit _ => 1
  | .nil => 1
  | .ptr d => uptoBulk d + 1
  | .slice elems spare => uptoBulkAll elems + uptoBulkAll spare + 1
  | .agg parts => uptoBulkAll parts + 1
  | .iface _ d => uptoBulk d + 1
  | .map entries => uptoBulkEntries entries + 1
  | .held _ => 1
def uptoBulkAll {H : Type} : List (DataW H) → Nat
  | [] => 0
  | d :: r => uptoBulk d + uptoBulkAll r
def uptoBulkEntries {H : Type} : List (Lit × DataW H) → Nat
  | [] => 0
  | x :: r => uptoBulkEntry x + uptoBulkEntries r
def uptoBulkEntry {H : Type} : Lit × DataW H → Nat
  | (.string bytes, d) => bytes.length + uptoBulk d + 1
  | (_, d) => uptoBulk d + 1
 end
def uptoSmall : (H : Type) → List (DataW H) → Bool := fun _ ds => decide (uptoBulkAll ds ≤ 1048576)
def OpenSpec.upto (s : _root_.Go.ChangeSpec) : _root_.Go.OpenSpec := { _root_.Go.OpenSpec.ofChange s with cond := some uptoSmall }

/-- 'couponlaw10.NumberLocators', WHERE WHAT IT READS IS OF BULK AT MOST 1048576: true; the input reads as it did. -/
def numberLocatorsUptoRow : OpenClaim := { program := "ytmofcaclohnmmaa", sum := "75a9e640e00b90881029ff3133a936f466eb1aeedefde3f036843fe48ca2688b", func := "coupon/couponlaw10.NumberLocators", spec := "numberLocators", apart := false, narrowed := true }
def NumberLocatorsUptoSaid : Prop := numberLocatorsUptoRow.holds Try.pinned (OpenSpec.upto numberLocatorsSpec)

/-- 'couponlaw10.NumberApart', WHERE WHAT IT READS IS OF BULK AT MOST 1048576: true; the input reads as it did. -/
def numberApartUptoRow : OpenClaim := { program := "ytmofcaclohnmmaa", sum := "75a9e640e00b90881029ff3133a936f466eb1aeedefde3f036843fe48ca2688b", func := "coupon/couponlaw10.NumberApart", spec := "numberApart", apart := false, narrowed := true }
def NumberApartUptoSaid : Prop := numberApartUptoRow.holds Try.pinned (OpenSpec.upto numberApartSpec)

/-- 'couponlaw10.NumberTells', WHERE WHAT IT READS IS OF BULK AT MOST 1048576: true; the input reads as it did. -/
def numberTellsUptoRow : OpenClaim := { program := "ytmofcaclohnmmaa", sum := "75a9e640e00b90881029ff3133a936f466eb1aeedefde3f036843fe48ca2688b", func := "coupon/couponlaw10.NumberTells", spec := "numberTells", apart := false, narrowed := true }
def NumberTellsUptoSaid : Prop := numberTellsUptoRow.holds Try.pinned (OpenSpec.upto numberTellsSpec)

/-- 'couponlaw10.NumberStocks', WHERE WHAT IT READS IS OF BULK AT MOST 1048576: true; the input reads as it did. -/
def numberStocksUptoRow : OpenClaim := { program := "ytmofcaclohnmmaa", sum := "75a9e640e00b90881029ff3133a936f466eb1aeedefde3f036843fe48ca2688b", func := "coupon/couponlaw10.NumberStocks", spec := "numberStocks", unfollowed := true, recurses := true, apart := false, narrowed := true }
def NumberStocksUptoSaid : Prop := numberStocksUptoRow.holds Try.pinned (OpenSpec.upto numberStocksSpec)

/-- 'couponlaw10.NumberMakes', WHERE WHAT IT READS IS OF BULK AT MOST 1048576: true; the input reads as it did. -/
def numberMakesUptoRow : OpenClaim := { program := "ytmofcaclohnmmaa", sum := "75a9e640e00b90881029ff3133a936f466eb1aeedefde3f036843fe48ca2688b", func := "coupon/couponlaw10.NumberMakes", spec := "numberMakes", apart := false, narrowed := true }
def NumberMakesUptoSaid : Prop := numberMakesUptoRow.holds Try.pinned (OpenSpec.upto numberMakesSpec)

/-- 'couponlaw10.NumberChecks', WHERE WHAT IT READS IS OF BULK AT MOST 1048576: true; the input reads as it did. -/
def numberChecksUptoRow : OpenClaim := { program := "ytmofcaclohnmmaa", sum := "75a9e640e00b90881029ff3133a936f466eb1aeedefde3f036843fe48ca2688b", func := "coupon/couponlaw10.NumberChecks", spec := "numberChecks", apart := false, narrowed := true }
def NumberChecksUptoSaid : Prop := numberChecksUptoRow.holds Try.pinned (OpenSpec.upto numberChecksSpec)

end Rows
end Go.Proofs.Ytmofcaclohnmmaa
