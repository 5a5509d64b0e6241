/-
  No cell of these rows narrows 'for every input' (looked for: loops, veiled, ifaces, maps, wideKeys, modest, calm, conditions, laid).
  DERIVED. THE GIVEN ROWS OF THIS SEAT. 8 by the template 'for every input the law returns true; each argument reads behind the call as it read before'; 0 by the template 'total and deterministic' (their statements: YtmadkfahkbdibaaTotals.lean).
  GIVEN WITH THE SEED: the statements are not yours to turn. If you find one false, say at which input.
  Laid BY PROGRAM, IN A SANDBOX (cutbox-rows.mjs): the forced cells as the released guide's own fill.sh prints them over the translation 4627504fa5e528a9… (all of the seat's roots in one cut). By AI agents, Wed Nov 11 2026. No macro, syntax, notation, axiom, sorry.
-/
import Derived.Test.YtmadkfahkbdibaaChecked
import GoSem.Claim
import GoSem.ClaimJoined
import GoSem.ClaimMapViews
import Derived.JoinedTies
import Derived.KernelRfl
namespace Go.Proofs.Ytmadkfahkbdibaa
/- THE CELL 'sum', in the pinned program and in every row, IS THE sha256 OF THE DUMP (.gsa) THAT YtmadkfahkbdibaaProg.lean LOADS. Nothing in Lean hashes anything: it is a label: what it is worth is what the hold of that sum in a sandbox is worth. -/
noncomputable def Try.pinned : Pinned := { name := "ytmadkfahkbdibaa", sum := "4627504fa5e528a94ef52bb03c642a6535c59ed436c991f196fb298e65330ef1", checked := Try.checked }
namespace Rows
def none {H : Type} : Left H := { results := [], args := [] }

/-- 'couponlaw13.TicketChanges': WHATEVER THE INPUT: true; the input reads as it did. -/
def ticketChangesSpec : ChangeSpec := { name := "ticketChanges", fn := fun _ => fun
  | [d1, d2] => { results := [.lit (.bool true)], args := [d1, d2] }
  | _ => none }
def ticketChangesRow : OpenClaim := { program := "ytmadkfahkbdibaa", sum := "4627504fa5e528a94ef52bb03c642a6535c59ed436c991f196fb298e65330ef1", func := "coupon/couponlaw13.TicketChanges", spec := "ticketChanges", unfollowed := true, recurses := true, apart := false }
def TicketChangesSaid : Prop := ticketChangesRow.holds Try.pinned (OpenSpec.ofChange ticketChangesSpec)

/-- ITS FALSE NEIGHBOUR: 'it returns false'. Refute it at one input. -/
def ticketChangesWrong : ChangeSpec := { name := "ticketChanges", fn := fun _ => fun
  | [d1, d2] => { results := [.lit (.bool false)], args := [d1, d2] }
  | _ => none }
def TicketChangesWrongFalsely : Prop := ticketChangesRow.holds Try.pinned (OpenSpec.ofChange ticketChangesWrong)

/-- 'couponlaw13.TicketLast': WHATEVER THE INPUT: true; the input reads as it did. -/
def ticketLastSpec : ChangeSpec := { name := "ticketLast", fn := fun _ => fun
  | [d1, d2] => { results := [.lit (.bool true)], args := [d1, d2] }
  | _ => none }
def ticketLastRow : OpenClaim := { program := "ytmadkfahkbdibaa", sum := "4627504fa5e528a94ef52bb03c642a6535c59ed436c991f196fb298e65330ef1", func := "coupon/couponlaw13.TicketLast", spec := "ticketLast", unfollowed := true, recurses := true, apart := false }
def TicketLastSaid : Prop := ticketLastRow.holds Try.pinned (OpenSpec.ofChange ticketLastSpec)

/-- ITS FALSE NEIGHBOUR: 'it returns false'. Refute it at one input. -/
def ticketLastWrong : ChangeSpec := { name := "ticketLast", fn := fun _ => fun
  | [d1, d2] => { results := [.lit (.bool false)], args := [d1, d2] }
  | _ => none }
def TicketLastWrongFalsely : Prop := ticketLastRow.holds Try.pinned (OpenSpec.ofChange ticketLastWrong)

/-- 'couponlaw13.TicketApart': WHATEVER THE INPUT: true; the input reads as it did. -/
def ticketApartSpec : ChangeSpec := { name := "ticketApart", fn := fun _ => fun
  | [d1, d2] => { results := [.lit (.bool true)], args := [d1, d2] }
  | _ => none }
def ticketApartRow : OpenClaim := { program := "ytmadkfahkbdibaa", sum := "4627504fa5e528a94ef52bb03c642a6535c59ed436c991f196fb298e65330ef1", func := "coupon/couponlaw13.TicketApart", spec := "ticketApart", unfollowed := true, recurses := true, apart := false }
def TicketApartSaid : Prop := ticketApartRow.holds Try.pinned (OpenSpec.ofChange ticketApartSpec)

/-- ITS FALSE NEIGHBOUR: 'it returns false'. Refute it at one input. -/
def ticketApartWrong : ChangeSpec := { name := "ticketApart", fn := fun _ => fun
  | [d1, d2] => { results := [.lit (.bool false)], args := [d1, d2] }
  | _ => none }
def TicketApartWrongFalsely : Prop := ticketApartRow.holds Try.pinned (OpenSpec.ofChange ticketApartWrong)

/-- 'couponlaw13.TicketBytes': WHATEVER THE INPUT: true; the input reads as it did. -/
def ticketBytesSpec : ChangeSpec := { name := "ticketBytes", fn := fun _ => fun
  | [d] => { results := [.lit (.bool true)], args := [d] }
  | _ => none }
def ticketBytesRow : OpenClaim := { program := "ytmadkfahkbdibaa", sum := "4627504fa5e528a94ef52bb03c642a6535c59ed436c991f196fb298e65330ef1", func := "coupon/couponlaw13.TicketBytes", spec := "ticketBytes", unfollowed := true, recurses := true, apart := false }
def TicketBytesSaid : Prop := ticketBytesRow.holds Try.pinned (OpenSpec.ofChange ticketBytesSpec)

/-- ITS FALSE NEIGHBOUR: 'it returns false'. Refute it at one input. -/
def ticketBytesWrong : ChangeSpec := { name := "ticketBytes", fn := fun _ => fun
  | [d] => { results := [.lit (.bool false)], args := [d] }
  | _ => none }
def TicketBytesWrongFalsely : Prop := ticketBytesRow.holds Try.pinned (OpenSpec.ofChange ticketBytesWrong)

/-- 'couponlaw13.TicketReads': WHATEVER THE INPUT: true; the input reads as it did. -/
def ticketReadsSpec : ChangeSpec := { name := "ticketReads", fn := fun _ => fun
  | [d] => { results := [.lit (.bool true)], args := [d] }
  | _ => none }
def ticketReadsRow : OpenClaim := { program := "ytmadkfahkbdibaa", sum := "4627504fa5e528a94ef52bb03c642a6535c59ed436c991f196fb298e65330ef1", func := "coupon/couponlaw13.TicketReads", spec := "ticketReads", unfollowed := true, recurses := true, apart := false }
def TicketReadsSaid : Prop := ticketReadsRow.holds Try.pinned (OpenSpec.ofChange ticketReadsSpec)

/-- ITS FALSE NEIGHBOUR: 'it returns false'. Refute it at one input. -/
def ticketReadsWrong : ChangeSpec := { name := "ticketReads", fn := fun _ => fun
  | [d] => { results := [.lit (.bool false)], args := [d] }
  | _ => none }
def TicketReadsWrongFalsely : Prop := ticketReadsRow.holds Try.pinned (OpenSpec.ofChange ticketReadsWrong)

/-- 'couponlaw15.DeskSales': WHATEVER THE INPUT: true; the input reads as it did. -/
def deskSalesSpec : ChangeSpec := { name := "deskSales", fn := fun _ => fun
  | [d1, d2, d3, d4, d5, d6] => { results := [.lit (.bool true)], args := [d1, d2, d3, d4, d5, d6] }
  | _ => none }
def deskSalesRow : OpenClaim := { program := "ytmadkfahkbdibaa", sum := "4627504fa5e528a94ef52bb03c642a6535c59ed436c991f196fb298e65330ef1", func := "coupon/couponlaw15.DeskSales", spec := "deskSales", unfollowed := true, recurses := true, apart := false }
def DeskSalesSaid : Prop := deskSalesRow.holds Try.pinned (OpenSpec.ofChange deskSalesSpec)

/-- ITS FALSE NEIGHBOUR: 'it returns false'. Refute it at one input. -/
def deskSalesWrong : ChangeSpec := { name := "deskSales", fn := fun _ => fun
  | [d1, d2, d3, d4, d5, d6] => { results := [.lit (.bool false)], args := [d1, d2, d3, d4, d5, d6] }
  | _ => none }
def DeskSalesWrongFalsely : Prop := deskSalesRow.holds Try.pinned (OpenSpec.ofChange deskSalesWrong)

/-- 'couponlaw13.TicketTells': WHATEVER THE INPUT: true; the input reads as it did. -/
def ticketTellsSpec : ChangeSpec := { name := "ticketTells", fn := fun _ => fun
  | [d1, d2, d3] => { results := [.lit (.bool true)], args := [d1, d2, d3] }
  | _ => none }
def ticketTellsRow : OpenClaim := { program := "ytmadkfahkbdibaa", sum := "4627504fa5e528a94ef52bb03c642a6535c59ed436c991f196fb298e65330ef1", func := "coupon/couponlaw13.TicketTells", spec := "ticketTells", unfollowed := true, recurses := true, apart := false }
def TicketTellsSaid : Prop := ticketTellsRow.holds Try.pinned (OpenSpec.ofChange ticketTellsSpec)

/-- ITS FALSE NEIGHBOUR: 'it returns false'. Refute it at one input. -/
def ticketTellsWrong : ChangeSpec := { name := "ticketTells", fn := fun _ => fun
  | [d1, d2, d3] => { results := [.lit (.bool false)], args := [d1, d2, d3] }
  | _ => none }
def TicketTellsWrongFalsely : Prop := ticketTellsRow.holds Try.pinned (OpenSpec.ofChange ticketTellsWrong)

/-- 'couponlaw15.DeskBounds': WHATEVER THE INPUT: true; the input reads as it did. -/
def deskBoundsSpec : ChangeSpec := { name := "deskBounds", fn := fun _ => fun
  | [] => { results := [.lit (.bool true)], args := [] }
  | _ => none }
def deskBoundsRow : OpenClaim := { program := "ytmadkfahkbdibaa", sum := "4627504fa5e528a94ef52bb03c642a6535c59ed436c991f196fb298e65330ef1", func := "coupon/couponlaw15.DeskBounds", spec := "deskBounds", unfollowed := true, recurses := true, apart := false }
def DeskBoundsSaid : Prop := deskBoundsRow.holds Try.pinned (OpenSpec.ofChange deskBoundsSpec)

/-- ITS FALSE NEIGHBOUR: 'it returns false'. Refute it at one input. -/
def deskBoundsWrong : ChangeSpec := { name := "deskBounds", fn := fun _ => fun
  | [] => { results := [.lit (.bool false)], args := [] }
  | _ => none }
def DeskBoundsWrongFalsely : Prop := deskBoundsRow.holds Try.pinned (OpenSpec.ofChange deskBoundsWrong)

/- THE SECOND FORM. 'bulk': how many values and letters a reading holds, each counted each time it is reached (what is shared counts as often as it is met; a slice's spare places count too). A statement '..UptoSaid' is the law's where the arguments, and the package variables that the reading takes, are together of bulk at most 1048576: NARROWER than '..Said'. Prove '..Said' where nothing that the law and all that it calls make is longer than what came in: it says more and counts as full. Else prove '..UptoSaid'. A law counts once. -/
mutual
def uptoBulk {H : Type} : DataW H → Nat
  | .lit (.string bytes) => bytes.length + 1
  | .lit _ => 1
  | .nil => 1
  | .ptr d => uptoBulk d + 1
  | .slice elems spare => uptoBulkAll elems + uptoBulkAll spare + 1
  | .agg parts => uptoBulkAll parts + 1
  | .iface _ d => uptoBulk d + 1
  | .map entries => uptoBulkEntries entries + 1
  | .held _ => 1
def uptoBulkAll {H : Type} : List (DataW H) → Nat
  | [] => 0
  | d :: r => uptoBulk d + uptoBulkAll r
def uptoBulkEntries {H : Type} : List (Lit × DataW H) → Nat
  | [] => 0
  | x :: r => uptoBulkEntry x + uptoBulkEntries r
def uptoBulkEntry {H : Type} : Lit × DataW H → Nat
  | (.string bytes, d) => bytes.length + uptoBulk d + 1
  | (_, d) => uptoBulk d + 1
 end
def uptoSmall : (H : Type) → List (DataW H) → Bool := fun _ ds => decide (uptoBulkAll ds ≤ 1048576)
def OpenSpec.upto (s : _root_.Go.ChangeSpec) : _root_.Go.OpenSpec := { _root_.Go.OpenSpec.ofChange s with cond := some uptoSmall }

/-- 'couponlaw13.TicketChanges', WHERE WHAT IT READS IS OF BULK AT MOST 1048576: true; the input reads as it did. -/
def ticketChangesUptoRow : OpenClaim := { program := "ytmadkfahkbdibaa", sum := "4627504fa5e528a94ef52bb03c642a6535c59ed436c991f196fb298e65330ef1", func := "coupon/couponlaw13.TicketChanges", spec := "ticketChanges", unfollowed := true, recurses := true, apart := false, narrowed := true }
def TicketChangesUptoSaid : Prop := ticketChangesUptoRow.holds Try.pinned (OpenSpec.upto ticketChangesSpec)

/-- 'couponlaw13.TicketLast', WHERE WHAT IT READS IS OF BULK AT MOST 1048576: true; the input reads as it did. -/
def ticketLastUptoRow : OpenClaim := { program := "ytmadkfahkbdibaa", sum := "4627504fa5e528a94ef52bb03c642a6535c59ed436c991f196fb298e65330ef1", func := "coupon/couponlaw13.TicketLast", spec := "ticketLast", unfollowed := true, recurses := true, apart := false, narrowed := true }
def TicketLastUptoSaid : Prop := ticketLastUptoRow.holds Try.pinned (OpenSpec.upto ticketLastSpec)

/-- 'couponlaw13.TicketApart', WHERE WHAT IT READS IS OF BULK AT MOST 1048576: true; the input reads as it did. -/
def ticketApartUptoRow : OpenClaim := { program := "ytmadkfahkbdibaa", sum := "4627504fa5e528a94ef52bb03c642a6535c59ed436c991f196fb298e65330ef1", func := "coupon/couponlaw13.TicketApart", spec := "ticketApart", unfollowed := true, recurses := true, apart := false, narrowed := true }
def TicketApartUptoSaid : Prop := ticketApartUptoRow.holds Try.pinned (OpenSpec.upto ticketApartSpec)

/-- 'couponlaw13.TicketBytes', WHERE WHAT IT READS IS OF BULK AT MOST 1048576: true; the input reads as it did. -/
def ticketBytesUptoRow : OpenClaim := { program := "ytmadkfahkbdibaa", sum := "4627504fa5e528a94ef52bb03c642a6535c59ed436c991f196fb298e65330ef1", func := "coupon/couponlaw13.TicketBytes", spec := "ticketBytes", unfollowed := true, recurses := true, apart := false, narrowed := true }
def TicketBytesUptoSaid : Prop := ticketBytesUptoRow.holds Try.pinned (OpenSpec.upto ticketBytesSpec)

/-- 'couponlaw13.TicketReads', WHERE WHAT IT READS IS OF BULK AT MOST 1048576: true; the input reads as it did. -/
def ticketReadsUptoRow : OpenClaim := { program := "ytmadkfahkbdibaa", sum := "4627504fa5e528a94ef52bb03c642a6535c59ed436c991f196fb298e65330ef1", func := "coupon/couponlaw13.TicketReads", spec := "ticketReads", unfollowed := true, recurses := true, apart := false, narrowed := true }
def TicketReadsUptoSaid : Prop := ticketReadsUptoRow.holds Try.pinned (OpenSpec.upto ticketReadsSpec)

/-- 'couponlaw15.DeskSales', WHERE WHAT IT READS IS OF BULK AT MOST 1048576: true; the input reads as it did. -/
def deskSalesUptoRow : OpenClaim := { program := "ytmadkfahkbdibaa", sum := "4627504fa5e528a94ef52bb03c642a6535c59ed436c991f196fb298e65330ef1", func := "coupon/couponlaw15.DeskSales", spec := "deskSales", unfollowed := true, recurses := true, apart := false, narrowed := true }
def DeskSalesUptoSaid : Prop := deskSalesUptoRow.holds Try.pinned (OpenSpec.upto deskSalesSpec)

/-- 'couponlaw13.TicketTells', WHERE WHAT IT READS IS OF BULK AT MOST 1048576: true; the input reads as it did. -/
def ticketTellsUptoRow : OpenClaim := { program := "ytmadkfahkbdibaa", sum := "4627504fa5e528a94ef52bb03c642a6535c59ed436c991f196fb298e65330ef1", func := "coupon/couponlaw13.TicketTells", spec := "ticketTells", unfollowed := true, recurses := true, apart := false, narrowed := true }
def TicketTellsUptoSaid : Prop := ticketTellsUptoRow.holds Try.pinned (OpenSpec.upto ticketTellsSpec)

/-- 'couponlaw15.DeskBounds', WHERE WHAT IT READS IS OF BULK AT MOST 1048576: true; the input reads as it did. -/
def deskBoundsUptoRow : OpenClaim := { program := "ytmadkfahkbdibaa", sum := "4627504fa5e528a94ef52bb03c642a6535c59ed436c991f196fb298e65330ef1", func := "coupon/couponlaw15.DeskBounds", spec := "deskBounds", unfollowed := true, recurses := true, apart := false, narrowed := true }
def DeskBoundsUptoSaid : Prop := deskBoundsUptoRow.holds Try.pinned (OpenSpec.upto deskBoundsSpec)

end Rows
end Go.Proofs.Ytmadkfahkbdibaa
