/-
  No cell of these rows narrows 'for every input' (looked for: loops, veiled, ifaces, maps, wideKeys, modest, calm, conditions, laid).
  DERIVED. THE GIVEN ROWS OF THIS SEAT. 7 by the template 'for every input the law returns true; each argument reads behind the call as it read before'; 0 by the template 'total and deterministic' (their statements: YthpcillamglmiaaTotals.lean).
  GIVEN WITH THE SEED: the statements are not yours to turn. If you find one false, say at which input.
  Laid BY PROGRAM, IN A SANDBOX (cutbox-rows.mjs): the forced cells as the released guide's own fill.sh prints them over the translation 82f0a0f190c08238… (all of the seat's roots in one cut). By AI agents, Wed Nov 11 2026. No macro, syntax, notation, axiom, sorry.
-/
import Derived.Test.YthpcillamglmiaaChecked
import GoSem.Claim
import GoSem.ClaimJoined
import GoSem.ClaimMapViews
import Derived.JoinedTies
import Derived.KernelRfl
namespace Go.Proofs.Ythpcillamglmiaa
/- THE CELL 'sum', in the pinned program and in every row, IS THE sha256 OF THE DUMP (.gsa) THAT YthpcillamglmiaaProg.lean LOADS. Nothing in Lean hashes anything: it is a label: what it is worth is what the hold of that sum in a sandbox is worth. -/
noncomputable def Try.pinned : Pinned := { name := "ythpcillamglmiaa", sum := "82f0a0f190c08238026872f5358a4a6e2e602a8b75dc630da124c70b716bb244", checked := Try.checked }
namespace Rows
def none {H : Type} : Left H := { results := [], args := [] }

/-- 'couponlaw14.PostingKinds': WHATEVER THE INPUT: true; the input reads as it did. -/
def postingKindsSpec : ChangeSpec := { name := "postingKinds", fn := fun _ => fun
  | [d1, d2, d3] => { results := [.lit (.bool true)], args := [d1, d2, d3] }
  | _ => none }
def postingKindsRow : OpenClaim := { program := "ythpcillamglmiaa", sum := "82f0a0f190c08238026872f5358a4a6e2e602a8b75dc630da124c70b716bb244", func := "coupon/couponlaw14.PostingKinds", spec := "postingKinds", unfollowed := true, recurses := true, apart := false }
def PostingKindsSaid : Prop := postingKindsRow.holds Try.pinned (OpenSpec.ofChange postingKindsSpec)

/-- ITS FALSE NEIGHBOUR: 'it returns false'. Refute it at one input. -/
def postingKindsWrong : ChangeSpec := { name := "postingKinds", fn := fun _ => fun
  | [d1, d2, d3] => { results := [.lit (.bool false)], args := [d1, d2, d3] }
  | _ => none }
def PostingKindsWrongFalsely : Prop := postingKindsRow.holds Try.pinned (OpenSpec.ofChange postingKindsWrong)

/-- 'couponlaw14.PostingSums': WHATEVER THE INPUT: true; the input reads as it did. -/
def postingSumsSpec : ChangeSpec := { name := "postingSums", fn := fun _ => fun
  | [d] => { results := [.lit (.bool true)], args := [d] }
  | _ => none }
def postingSumsRow : OpenClaim := { program := "ythpcillamglmiaa", sum := "82f0a0f190c08238026872f5358a4a6e2e602a8b75dc630da124c70b716bb244", func := "coupon/couponlaw14.PostingSums", spec := "postingSums", unfollowed := true, recurses := true, apart := false }
def PostingSumsSaid : Prop := postingSumsRow.holds Try.pinned (OpenSpec.ofChange postingSumsSpec)

/-- ITS FALSE NEIGHBOUR: 'it returns false'. Refute it at one input. -/
def postingSumsWrong : ChangeSpec := { name := "postingSums", fn := fun _ => fun
  | [d] => { results := [.lit (.bool false)], args := [d] }
  | _ => none }
def PostingSumsWrongFalsely : Prop := postingSumsRow.holds Try.pinned (OpenSpec.ofChange postingSumsWrong)

/-- 'couponlaw14.PostingMany': WHATEVER THE INPUT: true; the input reads as it did. -/
def postingManySpec : ChangeSpec := { name := "postingMany", fn := fun _ => fun
  | [d1, d2] => { results := [.lit (.bool true)], args := [d1, d2] }
  | _ => none }
def postingManyRow : OpenClaim := { program := "ythpcillamglmiaa", sum := "82f0a0f190c08238026872f5358a4a6e2e602a8b75dc630da124c70b716bb244", func := "coupon/couponlaw14.PostingMany", spec := "postingMany", unfollowed := true, recurses := true, apart := false }
def PostingManySaid : Prop := postingManyRow.holds Try.pinned (OpenSpec.ofChange postingManySpec)

/-- ITS FALSE NEIGHBOUR: 'it returns false'. Refute it at one input. -/
def postingManyWrong : ChangeSpec := { name := "postingMany", fn := fun _ => fun
  | [d1, d2] => { results := [.lit (.bool false)], args := [d1, d2] }
  | _ => none }
def PostingManyWrongFalsely : Prop := postingManyRow.holds Try.pinned (OpenSpec.ofChange postingManyWrong)

/-- 'couponlaw14.PostingReads': WHATEVER THE INPUT: true; the input reads as it did. -/
def postingReadsSpec : ChangeSpec := { name := "postingReads", fn := fun _ => fun
  | [d] => { results := [.lit (.bool true)], args := [d] }
  | _ => none }
def postingReadsRow : OpenClaim := { program := "ythpcillamglmiaa", sum := "82f0a0f190c08238026872f5358a4a6e2e602a8b75dc630da124c70b716bb244", func := "coupon/couponlaw14.PostingReads", spec := "postingReads", unfollowed := true, recurses := true, apart := false }
def PostingReadsSaid : Prop := postingReadsRow.holds Try.pinned (OpenSpec.ofChange postingReadsSpec)

/-- ITS FALSE NEIGHBOUR: 'it returns false'. Refute it at one input. -/
def postingReadsWrong : ChangeSpec := { name := "postingReads", fn := fun _ => fun
  | [d] => { results := [.lit (.bool false)], args := [d] }
  | _ => none }
def PostingReadsWrongFalsely : Prop := postingReadsRow.holds Try.pinned (OpenSpec.ofChange postingReadsWrong)

/-- 'couponlaw14.PostingOrders': WHATEVER THE INPUT: true; the input reads as it did. -/
def postingOrdersSpec : ChangeSpec := { name := "postingOrders", fn := fun _ => fun
  | [d1, d2, d3] => { results := [.lit (.bool true)], args := [d1, d2, d3] }
  | _ => none }
def postingOrdersRow : OpenClaim := { program := "ythpcillamglmiaa", sum := "82f0a0f190c08238026872f5358a4a6e2e602a8b75dc630da124c70b716bb244", func := "coupon/couponlaw14.PostingOrders", spec := "postingOrders", unfollowed := true, recurses := true, apart := false }
def PostingOrdersSaid : Prop := postingOrdersRow.holds Try.pinned (OpenSpec.ofChange postingOrdersSpec)

/-- ITS FALSE NEIGHBOUR: 'it returns false'. Refute it at one input. -/
def postingOrdersWrong : ChangeSpec := { name := "postingOrders", fn := fun _ => fun
  | [d1, d2, d3] => { results := [.lit (.bool false)], args := [d1, d2, d3] }
  | _ => none }
def PostingOrdersWrongFalsely : Prop := postingOrdersRow.holds Try.pinned (OpenSpec.ofChange postingOrdersWrong)

/-- 'couponlaw14.PostingSorts': WHATEVER THE INPUT: true; the input reads as it did. -/
def postingSortsSpec : ChangeSpec := { name := "postingSorts", fn := fun _ => fun
  | [d] => { results := [.lit (.bool true)], args := [d] }
  | _ => none }
def postingSortsRow : OpenClaim := { program := "ythpcillamglmiaa", sum := "82f0a0f190c08238026872f5358a4a6e2e602a8b75dc630da124c70b716bb244", func := "coupon/couponlaw14.PostingSorts", spec := "postingSorts", unfollowed := true, recurses := true, apart := false }
def PostingSortsSaid : Prop := postingSortsRow.holds Try.pinned (OpenSpec.ofChange postingSortsSpec)

/-- ITS FALSE NEIGHBOUR: 'it returns false'. Refute it at one input. -/
def postingSortsWrong : ChangeSpec := { name := "postingSorts", fn := fun _ => fun
  | [d] => { results := [.lit (.bool false)], args := [d] }
  | _ => none }
def PostingSortsWrongFalsely : Prop := postingSortsRow.holds Try.pinned (OpenSpec.ofChange postingSortsWrong)

/-- 'couponlaw14.PostingParts': WHATEVER THE INPUT: true; the input reads as it did. -/
def postingPartsSpec : ChangeSpec := { name := "postingParts", fn := fun _ => fun
  | [d1, d2] => { results := [.lit (.bool true)], args := [d1, d2] }
  | _ => none }
def postingPartsRow : OpenClaim := { program := "ythpcillamglmiaa", sum := "82f0a0f190c08238026872f5358a4a6e2e602a8b75dc630da124c70b716bb244", func := "coupon/couponlaw14.PostingParts", spec := "postingParts", unfollowed := true, recurses := true, apart := false }
def PostingPartsSaid : Prop := postingPartsRow.holds Try.pinned (OpenSpec.ofChange postingPartsSpec)

/-- ITS FALSE NEIGHBOUR: 'it returns false'. Refute it at one input. -/
def postingPartsWrong : ChangeSpec := { name := "postingParts", fn := fun _ => fun
  | [d1, d2] => { results := [.lit (.bool false)], args := [d1, d2] }
  | _ => none }
def PostingPartsWrongFalsely : Prop := postingPartsRow.holds Try.pinned (OpenSpec.ofChange postingPartsWrong)

/- THE SECOND FORM. 'bulk': how many values and letters a reading holds, each counted each time it is reached (what is shared counts as often as it is met; a slice's spare places count too). A statement '..UptoSaid' is the law's where the arguments, and the package variables that the reading takes, are together of bulk at most 1048576: NARROWER than '..Said'. Prove '..Said' where nothing that the law and all that it calls make is longer than what came in: it says more and counts as full. Else prove '..UptoSaid'. A law counts once. -/
mutual
def uptoBulk {H : Type} : DataW H → Nat
  | .lit (.string bytes) => bytes.length + 1
  | .lit _ => 1
  | .nil => 1
  | .ptr d => uptoBulk d + 1
  | .slice elems spare => uptoBulkAll elems + uptoBulkAll spare + 1
  | .agg parts => uptoBulkAll parts + 1
  | .iface _ d => uptoBulk d + 1
  | .map entries => uptoBulkEntries entries + 1
  | .held _ => 1
def uptoBulkAll {H : Type} : List (DataW H) → Nat
  | [] => 0
  | d :: r => uptoBulk d + uptoBulkAll r
def uptoBulkEntries {H : Type} : List (Lit × DataW H) → Nat
  | [] => 0
  | x :: r => uptoBulkEntry x + uptoBulkEntries r
def uptoBulkEntry {H : Type} : Lit × DataW H → Nat
  | (.string bytes, d) => bytes.length + uptoBulk d + 1
  | (_, d) => uptoBulk d + 1
 end
def uptoSmall : (H : Type) → List (DataW H) → Bool := fun _ ds => decide (uptoBulkAll ds ≤ 1048576)
def OpenSpec.upto (s : _root_.Go.ChangeSpec) : _root_.Go.OpenSpec := { _root_.Go.OpenSpec.ofChange s with cond := some uptoSmall }

/-- 'couponlaw14.PostingKinds', WHERE WHAT IT READS IS OF BULK AT MOST 1048576: true; the input reads as it did. -/
def postingKindsUptoRow : OpenClaim := { program := "ythpcillamglmiaa", sum := "82f0a0f190c08238026872f5358a4a6e2e602a8b75dc630da124c70b716bb244", func := "coupon/couponlaw14.PostingKinds", spec := "postingKinds", unfollowed := true, recurses := true, apart := false, narrowed := true }
def PostingKindsUptoSaid : Prop := postingKindsUptoRow.holds Try.pinned (OpenSpec.upto postingKindsSpec)

/-- 'couponlaw14.PostingSums', WHERE WHAT IT READS IS OF BULK AT MOST 1048576: true; the input reads as it did. -/
def postingSumsUptoRow : OpenClaim := { program := "ythpcillamglmiaa", sum := "82f0a0f190c08238026872f5358a4a6e2e602a8b75dc630da124c70b716bb244", func := "coupon/couponlaw14.PostingSums", spec := "postingSums", unfollowed := true, recurses := true, apart := false, narrowed := true }
def PostingSumsUptoSaid : Prop := postingSumsUptoRow.holds Try.pinned (OpenSpec.upto postingSumsSpec)

/-- 'couponlaw14.PostingMany', WHERE WHAT IT READS IS OF BULK AT MOST 1048576: true; the input reads as it did. -/
def postingManyUptoRow : OpenClaim := { program := "ythpcillamglmiaa", sum := "82f0a0f190c08238026872f5358a4a6e2e602a8b75dc630da124c70b716bb244", func := "coupon/couponlaw14.PostingMany", spec := "postingMany", unfollowed := true, recurses := true, apart := false, narrowed := true }
def PostingManyUptoSaid : Prop := postingManyUptoRow.holds Try.pinned (OpenSpec.upto postingManySpec)

/-- 'couponlaw14.PostingReads', WHERE WHAT IT READS IS OF BULK AT MOST 1048576: true; the input reads as it did. -/
def postingReadsUptoRow : OpenClaim := { program := "ythpcillamglmiaa", sum := "82f0a0f190c08238026872f5358a4a6e2e602a8b75dc630da124c70b716bb244", func := "coupon/couponlaw14.PostingReads", spec := "postingReads", unfollowed := true, recurses := true, apart := false, narrowed := true }
def PostingReadsUptoSaid : Prop := postingReadsUptoRow.holds Try.pinned (OpenSpec.upto postingReadsSpec)

/-- 'couponlaw14.PostingOrders', WHERE WHAT IT READS IS OF BULK AT MOST 1048576: true; the input reads as it did. -/
def postingOrdersUptoRow : OpenClaim := { program := "ythpcillamglmiaa", sum := "82f0a0f190c08238026872f5358a4a6e2e602a8b75dc630da124c70b716bb244", func := "coupon/couponlaw14.PostingOrders", spec := "postingOrders", unfollowed := true, recurses := true, apart := false, narrowed := true }
def PostingOrdersUptoSaid : Prop := postingOrdersUptoRow.holds Try.pinned (OpenSpec.upto postingOrdersSpec)

/-- 'couponlaw14.PostingSorts', WHERE WHAT IT READS IS OF BULK AT MOST 1048576: true; the input reads as it did. -/
def postingSortsUptoRow : OpenClaim := { program := "ythpcillamglmiaa", sum := "82f0a0f190c08238026872f5358a4a6e2e602a8b75dc630da124c70b716bb244", func := "coupon/couponlaw14.PostingSorts", spec := "postingSorts", unfollowed := true, recurses := true, apart := false, narrowed := true }
def PostingSortsUptoSaid : Prop := postingSortsUptoRow.holds Try.pinned (OpenSpec.upto postingSortsSpec)

/-- 'couponlaw14.PostingParts', WHERE WHAT IT READS IS OF BULK AT MOST 1048576: true; the input reads as it did. -/
def postingPartsUptoRow : OpenClaim := { program := "ythpcillamglmiaa", sum := "82f0a0f190c08238026872f5358a4a6e2e602a8b75dc630da124c70b716bb244", func := "coupon/couponlaw14.PostingParts", spec := "postingParts", unfollowed := true, recurses := true, apart := false, narrowed := true }
def PostingPartsUptoSaid : Prop := postingPartsUptoRow.holds Try.pinned (OpenSpec.upto postingPartsSpec)

end Rows
end Go.Proofs.Ythpcillamglmiaa
