/-
  No cell of these rows narrows 'for every input' (looked for: loops, veiled, ifaces, maps, wideKeys, modest, calm, conditions, laid).
  DERIVED. THE GIVEN ROWS OF THIS SEAT. 8 by the template 'for every input the law returns true; each argument reads behind the call as it read before'; 0 by the template 'total and deterministic' (their statements: YtbmphlpmipkpcaaGreatTotals.lean).
  GIVEN WITH THE SEED: the statements are not yours to turn. If you find one false, say at which input.
  Laid BY PROGRAM, IN A SANDBOX (cutbox-rows.mjs): the forced cells as the released guide's own fill.sh prints them over the translation 372815c2e0319e0d… (all of the seat's roots in one cut). By AI agents, Wed Nov 11 2026. No macro, syntax, notation, axiom, sorry.
-/
import Derived.Test.YtbmphlpmipkpcaaGreatChecked
import GoSem.Claim
import GoSem.ClaimJoined
import GoSem.ClaimMapViews
import Derived.JoinedTies
import Derived.KernelRfl
namespace Go.Proofs.YtbmphlpmipkpcaaGreat
/- THE CELL 'sum', in the pinned program and in every row, IS THE sha256 OF THE DUMP (.gsa) THAT YtbmphlpmipkpcaaGreatProg.lean LOADS. Nothing in Lean hashes anything: it is a label: what it is worth is what the hold of that sum in a sandbox is worth. -/
noncomputable def Tryz.pinned : Pinned := { name := "ytbmphlpmipkpcaagreat", sum := "372815c2e0319e0dcc8cb278e8d36951a95d071744c3cb08dc81b27820bfe438", checked := Tryz.checked }
namespace Rows
def none {H : Type} : Left H := { results := [], args := [] }

/-- 'couponlaw16.RequestMany': WHATEVER THE INPUT: true; the input reads as it did. -/
def requestManySpec : ChangeSpec := { name := "requestMany", fn := fun _ => fun
  | [d1, d2, d3, d4] => { results := [.lit (.bool true)], args := [d1, d2, d3, d4] }
  | _ => none }
def requestManyRow : OpenClaim := { program := "ytbmphlpmipkpcaagreat", sum := "372815c2e0319e0dcc8cb278e8d36951a95d071744c3cb08dc81b27820bfe438", func := "coupon/couponlaw16.RequestMany", spec := "requestMany", unfollowed := true, recurses := true, apart := false }
def RequestManySaid : Prop := requestManyRow.holds Tryz.pinned (OpenSpec.ofChange requestManySpec)

/-- ITS FALSE NEIGHBOUR: 'it returns false'. Refute it at one input. -/
def requestManyWrong : ChangeSpec := { name := "requestMany", fn := fun _ => fun
  | [d1, d2, d3, d4] => { results := [.lit (.bool false)], args := [d1, d2, d3, d4] }
  | _ => none }
def RequestManyWrongFalsely : Prop := requestManyRow.holds Tryz.pinned (OpenSpec.ofChange requestManyWrong)

/-- 'couponlaw16.RequestTells': WHATEVER THE INPUT: true; the input reads as it did. -/
def requestTellsSpec : ChangeSpec := { name := "requestTells", fn := fun _ => fun
  | [d1, d2, d3, d4] => { results := [.lit (.bool true)], args := [d1, d2, d3, d4] }
  | _ => none }
def requestTellsRow : OpenClaim := { program := "ytbmphlpmipkpcaagreat", sum := "372815c2e0319e0dcc8cb278e8d36951a95d071744c3cb08dc81b27820bfe438", func := "coupon/couponlaw16.RequestTells", spec := "requestTells", unfollowed := true, recurses := true, apart := false }
def RequestTellsSaid : Prop := requestTellsRow.holds Tryz.pinned (OpenSpec.ofChange requestTellsSpec)

/-- ITS FALSE NEIGHBOUR: 'it returns false'. Refute it at one input. -/
def requestTellsWrong : ChangeSpec := { name := "requestTells", fn := fun _ => fun
  | [d1, d2, d3, d4] => { results := [.lit (.bool false)], args := [d1, d2, d3, d4] }
  | _ => none }
def RequestTellsWrongFalsely : Prop := requestTellsRow.holds Tryz.pinned (OpenSpec.ofChange requestTellsWrong)

/-- 'couponlaw16.RequestNames': WHATEVER THE INPUT: true; the input reads as it did. -/
def requestNamesSpec : ChangeSpec := { name := "requestNames", fn := fun _ => fun
  | [d1, d2, d3] => { results := [.lit (.bool true)], args := [d1, d2, d3] }
  | _ => none }
def requestNamesRow : OpenClaim := { program := "ytbmphlpmipkpcaagreat", sum := "372815c2e0319e0dcc8cb278e8d36951a95d071744c3cb08dc81b27820bfe438", func := "coupon/couponlaw16.RequestNames", spec := "requestNames", unfollowed := true, recurses := true, apart := false }
def RequestNamesSaid : Prop := requestNamesRow.holds Tryz.pinned (OpenSpec.ofChange requestNamesSpec)

/-- ITS FALSE NEIGHBOUR: 'it returns false'. Refute it at one input. -/
def requestNamesWrong : ChangeSpec := { name := "requestNames", fn := fun _ => fun
  | [d1, d2, d3] => { results := [.lit (.bool false)], args := [d1, d2, d3] }
  | _ => none }
def RequestNamesWrongFalsely : Prop := requestNamesRow.holds Tryz.pinned (OpenSpec.ofChange requestNamesWrong)

/-- 'couponlaw16.RequestSame': WHATEVER THE INPUT: true; the input reads as it did. -/
def requestSameSpec : ChangeSpec := { name := "requestSame", fn := fun _ => fun
  | [d1, d2, d3, d4] => { results := [.lit (.bool true)], args := [d1, d2, d3, d4] }
  | _ => none }
def requestSameRow : OpenClaim := { program := "ytbmphlpmipkpcaagreat", sum := "372815c2e0319e0dcc8cb278e8d36951a95d071744c3cb08dc81b27820bfe438", func := "coupon/couponlaw16.RequestSame", spec := "requestSame", unfollowed := true, recurses := true, apart := false }
def RequestSameSaid : Prop := requestSameRow.holds Tryz.pinned (OpenSpec.ofChange requestSameSpec)

/-- ITS FALSE NEIGHBOUR: 'it returns false'. Refute it at one input. -/
def requestSameWrong : ChangeSpec := { name := "requestSame", fn := fun _ => fun
  | [d1, d2, d3, d4] => { results := [.lit (.bool false)], args := [d1, d2, d3, d4] }
  | _ => none }
def RequestSameWrongFalsely : Prop := requestSameRow.holds Tryz.pinned (OpenSpec.ofChange requestSameWrong)

/-- 'couponlaw16.RequestForms': WHATEVER THE INPUT: true; the input reads as it did. -/
def requestFormsSpec : ChangeSpec := { name := "requestForms", fn := fun _ => fun
  | [d] => { results := [.lit (.bool true)], args := [d] }
  | _ => none }
def requestFormsRow : OpenClaim := { program := "ytbmphlpmipkpcaagreat", sum := "372815c2e0319e0dcc8cb278e8d36951a95d071744c3cb08dc81b27820bfe438", func := "coupon/couponlaw16.RequestForms", spec := "requestForms", unfollowed := true, recurses := true, apart := false }
def RequestFormsSaid : Prop := requestFormsRow.holds Tryz.pinned (OpenSpec.ofChange requestFormsSpec)

/-- ITS FALSE NEIGHBOUR: 'it returns false'. Refute it at one input. -/
def requestFormsWrong : ChangeSpec := { name := "requestForms", fn := fun _ => fun
  | [d] => { results := [.lit (.bool false)], args := [d] }
  | _ => none }
def RequestFormsWrongFalsely : Prop := requestFormsRow.holds Tryz.pinned (OpenSpec.ofChange requestFormsWrong)

/-- 'couponlaw16.RequestReads': WHATEVER THE INPUT: true; the input reads as it did. -/
def requestReadsSpec : ChangeSpec := { name := "requestReads", fn := fun _ => fun
  | [d] => { results := [.lit (.bool true)], args := [d] }
  | _ => none }
def requestReadsRow : OpenClaim := { program := "ytbmphlpmipkpcaagreat", sum := "372815c2e0319e0dcc8cb278e8d36951a95d071744c3cb08dc81b27820bfe438", func := "coupon/couponlaw16.RequestReads", spec := "requestReads", unfollowed := true, recurses := true, apart := false }
def RequestReadsSaid : Prop := requestReadsRow.holds Tryz.pinned (OpenSpec.ofChange requestReadsSpec)

/-- ITS FALSE NEIGHBOUR: 'it returns false'. Refute it at one input. -/
def requestReadsWrong : ChangeSpec := { name := "requestReads", fn := fun _ => fun
  | [d] => { results := [.lit (.bool false)], args := [d] }
  | _ => none }
def RequestReadsWrongFalsely : Prop := requestReadsRow.holds Tryz.pinned (OpenSpec.ofChange requestReadsWrong)

/-- 'couponlaw16.RequestMails': WHATEVER THE INPUT: true; the input reads as it did. -/
def requestMailsSpec : ChangeSpec := { name := "requestMails", fn := fun _ => fun
  | [d1, d2, d3] => { results := [.lit (.bool true)], args := [d1, d2, d3] }
  | _ => none }
def requestMailsRow : OpenClaim := { program := "ytbmphlpmipkpcaagreat", sum := "372815c2e0319e0dcc8cb278e8d36951a95d071744c3cb08dc81b27820bfe438", func := "coupon/couponlaw16.RequestMails", spec := "requestMails", unfollowed := true, recurses := true, apart := false }
def RequestMailsSaid : Prop := requestMailsRow.holds Tryz.pinned (OpenSpec.ofChange requestMailsSpec)

/-- ITS FALSE NEIGHBOUR: 'it returns false'. Refute it at one input. -/
def requestMailsWrong : ChangeSpec := { name := "requestMails", fn := fun _ => fun
  | [d1, d2, d3] => { results := [.lit (.bool false)], args := [d1, d2, d3] }
  | _ => none }
def RequestMailsWrongFalsely : Prop := requestMailsRow.holds Tryz.pinned (OpenSpec.ofChange requestMailsWrong)

/-- 'couponlaw16.RequestAnswers': WHATEVER THE INPUT: true; the input reads as it did. -/
def requestAnswersSpec : ChangeSpec := { name := "requestAnswers", fn := fun _ => fun
  | [d] => { results := [.lit (.bool true)], args := [d] }
  | _ => none }
def requestAnswersRow : OpenClaim := { program := "ytbmphlpmipkpcaagreat", sum := "372815c2e0319e0dcc8cb278e8d36951a95d071744c3cb08dc81b27820bfe438", func := "coupon/couponlaw16.RequestAnswers", spec := "requestAnswers", unfollowed := true, recurses := true, apart := false }
def RequestAnswersSaid : Prop := requestAnswersRow.holds Tryz.pinned (OpenSpec.ofChange requestAnswersSpec)

/-- ITS FALSE NEIGHBOUR: 'it returns false'. Refute it at one input. -/
def requestAnswersWrong : ChangeSpec := { name := "requestAnswers", fn := fun _ => fun
  | [d] => { results := [.lit (.bool false)], args := [d] }
  | _ => none }
def RequestAnswersWrongFalsely : Prop := requestAnswersRow.holds Tryz.pinned (OpenSpec.ofChange requestAnswersWrong)

/- THE SECOND FORM. 'bulk': how many values and letters a reading holds, each counted each time it is reached (what is shared counts as often as it is met; a slice's spare places count too). A statement '..UptoSaid' is the law's where the arguments, and the package variables that the reading takes, are together of bulk at most 1048576: NARROWER than '..Said'. Prove '..Said' where nothing that the law and all that it calls make is longer than what came in: it says more and counts as full. Else prove '..UptoSaid'. A law counts once. -/
mutual
def uptoBulk {H : Type} : DataW H → Nat
  | .lit (.string bytes) => bytes.length + 1
  | .lit _ => 1
  | .nil => 1
  | .ptr d => uptoBulk d + 1
  | .slice elems spare => uptoBulkAll elems + uptoBulkAll spare + 1
  | .agg parts => uptoBulkAll parts + 1
  | .iface _ d => uptoBulk d + 1
  | .map entries => uptoBulkEntries entries + 1
  | .held _ => 1
def uptoBulkAll {H : Type} : List (DataW H) → Nat
  | [] => 0
  | d :: r => uptoBulk d + uptoBulkAll r
def uptoBulkEntries {H : Type} : List (Lit × DataW H) → Nat
  | [] => 0
  | x :: r => uptoBulkEntry x + uptoBulkEntries r
def uptoBulkEntry {H : Type} : Lit × DataW H → Nat
  | (.string bytes, d) => bytes.length + uptoBulk d + 1
  | (_, d) => uptoBulk d + 1
 end
def uptoSmall : (H : Type) → List (DataW H) → Bool := fun _ ds => decide (uptoBulkAll ds ≤ 1048576)
def OpenSpec.upto (s : _root_.Go.ChangeSpec) : _root_.Go.OpenSpec := { _root_.Go.OpenSpec.ofChange s with cond := some uptoSmall }

/-- 'couponlaw16.RequestMany', WHERE WHAT IT READS IS OF BULK AT MOST 1048576: true; the input reads as it did. -/
def requestManyUptoRow : OpenClaim := { program := "ytbmphlpmipkpcaagreat", sum := "372815c2e0319e0dcc8cb278e8d36951a95d071744c3cb08dc81b27820bfe438", func := "coupon/couponlaw16.RequestMany", spec := "requestMany", unfollowed := true, recurses := true, apart := false, narrowed := true }
def RequestManyUptoSaid : Prop := requestManyUptoRow.holds Tryz.pinned (OpenSpec.upto requestManySpec)

/-- 'couponlaw16.RequestTells', WHERE WHAT IT READS IS OF BULK AT MOST 1048576: true; the input reads as it did. -/
def requestTellsUptoRow : OpenClaim := { program := "ytbmphlpmipkpcaagreat", sum := "372815c2e0319e0dcc8cb278e8d36951a95d071744c3cb08dc81b27820bfe438", func := "coupon/couponlaw16.RequestTells", spec := "requestTells", unfollowed := true, recurses := true, apart := false, narrowed := true }
def RequestTellsUptoSaid : Prop := requestTellsUptoRow.holds Tryz.pinned (OpenSpec.upto requestTellsSpec)

/-- 'couponlaw16.RequestNames', WHERE WHAT IT READS IS OF BULK AT MOST 1048576: true; the input reads as it did. -/
def requestNamesUptoRow : OpenClaim := { program := "ytbmphlpmipkpcaagreat", sum := "372815c2e0319e0dcc8cb278e8d36951a95d071744c3cb08dc81b27820bfe438", func := "coupon/couponlaw16.RequestNames", spec := "requestNames", unfollowed := true, recurses := true, apart := false, narrowed := true }
def RequestNamesUptoSaid : Prop := requestNamesUptoRow.holds Tryz.pinned (OpenSpec.upto requestNamesSpec)

/-- 'couponlaw16.RequestSame', WHERE WHAT IT READS IS OF BULK AT MOST 1048576: true; the input reads as it did. -/
def requestSameUptoRow : OpenClaim := { program := "ytbmphlpmipkpcaagreat", sum := "372815c2e0319e0dcc8cb278e8d36951a95d071744c3cb08dc81b27820bfe438", func := "coupon/couponlaw16.RequestSame", spec := "requestSame", unfollowed := true, recurses := true, apart := false, narrowed := true }
def RequestSameUptoSaid : Prop := requestSameUptoRow.holds Tryz.pinned (OpenSpec.upto requestSameSpec)

/-- 'couponlaw16.RequestForms', WHERE WHAT IT READS IS OF BULK AT MOST 1048576: true; the input reads as it did. -/
def requestFormsUptoRow : OpenClaim := { program := "ytbmphlpmipkpcaagreat", sum := "372815c2e0319e0dcc8cb278e8d36951a95d071744c3cb08dc81b27820bfe438", func := "coupon/couponlaw16.RequestForms", spec := "requestForms", unfollowed := true, recurses := true, apart := false, narrowed := true }
def RequestFormsUptoSaid : Prop := requestFormsUptoRow.holds Tryz.pinned (OpenSpec.upto requestFormsSpec)

/-- 'couponlaw16.RequestReads', WHERE WHAT IT READS IS OF BULK AT MOST 1048576: true; the input reads as it did. -/
def requestReadsUptoRow : OpenClaim := { program := "ytbmphlpmipkpcaagreat", sum := "372815c2e0319e0dcc8cb278e8d36951a95d071744c3cb08dc81b27820bfe438", func := "coupon/couponlaw16.RequestReads", spec := "requestReads", unfollowed := true, recurses := true, apart := false, narrowed := true }
def RequestReadsUptoSaid : Prop := requestReadsUptoRow.holds Tryz.pinned (OpenSpec.upto requestReadsSpec)

/-- 'couponlaw16.RequestMails', WHERE WHAT IT READS IS OF BULK AT MOST 1048576: true; the input reads as it did. -/
def requestMailsUptoRow : OpenClaim := { program := "ytbmphlpmipkpcaagreat", sum := "372815c2e0319e0dcc8cb278e8d36951a95d071744c3cb08dc81b27820bfe438", func := "coupon/couponlaw16.RequestMails", spec := "requestMails", unfollowed := true, recurses := true, apart := false, narrowed := true }
def RequestMailsUptoSaid : Prop := requestMailsUptoRow.holds Tryz.pinned (OpenSpec.upto requestMailsSpec)

/-- 'couponlaw16.RequestAnswers', WHERE WHAT IT READS IS OF BULK AT MOST 1048576: true; the input reads as it did. -/
def requestAnswersUptoRow : OpenClaim := { program := "ytbmphlpmipkpcaagreat", sum := "372815c2e0319e0dcc8cb278e8d36951a95d071744c3cb08dc81b27820bfe438", func := "coupon/couponlaw16.RequestAnswers", spec := "requestAnswers", unfollowed := true, recurses := true, apart := false, narrowed := true }
def RequestAnswersUptoSaid : Prop := requestAnswersUptoRow.holds Tryz.pinned (OpenSpec.upto requestAnswersSpec)

end Rows
end Go.Proofs.YtbmphlpmipkpcaaGreat
