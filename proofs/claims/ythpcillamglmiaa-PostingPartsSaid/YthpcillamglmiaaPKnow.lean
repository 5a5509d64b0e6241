/- Small words on worlds; the contract of the posting chapter's rows (known). -/
import Derived.Test.YthpcillamglmiaaPostC
import Derived.Test.YthpcillamglmiaaLift
import Derived.Test.YthpcillamglmiaaLater
set_option linter.unusedVariables false
set_option linter.unusedSimpArgs false
namespace Go.Proofs.Ythpcillamglmiaa
open Go.ChangeShapes Go.WideShapes Go.ChangeAt Go.RowKit

theorem i64_bd {n : Int} (h : (Lit.int .i64 n).wf = true) : -9223372036854775808 ≤ n ∧ n ≤ 9223372036854775807 := by
  simpa [Lit.wf, IntKind.min, IntKind.max, IntKind.signed, IntKind.bits] using h
theorem u64_bd {n : Int} (h : (Lit.int .u64 n).wf = true) : 0 ≤ n ∧ n ≤ 18446744073709551615 := by
  simpa [Lit.wf, IntKind.min, IntKind.max, IntKind.signed, IntKind.bits] using h
theorem balloc {a w : World} (h : Below a.heap.size a w) (o : Obj) : Below a.heap.size a (w.alloc o) := h.alloc h.size o
theorem below_call {a w w' : World} (h : Below a.heap.size a w) (hx : Below w.heap.size w w') : Below a.heap.size a w' := h.trans (hx.mono h.size)

set_option maxHeartbeats 1000000 in
theorem known14_any (w : World) :
    Calls Try.prog 11 #[] w fun e w' => e = .returned (.bool true) ∧ Below w.heap.size w w' := by
  have k0 : Num.mkN 123 1 = 1230000000014 := by decide
  have k1 : Post.may 1 1230000000014 1 1 [1200, -1000, 0, -200, 0, 0] = true := by decide
  have k2 : Post.may 1 1230000000014 2 4 [-900, 1000, 0, 0, -100, 0] = true := by decide
  have k3 : Post.may 1 1230000000014 2 4 [-900, 1000, -100, 0, 0, 0] = false := by decide
  have k4 : Post.may 1 1230000000014 2 5 [5, 0, 0, 0, 0, -5] = false := by decide
  go_enter Try.func11, Try.ntmps11
  go_wp2_with fail
  refine (rMake_any _ _ _).mono ?_
  rintro e w1 ⟨rfl, hb1⟩
  rw [k0]
  go_wp2_with fail
  refine (may_any _ _ _ _ _ _ _ _ _ _ (by decide) (by decide) _).mono ?_
  rintro e w2 ⟨rfl, hb2⟩
  rw [k1]
  have hc2 := (bcell hb2).1
  go_wp2_with fail
  refine (may_any _ _ _ _ _ _ _ _ _ _ (by decide) (by decide) _).mono ?_
  rintro e w3 ⟨rfl, hb3⟩
  rw [k2]
  replace hb2 := below_call hb2 hb3
  clear hc2 hb3
  have hc2 := (bcell hb2).1
  go_wp2_with fail
  refine (may_any _ _ _ _ _ _ _ _ _ _ (by decide) (by decide) _).mono ?_
  rintro e w4 ⟨rfl, hb4⟩
  rw [k3]
  replace hb2 := below_call hb2 hb4
  clear hc2 hb4
  have hc2 := (bcell hb2).1
  go_wp2_with fail
  refine (may_any _ _ _ _ _ _ _ _ _ _ (by decide) (by decide) _).mono ?_
  rintro e w5 ⟨rfl, hb5⟩
  rw [k4]
  replace hb2 := below_call hb2 hb5
  clear hc2
  go_wp2
  go_ret
  exact ⟨rfl, below_call (balloc (balloc (balloc (balloc hb1 _) _) _) _) hb2⟩
end Go.Proofs.Ythpcillamglmiaa
