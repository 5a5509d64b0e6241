/- The wire chapter's rows (known), and small words on worlds. -/
import Derived.Test.YtmadkfahkbdibaaWirD
set_option linter.unusedVariables false
set_option linter.unusedSimpArgs false
namespace Go.Proofs.Ytmadkfahkbdibaa
open Go.RowKit

theorem new_writer (w : World) : IsW (w.alloc (.cells #[.slice none 0 0, .int .i64 0, .bool false] 106 (0, 0))) w.heap.size w.heap.size 0 (some []) :=
  ⟨Nat.le_refl _, .slice none 0 0, [], [], new_rowW _ _ _ rfl, rfl, rfl, Nat.le_refl _, World.ownsRow_nil _ _ _ _, fun i x b h => by simp at h⟩
theorem i64_bdW {n : Int} (h : (Lit.int .i64 n).wf = true) : -9223372036854775808 ≤ n ∧ n ≤ 9223372036854775807 := by
  simpa [Lit.wf, IntKind.min, IntKind.max, IntKind.signed, IntKind.bits] using h
theorem u64_bdW {n : Int} (h : (Lit.int .u64 n).wf = true) : 0 ≤ n ∧ n ≤ 18446744073709551615 := by
  simpa [Lit.wf, IntKind.min, IntKind.max, IntKind.signed, IntKind.bits] using h
theorem ballocW {a w : World} (h : Below a.heap.size a w) (o : Obj) : Below a.heap.size a (w.alloc o) := h.alloc h.size o
theorem below_callW {a w w' : World} (h : Below a.heap.size a w) (hx : Below w.heap.size w w') : Below a.heap.size a w' := h.trans (hx.mono h.size)