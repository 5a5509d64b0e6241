/- Contracts: bytes' digits, of package wire and of the reference. -/
import Derived.Test.YtellhmbebimenaaDoorPb30
import Derived.Test.YtellhmbebimenaaDoorPb35
import Derived.Test.YtellhmbebimenaaDoorPb36
import Derived.BigRegion

set_option linter.unusedSimpArgs false
set_option linter.unusedVariables false
namespace Go.Proofs.YtellhmbebimenaaDoor
open Go.RowKit

/-- 'append(v, x...)' of bytes, in a region that draws its order -/
theorem step_append_bytes {ops : Array Oper} {o : Oper} {a : Act} {K : Act → World → Prop} {Q : Exit → Act → World → Prop} {E : Prop} {w : World} (hgd : o.guard = none) (s x : Operand)
    (ho : o.op = .call { callee := .builtin .append, args := #[s, x], argTypes := #[38, 38] }) (base : Nat) (v : Value) (n : Nat) (xs : List Value) (hs : a.eval s = v) (hown : w.ownsRow base 5 1 v n xs)
    (y : Value) (l : List UInt8) (hx : a.eval x = y) (hb : BS w y l) (hn : n + l.length ≤ 1099511627776) (hbase : base ≤ w.heap.size)
    (h : ∀ v' w', w'.ownsRow base 5 1 v' (n + l.length) (xs ++ bytesV l) → w.grownBy w' v.ownBlock → K (a.put o.dst v') w') :
    if Region.wanted o (yielded ops a.tmps) = true then Oper.wp Tryd.prog o a w K Q else E := by
  have hw : Region.wanted o (yielded ops a.tmps) = true := by simp [Region.wanted, hgd]
  rw [if_pos hw]
  obtain ⟨v', w', hr, g1, g2, _, _⟩ := run_append_bytes w base o.type v n xs hown y l hb hn hbase
  exact Lib.wp_append_run w s x _ _ ho v _ hs hx v' w' hr (h v' w' g1 g2)
theorem row_bytes (w : World) (l : List UInt8) (n : Nat) (hn : l.length = n) (hc : n ≤ maxLen) : BS (w.alloc (.cells (rowB l) 5)) (.slice (some ⟨w.heap.size, 0, none⟩) n n) l := by
  have := BS.of_row (w := w.alloc (.cells (rowB l) 5)) (new_rowW _ _ w.heap.size rfl) 0 n n (by omega) (Nat.le_refl _) hc
  rwa [List.drop_zero, List.take_of_length_le (by omega)] at this
set_option maxRecDepth 10000 in
theorem hex_at (q : Nat) (h : q < 16) (W : World) : (Instr.index 9 (.string ⟨#[48, 49, 50, 51, 52, 53, 54, 55, 56, 57, 97, 98, 99, 100, 101, 102]⟩) (.int .u8 (q : Int))).run Tryd.prog W = .ok (.int .u8 (((Hex.hexd q).toNat : Nat) : Int)) W := by
  rcases (by omega : q = 0 ∨ q = 1 ∨ q = 2 ∨ q = 3 ∨ q = 4 ∨ q = 5 ∨ q = 6 ∨ q = 7 ∨ q = 8 ∨ q = 9 ∨ q = 10 ∨ q = 11 ∨ q = 12 ∨ q = 13 ∨ q = 14 ∨ q = 15) with rfl | rfl | rfl | rfl | rfl | rfl | rfl | rfl | rfl | rfl | rfl | rfl | rfl | rfl | rfl | rfl <;>
    (simp only [Instr.index, run_underlying Tryd.underlying9, asIntOf]; rfl)

end Go.Proofs.YtellhmbebimenaaDoor
