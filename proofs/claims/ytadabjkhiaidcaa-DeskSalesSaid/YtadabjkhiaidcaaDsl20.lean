/- Contracts of the ticket chapter's rows (simple, known). -/
import Derived.Test.YtadabjkhiaidcaaDsl18
import Derived.Test.YtadabjkhiaidcaaDsl5
import Derived.Test.YtadabjkhiaidcaaDsl19

set_option linter.unusedVariables false
set_option linter.unusedSimpArgs false
namespace Go.Proofs.Ytadabjkhiaidcaa
open Go.RowKit

attribute [local go_sem ↓] Tk_execLoad Tk_execStore

attribute [local go_sem] Tk_load Tk_store loL_drew okL_drew there_sc World.there_drew

namespace Tkt
def sT : Tk := ⟨1230000000014, ⟨#[65, 66, 67, 50, 51, 52]⟩, 5, [⟨7, 9, 1000, 1, 0, 0⟩], [], 0, 1230000000014, 1230000000014, 0, 0, []⟩
def sT2 : Tk := ⟨1230000000014, ⟨#[65, 66, 67, 50, 51, 52]⟩, 5, [⟨7, 9, 1000, 9, 126, 0⟩], [], 0, 1230000000014, 1230000000014, 0, 0, [⟨9, 1, 1, 9⟩]⟩
def sT3 : Tk := ⟨1230000000014, ⟨#[65, 66, 67, 50, 51, 52]⟩, 5, [⟨7, 9, 1000, 1, 0, 0⟩], [], 0, 1230000000014, 1230000000014, 0, 0, [⟨9, 1, 1, 9⟩, ⟨9, 1, 9, 1⟩]⟩
theorem s_may : mayB sT = true := by decide +kernel
theorem s_len : (encT sT).length = 79 := by decide +kernel
theorem s_num : Num.mkN 123 1 = 1230000000014 := by decide +kernel
theorem s_e1 : errC sT 1 9 9 124 = 2 := by decide +kernel
theorem s_e2 : errC sT 1 9 9 126 = 0 := by decide +kernel
theorem s_t1 : chgT sT 1 9 9 124 = zTk := by unfold chgT; rw [s_e1]; rfl
theorem s_t2 : chgT sT 1 9 9 126 = sT2 := by unfold chgT; rw [s_e2]; rfl
theorem s_e3 : errC sT2 1 9 1 0 = 0 := by decide +kernel
theorem s_t3 : chgT sT2 1 9 1 0 = sT3 := by unfold chgT; rw [s_e3]; rfl
theorem s_wf (t : Tk) (h : t = sT ∨ t = sT2) : t.wf := by
  rcases h with rfl | rfl
  · constructor <;> simp [sT, U64, I64, Cpn.wf, maxLen]
    decide
  · constructor <;> simp [sT2, U64, I64, Cpn.wf, Evt.wf, maxLen]
    decide
end Tkt
theorem putTk {W : World} {cs : List Value} (h : cs.length = 11) : ((W.alloc (.cells #[.int .u64 0, .string ⟨#[]⟩, .int .i64 0, .slice none 0 0, .slice none 0 0, .int .u64 0, .int .u64 0, .int .u64 0, .int .i64 0, .int .i64 0, .slice none 0 0] 45 (0, 0))).setCells W.heap.size 0 cs).heap[W.heap.size]? = some (.cells cs.toArray 45 (0, 0)) ∧ Below W.heap.size W ((W.alloc (.cells #[.int .u64 0, .string ⟨#[]⟩, .int .i64 0, .slice none 0 0, .slice none 0 0, .int .u64 0, .int .u64 0, .int .u64 0, .int .i64 0, .int .i64 0, .slice none 0 0] 45 (0, 0))).setCells W.heap.size 0 cs) :=
  ⟨setCells_rowT (new_rowW _ _ _ rfl) (by rw [h]; rfl), Only.below ((Below.refl _ _).alloc (Nat.le_refl _) _) (Nat.le_refl _) (by simp) ((Only.refl W.heap.size _).setCells 0 _)⟩
/-- what a call gave, as a ticket in memory -/
theorem TS.of_own {w : World} {base : Nat} {t : Tk} {c x h : Sl} (hw : t.wf) (o1 : w.ownsRow base 37 6 (.slice c.p c.n c.c) t.cs.length (encL Cpn.cells t.cs)) (o2 : w.ownsRow base 56 2 (.slice x.p x.n x.c) t.ts.length (encL Txx.cells t.ts)) (o3 : w.ownsRow base 96 4 (.slice h.p h.n h.c) t.hs.length (encL Evt.cells t.hs)) : TS w t c x h :=
  ⟨LS.of_own o1 Cpn.cells_length (by decide), LS.of_own o2 Txx.cells_length (by decide), LS.of_own o3 Evt.cells_length (by decide), hw⟩
end Go.Proofs.Ytadabjkhiaidcaa
