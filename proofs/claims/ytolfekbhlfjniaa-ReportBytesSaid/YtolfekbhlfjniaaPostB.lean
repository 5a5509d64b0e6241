/- Contracts of the posting reference: Below, Above, Columns, Amounts, May. -/
import Derived.Test.YtolfekbhlfjniaaPostA
set_option linter.unusedSimpArgs false
set_option linter.unusedVariables false
namespace Go.Proofs.Ytolfekbhlfjniaa
open Go.RowKit

/-- six bools in a new slice -/
def BoolRow (w0 : World) (l : List Bool) (e : Ending) (w' : World) : Prop :=
  ∃ b, w0.heap.size ≤ b ∧ e = .returned (.slice (some ⟨b, 0, none⟩) 6 6) ∧ (∀ j, j < 6 → w'.cell? ⟨b, j, none⟩ = some (.bool (l.getD j false))) ∧ Below w0.heap.size w0 w'

theorem six_cells {P : Nat → Prop} (h0 : P 0) (h1 : P 1) (h2 : P 2) (h3 : P 3) (h4 : P 4) (h5 : P 5) : ∀ j, j < 6 → P j := by
  intro j hj
  rcases (by omega : j = 0 ∨ j = 1 ∨ j = 2 ∨ j = 3 ∨ j = 4 ∨ j = 5) with rfl | rfl | rfl | rfl | rfl | rfl <;> assumption

theorem below6 (w : World) (o0 o1 o2 o3 o4 o5 : Obj) : Below w.heap.size w ((((((w.alloc o0).alloc o1).alloc o2).alloc o3).alloc o4).alloc o5) :=
  ((((((Below.refl _ _).alloc (Nat.le_refl _) _).alloc (by simp) _).alloc (by simp; omega) _).alloc (by simp; omega) _).alloc (by simp; omega) _).alloc (by simp; omega) _

set_option maxHeartbeats 1000000 in
theorem rBelow_any (k : Int) (k1 : 1 ≤ k) (k5 : k ≤ 5) (w : World) :
    Calls Try.prog 108 #[.int .i64 k] w (BoolRow w (Post.belowRow k)) := by
  rcases (by omega : k = 1 ∨ k = 2 ∨ k = 3 ∨ k = 4 ∨ k = 5) with rfl | rfl | rfl | rfl | rfl
  all_goals
    go_enter Try.func108, Try.ntmps108
    go_wp2
    go_ret
  · exact ⟨w.heap.size, by omega, rfl, six_cells (by go_simp; rfl) (by go_simp; rfl) (by go_simp; rfl) (by go_simp; rfl) (by go_simp; rfl) (by go_simp; rfl), below6 _ _ _ _ _ _ _⟩
  · exact ⟨w.heap.size + 1, by omega, rfl, six_cells (by go_simp; rfl) (by go_simp; rfl) (by go_simp; rfl) (by go_simp; rfl) (by go_simp; rfl) (by go_simp; rfl), below6 _ _ _ _ _ _ _⟩
  · exact ⟨w.heap.size + 1 + 1, by omega, rfl, six_cells (by go_simp; rfl) (by go_simp; rfl) (by go_simp; rfl) (by go_simp; rfl) (by go_simp; rfl) (by go_simp; rfl), below6 _ _ _ _ _ _ _⟩
  · exact ⟨w.heap.size + 1 + 1 + 1, by omega, rfl, six_cells (by go_simp; rfl) (by go_simp; rfl) (by go_simp; rfl) (by go_simp; rfl) (by go_simp; rfl) (by go_simp; rfl), below6 _ _ _ _ _ _ _⟩
  · exact ⟨w.heap.size + 1 + 1 + 1 + 1, by omega, rfl, six_cells (by go_simp; rfl) (by go_simp; rfl) (by go_simp; rfl) (by go_simp; rfl) (by go_simp; rfl) (by go_simp; rfl), below6 _ _ _ _ _ _ _⟩
set_option maxHeartbeats 1000000 in
theorem rAbove_any (k : Int) (k1 : 1 ≤ k) (k5 : k ≤ 5) (w : World) :
    Calls Try.prog 109 #[.int .i64 k] w (BoolRow w (Post.aboveRow k)) := by
  rcases (by omega : k = 1 ∨ k = 2 ∨ k = 3 ∨ k = 4 ∨ k = 5) with rfl | rfl | rfl | rfl | rfl
  all_goals
    go_enter Try.func109, Try.ntmps109
    go_wp2
    go_ret
  · exact ⟨w.heap.size, by omega, rfl, six_cells (by go_simp; rfl) (by go_simp; rfl) (by go_simp; rfl) (by go_simp; rfl) (by go_simp; rfl) (by go_simp; rfl), below6 _ _ _ _ _ _ _⟩
  · exact ⟨w.heap.size + 1, by omega, rfl, six_cells (by go_simp; rfl) (by go_simp; rfl) (by go_simp; rfl) (by go_simp; rfl) (by go_simp; rfl) (by go_simp; rfl), below6 _ _ _ _ _ _ _⟩
  · exact ⟨w.heap.size + 1 + 1, by omega, rfl, six_cells (by go_simp; rfl) (by go_simp; rfl) (by go_simp; rfl) (by go_simp; rfl) (by go_simp; rfl) (by go_simp; rfl), below6 _ _ _ _ _ _ _⟩
  · exact ⟨w.heap.size + 1 + 1 + 1, by omega, rfl, six_cells (by go_simp; rfl) (by go_simp; rfl) (by go_simp; rfl) (by go_simp; rfl) (by go_simp; rfl) (by go_simp; rfl), below6 _ _ _ _ _ _ _⟩
  · exact ⟨w.heap.size + 1 + 1 + 1 + 1, by omega, rfl, six_cells (by go_simp; rfl) (by go_simp; rfl) (by go_simp; rfl) (by go_simp; rfl) (by go_simp; rfl) (by go_simp; rfl), below6 _ _ _ _ _ _ _⟩

end Go.Proofs.Ytolfekbhlfjniaa
