/- Records in memory: more words. -/
import Derived.Test.YtmadkfahkbdibaaRec
set_option linter.unusedVariables false
set_option linter.unusedSimpArgs false
namespace Go.Proofs.Ytmadkfahkbdibaa
open Go.RowKit
variable {α : Type} {enc : α → List Value} {n : Nat}
theorem row_one {w : World} {g : Nat} {e : TypeId} {x : α} {cs : Array Value} (hh : w.heap[g]? = some (.cells cs e (0, 0))) (hc : cs = (enc x).toArray) (hn : ∀ x, (enc x).length = n) (hp : 0 < n) : LS enc n w (.slice (some ⟨g, 0, none⟩) 1 1) [x] := by
  subst hc
  have h : RowL enc n w g [x] := RowL.of_block hh hn (by simp [hn]) (by rw [show [x].length * n = n from Nat.one_mul n]; simp [encL, ← hn x])
  exact h.slice hn hp (Nat.le_refl _) (by simp [maxLen])
end Go.Proofs.Ytmadkfahkbdibaa
