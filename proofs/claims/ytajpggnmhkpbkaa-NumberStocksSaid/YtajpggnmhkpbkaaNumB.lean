/- Contracts of the two Locator functions: which texts are locators. -/
import Derived.Test.YtajpggnmhkpbkaaNumA
set_option linter.unusedSimpArgs false
set_option linter.unusedVariables false
namespace Go.Proofs.Ytajpggnmhkpbkaa
open Go.RowKit

theorem iter_below (w : World) (s : ByteArray) (p : Nat) : Below w.heap.size w (w.iter s p) := (Below.refl _ _).alloc (Nat.le_refl _) _
theorem width_pos (s : ByteArray) (pos : Nat) (h : pos < s.size) : 1 ≤ (Utf8.decode s pos).2 := by
  by_cases ha : (s[pos]'h).toNat < 128
  · rw [decode_ascii s pos h ha]
    exact Nat.le_refl _
  · exact (decode_high s pos h (by omega)).2
theorem drop_step (s : ByteArray) (k : Nat) (h : k < s.size) : s.data.toList.drop k = s[k] :: s.data.toList.drop (k + 1) := by
  rw [List.drop_eq_getElem_cons (by simpa using h)]; rfl
theorem drop_end (s : ByteArray) (k : Nat) (h : ¬ k < s.size) : s.data.toList.drop k = [] := by
  apply List.drop_eq_nil_of_le; simp; omega

theorem all_step {l r : List UInt8} {c : UInt8} {b : Bool} (h : l = c :: r) (hb : Num.locByte c = b) : l.all Num.locByte = (b && r.all Num.locByte) := by rw [h, List.all_cons, hb]

def iv (c : Int) : Prop := c < 50 ∨ (50 ≤ c ∧ c ≤ 57) ∨ (57 < c ∧ c < 65) ∨ (65 ≤ c ∧ c ≤ 90) ∨ 90 < c
theorem iv_any (c : Int) : c < 50 ∨ (50 ≤ c ∧ c ≤ 57) ∨ (57 < c ∧ c < 65) ∨ (65 ≤ c ∧ c ≤ 90) ∨ 90 < c := by omega

end Go.Proofs.Ytajpggnmhkpbkaa
