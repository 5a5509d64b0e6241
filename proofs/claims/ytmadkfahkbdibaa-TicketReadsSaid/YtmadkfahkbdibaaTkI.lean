/- What a history's step writes: five variables and two rows. -/
import Derived.Test.YtmadkfahkbdibaaTkF
set_option linter.unusedVariables false
set_option linter.unusedSimpArgs false
namespace Go.Proofs.Ytmadkfahkbdibaa
open Go.RowKit

section
variable {w : World} {au nb an ag aa tb ah n c2 : Nat} {u A : Int} {G : Bool} {now thn : List Int} {sp : List Value}
theorem Tds.drew (t : Tds w au nb an ag aa tb ah n c2 u A G now thn sp) : Tds w.drew au nb an ag aa tb ah n c2 u A G now thn sp := t.below (Below.refl _ _).drew
theorem Tds.setG (t : Tds w au nb an ag aa tb ah n c2 u A G now thn sp) (q : Bool) : Tds (w.setCell ⟨ag, 0, none⟩ (.bool q)) au nb an ag aa tb ah n c2 u A q now thn sp := by
  obtain ⟨ru, rn, ran, rg, raa, rt, rah, o1, o2, o3, o4, o5, o6, ln, lt⟩ := t
  exact ⟨(heap_setCell_other _ _ _ _ (by dsimp only; omega)).trans ru, (heap_setCell_other _ _ _ _ (by dsimp only; omega)).trans rn, (heap_setCell_other _ _ _ _ (by dsimp only; omega)).trans ran, heap_setCell_same _ _ _ _ _ _ rg, (heap_setCell_other _ _ _ _ (by dsimp only; omega)).trans raa, (heap_setCell_other _ _ _ _ (by dsimp only; omega)).trans rt, (heap_setCell_other _ _ _ _ (by dsimp only; omega)).trans rah, o1, o2, o3, o4, o5, o6, ln, lt⟩
theorem Tds.setA (t : Tds w au nb an ag aa tb ah n c2 u A G now thn sp) (q : Int) : Tds (w.setCell ⟨aa, 0, none⟩ (.int .i64 q)) au nb an ag aa tb ah n c2 u q G now thn sp := by
  obtain ⟨ru, rn, ran, rg, raa, rt, rah, o1, o2, o3, o4, o5, o6, ln, lt⟩ := t
  exact ⟨(heap_setCell_other _ _ _ _ (by dsimp only; omega)).trans ru, (heap_setCell_other _ _ _ _ (by dsimp only; omega)).trans rn, (heap_setCell_other _ _ _ _ (by dsimp only; omega)).trans ran, (heap_setCell_other _ _ _ _ (by dsimp only; omega)).trans rg, heap_setCell_same _ _ _ _ _ _ raa, (heap_setCell_other _ _ _ _ (by dsimp only; omega)).trans rt, (heap_setCell_other _ _ _ _ (by dsimp only; omega)).trans rah, o1, o2, o3, o4, o5, o6, ln, lt⟩
theorem Tds.setN (t : Tds w au nb an ag aa tb ah n c2 u A G now thn sp) (i : Nat) (q : Int) : Tds (w.setCell ⟨nb, i, none⟩ (.int .i64 q)) au nb an ag aa tb ah n c2 u A G (now.set i q) thn sp := by
  obtain ⟨ru, rn, ran, rg, raa, rt, rah, o1, o2, o3, o4, o5, o6, ln, lt⟩ := t
  exact ⟨(heap_setCell_other _ _ _ _ (by dsimp only; omega)).trans ru, (heap_setCell_same _ _ _ _ _ _ rn).trans (by rw [rowS_set]), (heap_setCell_other _ _ _ _ (by dsimp only; omega)).trans ran, (heap_setCell_other _ _ _ _ (by dsimp only; omega)).trans rg, (heap_setCell_other _ _ _ _ (by dsimp only; omega)).trans raa, (heap_setCell_other _ _ _ _ (by dsimp only; omega)).trans rt, (heap_setCell_other _ _ _ _ (by dsimp only; omega)).trans rah, o1, o2, o3, o4, o5, o6, by rw [List.length_set]; exact ln, lt⟩
theorem Tds.setT (t : Tds w au nb an ag aa tb ah n c2 u A G now thn sp) (i : Nat) (hi : i < n) (q : Int) : Tds (w.setCell ⟨tb, i, none⟩ (.int .i64 q)) au nb an ag aa tb ah n c2 u A G now (thn.set i q) sp := by
  obtain ⟨ru, rn, ran, rg, raa, rt, rah, o1, o2, o3, o4, o5, o6, ln, lt⟩ := t
  exact ⟨(heap_setCell_other _ _ _ _ (by dsimp only; omega)).trans ru, (heap_setCell_other _ _ _ _ (by dsimp only; omega)).trans rn, (heap_setCell_other _ _ _ _ (by dsimp only; omega)).trans ran, (heap_setCell_other _ _ _ _ (by dsimp only; omega)).trans rg, (heap_setCell_other _ _ _ _ (by dsimp only; omega)).trans raa, (heap_setCell_same _ _ _ _ _ _ rt).trans (by
    rw [List.setIfInBounds_toArray, List.set_append_left _ _ (by rw [List.length_map]; omega), List.map_set]), (heap_setCell_other _ _ _ _ (by dsimp only; omega)).trans rah, o1, o2, o3, o4, o5, o6, ln, by rw [List.length_set]; exact lt⟩
end
end Go.Proofs.Ytmadkfahkbdibaa
