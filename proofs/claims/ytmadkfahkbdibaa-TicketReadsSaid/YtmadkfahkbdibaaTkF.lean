/- What a history's step works on: five variables and two rows. -/
import Derived.Test.YtmadkfahkbdibaaTkE
import Derived.Test.YtmadkfahkbdibaaLater
set_option linter.unusedVariables false
set_option linter.unusedSimpArgs false
namespace Go.Proofs.Ytmadkfahkbdibaa
open Go.RowKit

/-- whole numbers as cells -/
def rowS (l : List Int) : Array Value := (l.map (Value.int .i64)).toArray
theorem rowS_get {l : List Int} {i : Nat} {z : Int} (h : l[i]? = some z) : (rowS l)[i]? = some (.int .i64 z) := by
  unfold rowS; rw [List.getElem?_toArray, List.getElem?_map, h]; rfl
theorem rowS_set (l : List Int) (i : Nat) (z : Int) : (rowS l).setIfInBounds i (.int .i64 z) = rowS (l.set i z) := by
  unfold rowS
  rw [List.setIfInBounds_toArray, List.map_set]
/-- the variables of told: until, now (a slice over nb), good, at, then (a slice over tb) -/
structure Tds (w : World) (au nb an ag aa tb ah : Nat) (n c2 : Nat) (u A : Int) (G : Bool) (now thn : List Int) (sp : List Value) : Prop where
  ru : w.heap[au]? = some (.cells #[.int .i64 u] 3 (0, 0))
  rn : w.heap[nb]? = some (.cells (rowS now) 35 (0, 0))
  ran : w.heap[an]? = some (.cells #[.slice (some ⟨nb, 0, none⟩) n n] 49 (0, 0))
  rg : w.heap[ag]? = some (.cells #[.bool G] 4 (0, 0))
  raa : w.heap[aa]? = some (.cells #[.int .i64 A] 3 (0, 0))
  rt : w.heap[tb]? = some (.cells (thn.map (Value.int .i64) ++ sp).toArray 35 (0, 0))
  rah : w.heap[ah]? = some (.cells #[.slice (some ⟨tb, 0, none⟩) n c2] 49 (0, 0))
  o1 : au < nb
  o2 : nb < an
  o3 : an < ag ∧ an < aa
  o4 : ag ≠ aa
  o5 : ag < tb ∧ aa < tb
  o6 : tb < ah
  ln : now.length = n
  lt : thn.length = n
theorem Tds.below {w w' : World} {au nb an ag aa tb ah n c2 : Nat} {u A : Int} {G : Bool} {now thn : List Int} {sp : List Value} (t : Tds w au nb an ag aa tb ah n c2 u A G now thn sp) (hb : Below w.heap.size w w') : Tds w' au nb an ag aa tb ah n c2 u A G now thn sp :=
  ⟨(hb.block _ (block_lt t.ru)).trans t.ru, (hb.block _ (block_lt t.rn)).trans t.rn, (hb.block _ (block_lt t.ran)).trans t.ran, (hb.block _ (block_lt t.rg)).trans t.rg, (hb.block _ (block_lt t.raa)).trans t.raa, (hb.block _ (block_lt t.rt)).trans t.rt, (hb.block _ (block_lt t.rah)).trans t.rah, t.o1, t.o2, t.o3, t.o4, t.o5, t.o6, t.ln, t.lt⟩
end Go.Proofs.Ytmadkfahkbdibaa
