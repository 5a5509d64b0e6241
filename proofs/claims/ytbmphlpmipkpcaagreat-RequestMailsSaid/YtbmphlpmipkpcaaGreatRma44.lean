/- Contracts: posting.Sum and the reference's Sum. -/
import Derived.Test.YtbmphlpmipkpcaaGreatRma43

set_option linter.unusedVariables false
set_option linter.unusedSimpArgs false
namespace Go.Proofs.YtbmphlpmipkpcaaGreat
open Go.ChangeShapes Go.WideShapes Go.ChangeAt Go.RowKit

theorem bset {B : Nat} {a w : World} (h : Below B a w) {p : Addr} (hp : B ≤ p.block) (u : Value) : Below B a (w.setCell p u) := h.setCell hp u
theorem run_index_at {P : Program} {w : World} {t e : TypeId} {n : Nat} {cs : Array Value} {j : Nat} {v : Value} (h : P.underlying t = some (.array n e)) (ha : ∀ w, (isAgg e).run P w = .ok false w) (hz : ∀ w, (sizeOf e).run P w = .ok 1 w)
    (hj : j < n) (hv : cs[j]? = some v) : (Instr.index t (.agg cs) (.int .i64 j)).run P w = .ok v w := by
  simp [Instr.index, run_underlying h, asIntOf, go_sem, part, ha, hz, hj, hv]
theorem run_am_at (am : List Int) (h : am.length = 6) (j : Nat) (hj : j < 6) (W : World) : (Instr.index 211 (.agg (Post.amRow am)) (.int .i64 j)).run Tryz.prog W = .ok (.int .i64 (am.getD j 0)) W :=
  run_index_at Tryz.underlying211 (by intro w; simp [go_sem]) (by intro w; simp [go_sem]) hj (Post.amRow_at (by omega))
def idxSum : List Pst → Int → Int
  | [], _ => -1
  | z :: zs, i => if z.may = true then idxSum zs (i + 1) else i
theorem idxSum_any (zs : List Pst) (i : Int) (hi : 0 ≤ i) : decide (0 ≤ idxSum zs i) = zs.any (fun p => !p.may) := by
  induction zs generalizing i with
  | nil => simp [idxSum]
  | cons z zs ih =>
    unfold idxSum
    by_cases h : z.may = true
    · rw [if_pos h, ih (i + 1) (by omega)]; simp [h]
    · rw [if_neg h]; simp [h, hi]
theorem idxSum_miss {z : Pst} (h : z.may = true) (zs : List Pst) (i : Int) : idxSum (z :: zs) i = idxSum zs (i + 1) := by
  show (if z.may = true then idxSum zs (i + 1) else i) = _
  rw [h]; rfl
theorem idxSum_hit {z : Pst} (h : z.may = false) (zs : List Pst) (i : Int) : idxSum (z :: zs) i = i := by
  show (if z.may = true then idxSum zs (i + 1) else i) = _
  rw [h]; rfl
theorem drop_at {α : Type} {l : List α} {k : Nat} {x : α} (h : l[k]? = some x) : l.drop k = x :: l.drop (k + 1) := by
  obtain ⟨hk, hx⟩ := List.getElem?_eq_some_iff.1 h
  rw [List.drop_eq_getElem_cons hk, hx]

theorem seven_row {w : World} {g : Nat} {t : TypeId} {z0 z1 z2 z3 z4 z5 z6 : Value} (h : w.heap[g]? = some (.cells #[z0, z1, z2, z3, z4, z5, z6] t (0, 0))) (v0 v1 v2 v3 v4 v5 v6 : Value) :
    (((((((w.setCell ⟨g, 0, none⟩ v0).setCell ⟨g, 1, none⟩ v1).setCell ⟨g, 2, none⟩ v2).setCell ⟨g, 3, none⟩ v3).setCell ⟨g, 4, none⟩ v4).setCell ⟨g, 5, none⟩ v5).setCell ⟨g, 6, none⟩ v6).heap[g]? = some (.cells #[v0, v1, v2, v3, v4, v5, v6] t (0, 0)) := by
  rw [heap_setCell_same _ _ _ _ _ _ (heap_setCell_same _ _ _ _ _ _ (heap_setCell_same _ _ _ _ _ _ (heap_setCell_same _ _ _ _ _ _ (heap_setCell_same _ _ _ _ _ _ (heap_setCell_same _ _ _ _ _ _ (heap_setCell_same _ _ _ _ _ _ h))))))]
  rfl
theorem of_pst_any (x : Pst) (w : World) :
    Calls Tryz.prog 151 #[.agg #[.int .i64 x.d, .int .u64 x.t, .int .i64 x.s, .int .i64 x.k, .int .i64 x.a0, .int .i64 x.a1, .int .i64 x.a2, .int .i64 x.a3, .int .i64 x.a4, .int .i64 x.a5]] w
      fun e w' => e = .returned (.agg (Post.amRow x.am)) ∧ Below w.heap.size w w' := of_post_any _ _ _ _ _ _ _ _ _ _ w

end Go.Proofs.YtbmphlpmipkpcaaGreat
