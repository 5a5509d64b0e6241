/- Contracts: the reference's Amounts, May and Sum. A record of ten cells in a block of its own: written whole. -/
import Derived.Test.YtellhmbebimenaaDoorLr33
import Derived.Deep.RegionWith
import Derived.Test.YtellhmbebimenaaDoorLr1
import Derived.Deep.RegionHeld3

section
set_option linter.unusedVariables false
set_option linter.unusedSimpArgs false
namespace Go.Proofs.YtellhmbebimenaaDoor
open Go.ChangeShapes Go.WideShapes Go.ChangeAt Go.RowKit

theorem new_row (w : World) (o : Obj) (n : Nat) (hn : n = w.heap.size) : (w.alloc o).heap[n]? = some o := by
  subst hn
  show (w.heap.push o)[w.heap.size]? = _
  simp

set_option maxHeartbeats 400000 in
theorem rAmounts_any (d t s k a0 a1 a2 a3 a4 a5 : Int) (w : World) :
    Calls Tryd.prog 67 #[.agg #[.int .i64 d, .int .u64 t, .int .i64 s, .int .i64 k, .int .i64 a0, .int .i64 a1, .int .i64 a2, .int .i64 a3, .int .i64 a4, .int .i64 a5]] w
      fun e w' => ∃ b, b < w'.heap.size ∧ e = .returned (.slice (some ⟨b, 0, none⟩) 6 6) ∧ w'.heap[b]? = some (.cells (Post.amRow [a0, a1, a2, a3, a4, a5]) 2 (0, 0)) ∧ Below w.heap.size w w' := by
  go_enter Tryd.func67, Tryd.ntmps67
  go_wp2
  go_ret
  exact ⟨_, by simp, rfl, new_row _ _ _ (by simp), balloc (balloc (Below.refl _ _) _) _⟩

theorem may_parts {d t s k : Int} {am : List Int} : Post.may d t s k am = (decide (1 ≤ k) && decide (k ≤ 5) && Post.cols k am && decide (0 ≤ d) && decide (d ≤ 1000000) && decide (1 ≤ s) && decide (s ≤ 200) && decide (Num.check t = 0)) := rfl

set_option maxHeartbeats 1000000 in
theorem rMay_any (d t s k a0 a1 a2 a3 a4 a5 : Int) (ht0 : 0 ≤ t) (ht1 : t ≤ 18446744073709551615) (w : World) :
    Calls Tryd.prog 24 #[.agg #[.int .i64 d, .int .u64 t, .int .i64 s, .int .i64 k, .int .i64 a0, .int .i64 a1, .int .i64 a2, .int .i64 a3, .int .i64 a4, .int .i64 a5]] w
      fun e w' => e = .returned (.bool (Post.may d t s k [a0, a1, a2, a3, a4, a5])) ∧ Below w.heap.size w w' := by
  have HC := Lib.hid (fun W => rCheck_any t ht0 ht1 W)
  have HM : Hid (∀ b, (∀ k1 : 1 ≤ k, ∀ k5 : k ≤ 5, ∀ d0 : 0 ≤ d, ∀ d1 : d ≤ 1000000, ∀ s1 : 1 ≤ s, ∀ s2 : s ≤ 200, Num.check t = 0 → b = Post.cols k [a0, a1, a2, a3, a4, a5]) → (¬ (1 ≤ k ∧ k ≤ 5 ∧ 0 ≤ d ∧ d ≤ 1000000 ∧ 1 ≤ s ∧ s ≤ 200 ∧ Num.check t = 0) → b = false) → b = Post.may d t s k [a0, a1, a2, a3, a4, a5]) := Lib.hid (by
    intro b h1 h2
    rw [may_parts]
    by_cases h : 1 ≤ k ∧ k ≤ 5 ∧ 0 ≤ d ∧ d ≤ 1000000 ∧ 1 ≤ s ∧ s ≤ 200 ∧ Num.check t = 0
    · obtain ⟨g1, g2, g3, g4, g5, g6, g7⟩ := h
      rw [h1 g1 g2 g3 g4 g5 g6 g7]; simp [*]
    · rw [h2 h]
      symm
      rw [Bool.eq_false_iff]
      intro hh
      simp only [Bool.and_eq_true, decide_eq_true_eq] at hh
      exact h ⟨hh.1.1.1.1.1.1.1, hh.1.1.1.1.1.1.2, hh.1.1.1.1.2, hh.1.1.1.2, hh.1.1.2, hh.1.2, hh.2⟩)
  generalize Post.may d t s k [a0, a1, a2, a3, a4, a5] = mm at *
  generalize Num.check t = ck at *
  have key : d < 0 ∨ 0 ≤ d ∧ 1000000 < d ∨ 0 ≤ d ∧ d ≤ 1000000 ∧ ck ≠ 0 ∨ 0 ≤ d ∧ d ≤ 1000000 ∧ ck = 0 ∧ s < 1 ∨ 0 ≤ d ∧ d ≤ 1000000 ∧ ck = 0 ∧ 1 ≤ s ∧ 200 < s ∨
    0 ≤ d ∧ d ≤ 1000000 ∧ ck = 0 ∧ 1 ≤ s ∧ s ≤ 200 ∧ k < 1 ∨ 0 ≤ d ∧ d ≤ 1000000 ∧ ck = 0 ∧ 1 ≤ s ∧ s ≤ 200 ∧ 1 ≤ k ∧ 5 < k ∨ 0 ≤ d ∧ d ≤ 1000000 ∧ ck = 0 ∧ 1 ≤ s ∧ s ≤ 200 ∧ 1 ≤ k ∧ k ≤ 5 := by omega
  rcases key with h | ⟨h0, h⟩ | ⟨h0, h1, h⟩ | ⟨h0, h1, h2, h⟩ | ⟨h0, h1, h2, h3, h⟩ | ⟨h0, h1, h2, h3, h4, h⟩ | ⟨h0, h1, h2, h3, h4, h5, h⟩ | ⟨h0, h1, h2, h3, h4, h5, h⟩
  · have HF := Lib.hid (HM.out false (fun _ _ _ _ _ _ _ => by omega) (fun _ => rfl))
    go_enter Tryd.func24, Tryd.ntmps24
    go_wp2
    go_ret
    exact ⟨ret_bool HF.out, balloc (Below.refl _ _) _⟩
  · have HF := Lib.hid (HM.out false (fun _ _ _ _ _ _ _ => by omega) (fun _ => rfl))
    go_enter Tryd.func24, Tryd.ntmps24
    go_wp2
    go_ret
    exact ⟨ret_bool HF.out, balloc (Below.refl _ _) _⟩
  · have HF := Lib.hid (HM.out false (fun _ _ _ _ _ _ _ => by omega) (fun _ => rfl))
    go_enter Tryd.func24, Tryd.ntmps24
    go_wp2_with fail
    refine (HC.out _).mono ?_
    rintro e w1 ⟨rfl, hb1⟩
    go_wp2
    go_ret
    exact ⟨ret_bool HF.out, below_call (balloc (Below.refl _ _) _) hb1⟩
  all_goals
    subst h2
    first
      | (have HF := Lib.hid (HM.out false (fun _ _ _ _ _ _ _ => by omega) (fun _ => rfl))
         go_enter Tryd.func24, Tryd.ntmps24
         go_wp2_with fail
         refine (HC.out _).mono ?_
         rintro e w1 ⟨rfl, hb1⟩
         have hz1 : w.heap.size < w1.heap.size := by have := hb1.size; simp at this; omega
         have hc1 := (bcell hb1).1
         go_wp2
         go_ret
         exact ⟨ret_bool HF.out, below_call (balloc (Below.refl _ _) _) hb1⟩)
      | skip
  have HF := Lib.hid (HM.out _ (fun _ _ _ _ _ _ _ => rfl) (fun hn => absurd ⟨h5, h, h0, h1, h3, h4, rfl⟩ hn))
  go_enter Tryd.func24, Tryd.ntmps24
  go_wp2_with fail
  refine (HC.out _).mono ?_
  rintro e w1 ⟨rfl, hb1⟩
  have hz1 : w.heap.size < w1.heap.size := by have := hb1.size; simp at this; omega
  have hc1 := (bcell hb1).1
  have HB1 := Lib.hid (below_call (balloc (Below.refl w.heap.size w) _) hb1)
  generalize hcol : Post.cols k [a0, a1, a2, a3, a4, a5] = cc at *
  have HCC := Lib.hid hcol; clear hcol
  have hck : ∀ j, w1.cell? ⟨w.heap.size, j, none⟩ = (#[.int .i64 d, .int .u64 t, .int .i64 s, .int .i64 k, .int .i64 a0, .int .i64 a1, .int .i64 a2, .int .i64 a3, .int .i64 a4, .int .i64 a5] : Array Value)[j]? := by
    intro j
    rw [hc1 w.heap.size j (by simp)]
    exact World.cell?_alloc_mark w _ _ (0, 0) j
  have HCK := Lib.hid hck
  clear hc1 hb1
  go_wp2_with fail
  have HAM := Lib.hid (fun W => rAmounts_any d t s k a0 a1 a2 a3 a4 a5 W)
  have HCO := Lib.hid (fun b (W : World) (hb : b < W.heap.size) (hr : W.heap[b]? = some (.cells (Post.amRow [a0, a1, a2, a3, a4, a5]) 2 (0, 0))) =>
    HCC.out ▸ rColumns_any k [a0, a1, a2, a3, a4, a5] 6 b 0 h5 h rfl (by omega) W hb (fun i hi => by rw [Nat.zero_add, cell_of_row W b i _ _ _ hr]; exact Post.amRow_at hi))
  go_region_with (first
    | (go_at_call 67; refine (HAM.out _).mono ?_; rintro e w2 ⟨b2, hs2, rfl, hr2, hb2⟩; have hc2 : ∀ j, w2.cell? ⟨w.heap.size, j, none⟩ = (#[.int .i64 d, .int .u64 t, .int .i64 s, .int .i64 k, .int .i64 a0, .int .i64 a1, .int .i64 a2, .int .i64 a3, .int .i64 a4, .int .i64 a5] : Array Value)[j]? := fun j => (hb2.cell (p := ⟨w.heap.size, j, none⟩) (by exact hz1)).trans (HCK.out j))
    | (go_at_call 66; refine (HCO.out b2 _ (by assumption) (by assumption)).mono ?_; rintro e w3 ⟨rfl, hb3⟩))
  all_goals
    have HB3 := Lib.hid (below_call (HB1.out.drew.trans (hb2.mono HB1.out.size)) hb3)
    go_wp2
    go_ret
    exact ⟨ret_bool HF.out, HB3.out⟩

theorem row_set_far {w : World} {g g' : Nat} {o : Option Obj} (h : w.heap[g']? = o) (hn : g' ≠ g) (i : Nat) (v : Value) : (w.setCell ⟨g, i, none⟩ v).heap[g']? = o := (heap_setCell_other w ⟨g, i, none⟩ g' v hn).trans h
theorem seven_far {w : World} {g g' : Nat} {o : Option Obj} (h : w.heap[g']? = o) (hn : g' ≠ g) (v0 v1 v2 v3 v4 v5 v6 : Value) :
    (((((((w.setCell ⟨g, 0, none⟩ v0).setCell ⟨g, 1, none⟩ v1).setCell ⟨g, 2, none⟩ v2).setCell ⟨g, 3, none⟩ v3).setCell ⟨g, 4, none⟩ v4).setCell ⟨g, 5, none⟩ v5).setCell ⟨g, 6, none⟩ v6).heap[g']? = o :=
  row_set_far (row_set_far (row_set_far (row_set_far (row_set_far (row_set_far (row_set_far h hn _ _) hn _ _) hn _ _) hn _ _) hn _ _) hn _ _) hn _ _
theorem row_alloc {w : World} {g : Nat} {ob : Obj} (h : w.heap[g]? = some ob) (o : Obj) : (w.alloc o).heap[g]? = some ob := by
  have hlt : g < w.heap.size := by
    rcases Nat.lt_or_ge g w.heap.size with h1 | h1
    · exact h1
    · rw [Array.getElem?_eq_none h1] at h; cases h
  exact (Below.heap_alloc w o g hlt).trans h
theorem seven_below {B : Nat} {a w : World} {g : Nat} (h : Below B a w) (hp : B ≤ g) (v0 v1 v2 v3 v4 v5 v6 : Value) :
    Below B a (((((((w.setCell ⟨g, 0, none⟩ v0).setCell ⟨g, 1, none⟩ v1).setCell ⟨g, 2, none⟩ v2).setCell ⟨g, 3, none⟩ v3).setCell ⟨g, 4, none⟩ v4).setCell ⟨g, 5, none⟩ v5).setCell ⟨g, 6, none⟩ v6) :=
  bset (bset (bset (bset (bset (bset (bset h hp _) hp _) hp _) hp _) hp _) hp _) hp _

end Go.Proofs.YtellhmbebimenaaDoor
end

section
set_option linter.unusedVariables false
set_option linter.unusedSimpArgs false
namespace Go.Proofs.YtellhmbebimenaaDoor
open Go.RowKit

theorem ten_row {w : World} {g : Nat} {t : TypeId} {z0 z1 z2 z3 z4 z5 z6 z7 z8 z9 : Value} (h : w.heap[g]? = some (.cells #[z0, z1, z2, z3, z4, z5, z6, z7, z8, z9] t (0, 0))) (v0 v1 v2 v3 v4 v5 v6 v7 v8 v9 : Value) :
    ((((((((((w.setCell ⟨g, 0, none⟩ v0).setCell ⟨g, 1, none⟩ v1).setCell ⟨g, 2, none⟩ v2).setCell ⟨g, 3, none⟩ v3).setCell ⟨g, 4, none⟩ v4).setCell ⟨g, 5, none⟩ v5).setCell ⟨g, 6, none⟩ v6).setCell ⟨g, 7, none⟩ v7).setCell ⟨g, 8, none⟩ v8).setCell ⟨g, 9, none⟩ v9).heap[g]? = some (.cells #[v0, v1, v2, v3, v4, v5, v6, v7, v8, v9] t (0, 0)) := by
  rw [heap_setCell_same _ _ _ _ _ _ (heap_setCell_same _ _ _ _ _ _ (heap_setCell_same _ _ _ _ _ _ (heap_setCell_same _ _ _ _ _ _ (heap_setCell_same _ _ _ _ _ _ (heap_setCell_same _ _ _ _ _ _ (heap_setCell_same _ _ _ _ _ _ (heap_setCell_same _ _ _ _ _ _ (heap_setCell_same _ _ _ _ _ _ (heap_setCell_same _ _ _ _ _ _ h)))))))))]
  simp only [List.setIfInBounds_toArray, List.set_cons_succ, List.set_cons_zero]
theorem ten_below {w a : World} {B g : Nat} (h : Below B a w) (hg : B ≤ g) (v0 v1 v2 v3 v4 v5 v6 v7 v8 v9 : Value) : Below B a ((((((((((w.setCell ⟨g, 0, none⟩ v0).setCell ⟨g, 1, none⟩ v1).setCell ⟨g, 2, none⟩ v2).setCell ⟨g, 3, none⟩ v3).setCell ⟨g, 4, none⟩ v4).setCell ⟨g, 5, none⟩ v5).setCell ⟨g, 6, none⟩ v6).setCell ⟨g, 7, none⟩ v7).setCell ⟨g, 8, none⟩ v8).setCell ⟨g, 9, none⟩ v9) :=
  (((((((((h.setCell (p := ⟨g, 0, none⟩) hg v0).setCell (p := ⟨g, 1, none⟩) hg v1).setCell (p := ⟨g, 2, none⟩) hg v2).setCell (p := ⟨g, 3, none⟩) hg v3).setCell (p := ⟨g, 4, none⟩) hg v4).setCell (p := ⟨g, 5, none⟩) hg v5).setCell (p := ⟨g, 6, none⟩) hg v6).setCell (p := ⟨g, 7, none⟩) hg v7).setCell (p := ⟨g, 8, none⟩) hg v8).setCell (p := ⟨g, 9, none⟩) hg v9

end Go.Proofs.YtellhmbebimenaaDoor
end
