/- Contracts: the reference's Amounts, May and Sum. A record of ten cells in a block of its own: written whole. Contracts: cmp.Compare, cmp.Or, posting.order, Less, Same; the reference's Ahead. -/
import Derived.Test.YtellhmbebimenaaDoorRt10
import Derived.Deep.RegionWith
import Derived.Test.YtellhmbebimenaaDoorRt1
import Derived.Deep.RegionHeld3
import Derived.Deep.QuietTactic
import Derived.BigQuiet

section
set_option linter.unusedVariables false
set_option linter.unusedSimpArgs false
namespace Go.Proofs.YtellhmbebimenaaDoor
open Go.ChangeShapes Go.WideShapes Go.ChangeAt Go.RowKit

theorem new_row (w : World) (o : Obj) (n : Nat) (hn : n = w.heap.size) : (w.alloc o).heap[n]? = some o := by
  subst hn
  show (w.heap.push o)[w.heap.size]? = _
  simp

set_option maxHeartbeats 400000 in
theorem rAmounts_any (d t s k a0 a1 a2 a3 a4 a5 : Int) (w : World) :
    Calls Tryd.prog 67 #[.agg #[.int .i64 d, .int .u64 t, .int .i64 s, .int .i64 k, .int .i64 a0, .int .i64 a1, .int .i64 a2, .int .i64 a3, .int .i64 a4, .int .i64 a5]] w
      fun e w' => ∃ b, b < w'.heap.size ∧ e = .returned (.slice (some ⟨b, 0, none⟩) 6 6) ∧ w'.heap[b]? = some (.cells (Post.amRow [a0, a1, a2, a3, a4, a5]) 2 (0, 0)) ∧ Below w.heap.size w w' := by
  go_enter Tryd.func67, Tryd.ntmps67
  go_wp2
  go_ret
  exact ⟨_, by simp, rfl, new_row _ _ _ (by simp), balloc (balloc (Below.refl _ _) _) _⟩

theorem may_parts {d t s k : Int} {am : List Int} : Post.may d t s k am = (decide (1 ≤ k) && decide (k ≤ 5) && Post.cols k am && decide (0 ≤ d) && decide (d ≤ 1000000) && decide (1 ≤ s) && decide (s ≤ 200) && decide (Num.check t = 0)) := rfl

set_option maxHeartbeats 1000000 in
theorem rMay_any (d t s k a0 a1 a2 a3 a4 a5 : Int) (ht0 : 0 ≤ t) (ht1 : t ≤ 18446744073709551615) (w : World) :
    Calls Tryd.prog 24 #[.agg #[.int .i64 d, .int .u64 t, .int .i64 s, .int .i64 k, .int .i64 a0, .int .i64 a1, .int .i64 a2, .int .i64 a3, .int .i64 a4, .int .i64 a5]] w
      fun e w' => e = .returned (.bool (Post.may d t s k [a0, a1, a2, a3, a4, a5])) ∧ Below w.heap.size w w' := by
  have HC := Lib.hid (fun W => rCheck_any t ht0 ht1 W)
  have HM : Hid (∀ b, (∀ k1 : 1 ≤ k, ∀ k5 : k ≤ 5, ∀ d0 : 0 ≤ d, ∀ d1 : d ≤ 1000000, ∀ s1 : 1 ≤ s, ∀ s2 : s ≤ 200, Num.check t = 0 → b = Post.cols k [a0, a1, a2, a3, a4, a5]) → (¬ (1 ≤ k ∧ k ≤ 5 ∧ 0 ≤ d ∧ d ≤ 1000000 ∧ 1 ≤ s ∧ s ≤ 200 ∧ Num.check t = 0) → b = false) → b = Post.may d t s k [a0, a1, a2, a3, a4, a5]) := Lib.hid (by
    intro b h1 h2
    rw [may_parts]
    by_cases h : 1 ≤ k ∧ k ≤ 5 ∧ 0 ≤ d ∧ d ≤ 1000000 ∧ 1 ≤ s ∧ s ≤ 200 ∧ Num.check t = 0
    · obtain ⟨g1, g2, g3, g4, g5, g6, g7⟩ := h
      rw [h1 g1 g2 g3 g4 g5 g6 g7]; simp [*]
    · rw [h2 h]
      symm
      rw [Bool.eq_false_iff]
      intro hh
      simp only [Bool.and_eq_true, decide_eq_true_eq] at hh
      exact h ⟨hh.1.1.1.1.1.1.1, hh.1.1.1.1.1.1.2, hh.1.1.1.1.2, hh.1.1.1.2, hh.1.1.2, hh.1.2, hh.2⟩)
  generalize Post.may d t s k [a0, a1, a2, a3, a4, a5] = mm at *
  generalize Num.check t = ck at *
  have key : d < 0 ∨ 0 ≤ d ∧ 1000000 < d ∨ 0 ≤ d ∧ d ≤ 1000000 ∧ ck ≠ 0 ∨ 0 ≤ d ∧ d ≤ 1000000 ∧ ck = 0 ∧ s < 1 ∨ 0 ≤ d ∧ d ≤ 1000000 ∧ ck = 0 ∧ 1 ≤ s ∧ 200 < s ∨
    0 ≤ d ∧ d ≤ 1000000 ∧ ck = 0 ∧ 1 ≤ s ∧ s ≤ 200 ∧ k < 1 ∨ 0 ≤ d ∧ d ≤ 1000000 ∧ ck = 0 ∧ 1 ≤ s ∧ s ≤ 200 ∧ 1 ≤ k ∧ 5 < k ∨ 0 ≤ d ∧ d ≤ 1000000 ∧ ck = 0 ∧ 1 ≤ s ∧ s ≤ 200 ∧ 1 ≤ k ∧ k ≤ 5 := by omega
  rcases key with h | ⟨h0, h⟩ | ⟨h0, h1, h⟩ | ⟨h0, h1, h2, h⟩ | ⟨h0, h1, h2, h3, h⟩ | ⟨h0, h1, h2, h3, h4, h⟩ | ⟨h0, h1, h2, h3, h4, h5, h⟩ | ⟨h0, h1, h2, h3, h4, h5, h⟩
  · have HF := Lib.hid (HM.out false (fun _ _ _ _ _ _ _ => by omega) (fun _ => rfl))
    go_enter Tryd.func24, Tryd.ntmps24
    go_wp2
    go_ret
    exact ⟨ret_bool HF.out, balloc (Below.refl _ _) _⟩
  · have HF := Lib.hid (HM.out false (fun _ _ _ _ _ _ _ => by omega) (fun _ => rfl))
    go_enter Tryd.func24, Tryd.ntmps24
    go_wp2
    go_ret
    exact ⟨ret_bool HF.out, balloc (Below.refl _ _) _⟩
  · have HF := Lib.hid (HM.out false (fun _ _ _ _ _ _ _ => by omega) (fun _ => rfl))
    go_enter Tryd.func24, Tryd.ntmps24
    go_wp2_with fail
    refine (HC.out _).mono ?_
    rintro e w1 ⟨rfl, hb1⟩
    go_wp2
    go_ret
    exact ⟨ret_bool HF.out, below_call (balloc (Below.refl _ _) _) hb1⟩
  all_goals
    subst h2
    first
      | (have HF := Lib.hid (HM.out false (fun _ _ _ _ _ _ _ => by omega) (fun _ => rfl))
         go_enter Tryd.func24, Tryd.ntmps24
         go_wp2_with fail
         refine (HC.out _).mono ?_
         rintro e w1 ⟨rfl, hb1⟩
         have hz1 : w.heap.size < w1.heap.size := by have := hb1.size; simp at this; omega
         have hc1 := (bcell hb1).1
         go_wp2
         go_ret
         exact ⟨ret_bool HF.out, below_call (balloc (Below.refl _ _) _) hb1⟩)
      | skip
  have HF := Lib.hid (HM.out _ (fun _ _ _ _ _ _ _ => rfl) (fun hn => absurd ⟨h5, h, h0, h1, h3, h4, rfl⟩ hn))
  go_enter Tryd.func24, Tryd.ntmps24
  go_wp2_with fail
  refine (HC.out _).mono ?_
  rintro e w1 ⟨rfl, hb1⟩
  have hz1 : w.heap.size < w1.heap.size := by have := hb1.size; simp at this; omega
  have hc1 := (bcell hb1).1
  have HB1 := Lib.hid (below_call (balloc (Below.refl w.heap.size w) _) hb1)
  generalize hcol : Post.cols k [a0, a1, a2, a3, a4, a5] = cc at *
  have HCC := Lib.hid hcol; clear hcol
  have hck : ∀ j, w1.cell? ⟨w.heap.size, j, none⟩ = (#[.int .i64 d, .int .u64 t, .int .i64 s, .int .i64 k, .int .i64 a0, .int .i64 a1, .int .i64 a2, .int .i64 a3, .int .i64 a4, .int .i64 a5] : Array Value)[j]? := by
    intro j
    rw [hc1 w.heap.size j (by simp)]
    exact World.cell?_alloc_mark w _ _ (0, 0) j
  have HCK := Lib.hid hck
  clear hc1 hb1
  go_wp2_with fail
  have HAM := Lib.hid (fun W => rAmounts_any d t s k a0 a1 a2 a3 a4 a5 W)
  have HCO := Lib.hid (fun b (W : World) (hb : b < W.heap.size) (hr : W.heap[b]? = some (.cells (Post.amRow [a0, a1, a2, a3, a4, a5]) 2 (0, 0))) =>
    HCC.out ▸ rColumns_any k [a0, a1, a2, a3, a4, a5] 6 b 0 h5 h rfl (by omega) W hb (fun i hi => by rw [Nat.zero_add, cell_of_row W b i _ _ _ hr]; exact Post.amRow_at hi))
  go_region_with (first
    | (go_at_call 67; refine (HAM.out _).mono ?_; rintro e w2 ⟨b2, hs2, rfl, hr2, hb2⟩; have hc2 : ∀ j, w2.cell? ⟨w.heap.size, j, none⟩ = (#[.int .i64 d, .int .u64 t, .int .i64 s, .int .i64 k, .int .i64 a0, .int .i64 a1, .int .i64 a2, .int .i64 a3, .int .i64 a4, .int .i64 a5] : Array Value)[j]? := fun j => (hb2.cell (p := ⟨w.heap.size, j, none⟩) (by exact hz1)).trans (HCK.out j))
    | (go_at_call 66; refine (HCO.out b2 _ (by assumption) (by assumption)).mono ?_; rintro e w3 ⟨rfl, hb3⟩))
  all_goals
    have HB3 := Lib.hid (below_call (HB1.out.drew.trans (hb2.mono HB1.out.size)) hb3)
    go_wp2
    go_ret
    exact ⟨ret_bool HF.out, HB3.out⟩

theorem row_set_far {w : World} {g g' : Nat} {o : Option Obj} (h : w.heap[g']? = o) (hn : g' ≠ g) (i : Nat) (v : Value) : (w.setCell ⟨g, i, none⟩ v).heap[g']? = o := (heap_setCell_other w ⟨g, i, none⟩ g' v hn).trans h
theorem seven_far {w : World} {g g' : Nat} {o : Option Obj} (h : w.heap[g']? = o) (hn : g' ≠ g) (v0 v1 v2 v3 v4 v5 v6 : Value) :
    (((((((w.setCell ⟨g, 0, none⟩ v0).setCell ⟨g, 1, none⟩ v1).setCell ⟨g, 2, none⟩ v2).setCell ⟨g, 3, none⟩ v3).setCell ⟨g, 4, none⟩ v4).setCell ⟨g, 5, none⟩ v5).setCell ⟨g, 6, none⟩ v6).heap[g']? = o :=
  row_set_far (row_set_far (row_set_far (row_set_far (row_set_far (row_set_far (row_set_far h hn _ _) hn _ _) hn _ _) hn _ _) hn _ _) hn _ _) hn _ _
theorem row_alloc {w : World} {g : Nat} {ob : Obj} (h : w.heap[g]? = some ob) (o : Obj) : (w.alloc o).heap[g]? = some ob := by
  have hlt : g < w.heap.size := by
    rcases Nat.lt_or_ge g w.heap.size with h1 | h1
    · exact h1
    · rw [Array.getElem?_eq_none h1] at h; cases h
  exact (Below.heap_alloc w o g hlt).trans h
theorem seven_below {B : Nat} {a w : World} {g : Nat} (h : Below B a w) (hp : B ≤ g) (v0 v1 v2 v3 v4 v5 v6 : Value) :
    Below B a (((((((w.setCell ⟨g, 0, none⟩ v0).setCell ⟨g, 1, none⟩ v1).setCell ⟨g, 2, none⟩ v2).setCell ⟨g, 3, none⟩ v3).setCell ⟨g, 4, none⟩ v4).setCell ⟨g, 5, none⟩ v5).setCell ⟨g, 6, none⟩ v6) :=
  bset (bset (bset (bset (bset (bset (bset h hp _) hp _) hp _) hp _) hp _) hp _) hp _

end Go.Proofs.YtellhmbebimenaaDoor
end

section
set_option linter.unusedVariables false
set_option linter.unusedSimpArgs false
namespace Go.Proofs.YtellhmbebimenaaDoor
open Go.RowKit

theorem ten_row {w : World} {g : Nat} {t : TypeId} {z0 z1 z2 z3 z4 z5 z6 z7 z8 z9 : Value} (h : w.heap[g]? = some (.cells #[z0, z1, z2, z3, z4, z5, z6, z7, z8, z9] t (0, 0))) (v0 v1 v2 v3 v4 v5 v6 v7 v8 v9 : Value) :
    ((((((((((w.setCell ⟨g, 0, none⟩ v0).setCell ⟨g, 1, none⟩ v1).setCell ⟨g, 2, none⟩ v2).setCell ⟨g, 3, none⟩ v3).setCell ⟨g, 4, none⟩ v4).setCell ⟨g, 5, none⟩ v5).setCell ⟨g, 6, none⟩ v6).setCell ⟨g, 7, none⟩ v7).setCell ⟨g, 8, none⟩ v8).setCell ⟨g, 9, none⟩ v9).heap[g]? = some (.cells #[v0, v1, v2, v3, v4, v5, v6, v7, v8, v9] t (0, 0)) := by
  rw [heap_setCell_same _ _ _ _ _ _ (heap_setCell_same _ _ _ _ _ _ (heap_setCell_same _ _ _ _ _ _ (heap_setCell_same _ _ _ _ _ _ (heap_setCell_same _ _ _ _ _ _ (heap_setCell_same _ _ _ _ _ _ (heap_setCell_same _ _ _ _ _ _ (heap_setCell_same _ _ _ _ _ _ (heap_setCell_same _ _ _ _ _ _ (heap_setCell_same _ _ _ _ _ _ h)))))))))]
  simp only [List.setIfInBounds_toArray, List.set_cons_succ, List.set_cons_zero]
theorem ten_below {w a : World} {B g : Nat} (h : Below B a w) (hg : B ≤ g) (v0 v1 v2 v3 v4 v5 v6 v7 v8 v9 : Value) : Below B a ((((((((((w.setCell ⟨g, 0, none⟩ v0).setCell ⟨g, 1, none⟩ v1).setCell ⟨g, 2, none⟩ v2).setCell ⟨g, 3, none⟩ v3).setCell ⟨g, 4, none⟩ v4).setCell ⟨g, 5, none⟩ v5).setCell ⟨g, 6, none⟩ v6).setCell ⟨g, 7, none⟩ v7).setCell ⟨g, 8, none⟩ v8).setCell ⟨g, 9, none⟩ v9) :=
  (((((((((h.setCell (p := ⟨g, 0, none⟩) hg v0).setCell (p := ⟨g, 1, none⟩) hg v1).setCell (p := ⟨g, 2, none⟩) hg v2).setCell (p := ⟨g, 3, none⟩) hg v3).setCell (p := ⟨g, 4, none⟩) hg v4).setCell (p := ⟨g, 5, none⟩) hg v5).setCell (p := ⟨g, 6, none⟩) hg v6).setCell (p := ⟨g, 7, none⟩) hg v7).setCell (p := ⟨g, 8, none⟩) hg v8).setCell (p := ⟨g, 9, none⟩) hg v9

end Go.Proofs.YtellhmbebimenaaDoor
end

section
set_option linter.unusedVariables false
set_option linter.unusedSimpArgs false
namespace Go.Proofs.YtellhmbebimenaaDoor
open Go.RowKit

theorem isNaNU_any (x : Int) (w : World) : Calls Tryd.prog 183 #[.int .u64 x] w fun e w' => e = .returned (.bool false) ∧ w = w' := by
  go_enter Tryd.func183, Tryd.ntmps183
  go_wp2
  go_ret
  exact ⟨ret_bool (by simp), rfl⟩
theorem isNaNI_any (x : Int) (w : World) : Calls Tryd.prog 184 #[.int .i64 x] w fun e w' => e = .returned (.bool false) ∧ w = w' := by
  go_enter Tryd.func184, Tryd.ntmps184
  go_wp2
  go_ret
  exact ⟨ret_bool (by simp), rfl⟩
def cmpI (x y : Int) : Int := if x < y then -1 else if y < x then 1 else 0
set_option maxHeartbeats 400000 in
theorem cmpU_any (x y : Int) (w : World) : Calls Tryd.prog 176 #[.int .u64 x, .int .u64 y] w fun e w' => e = .returned (.int .i64 (cmpI x y)) ∧ w = w' := by
  have key : ∀ r, cmpI x y = r → Calls Tryd.prog 176 #[.int .u64 x, .int .u64 y] w fun e w' => e = .returned (.int .i64 r) ∧ w = w' := by
    intro r hr
    unfold cmpI at hr
    rcases (by omega : x < y ∨ (¬ x < y ∧ y < x) ∨ (¬ x < y ∧ ¬ y < x)) with h | ⟨h, h'⟩ | ⟨h, h'⟩
    · rw [if_pos h] at hr
      subst hr
      go_enter Tryd.func176, Tryd.ntmps176
      go_wp2_with fail
      refine (isNaNU_any _ _).mono ?_
      rintro e w1 ⟨rfl, rfl⟩
      go_wp2_with fail
      refine (isNaNU_any _ _).mono ?_
      rintro e w1 ⟨rfl, rfl⟩
      go_wp2
      go_ret
      exact ⟨rfl, rfl⟩
    · rw [if_neg h, if_pos h'] at hr
      subst hr
      go_enter Tryd.func176, Tryd.ntmps176
      go_wp2_with fail
      refine (isNaNU_any _ _).mono ?_
      rintro e w1 ⟨rfl, rfl⟩
      go_wp2_with fail
      refine (isNaNU_any _ _).mono ?_
      rintro e w1 ⟨rfl, rfl⟩
      go_wp2
      go_ret
      exact ⟨rfl, rfl⟩
    · rw [if_neg h, if_neg h'] at hr
      subst hr
      go_enter Tryd.func176, Tryd.ntmps176
      go_wp2_with fail
      refine (isNaNU_any _ _).mono ?_
      rintro e w1 ⟨rfl, rfl⟩
      go_wp2_with fail
      refine (isNaNU_any _ _).mono ?_
      rintro e w1 ⟨rfl, rfl⟩
      go_wp2
      go_ret
      exact ⟨rfl, rfl⟩
  exact key _ rfl
set_option maxHeartbeats 400000 in
theorem cmpI_any (x y : Int) (w : World) : Calls Tryd.prog 177 #[.int .i64 x, .int .i64 y] w fun e w' => e = .returned (.int .i64 (cmpI x y)) ∧ w = w' := by
  have key : ∀ r, cmpI x y = r → Calls Tryd.prog 177 #[.int .i64 x, .int .i64 y] w fun e w' => e = .returned (.int .i64 r) ∧ w = w' := by
    intro r hr
    unfold cmpI at hr
    rcases (by omega : x < y ∨ (¬ x < y ∧ y < x) ∨ (¬ x < y ∧ ¬ y < x)) with h | ⟨h, h'⟩ | ⟨h, h'⟩
    · rw [if_pos h] at hr
      subst hr
      go_enter Tryd.func177, Tryd.ntmps177
      go_wp2_with fail
      refine (isNaNI_any _ _).mono ?_
      rintro e w1 ⟨rfl, rfl⟩
      go_wp2_with fail
      refine (isNaNI_any _ _).mono ?_
      rintro e w1 ⟨rfl, rfl⟩
      go_wp2
      go_ret
      exact ⟨rfl, rfl⟩
    · rw [if_neg h, if_pos h'] at hr
      subst hr
      go_enter Tryd.func177, Tryd.ntmps177
      go_wp2_with fail
      refine (isNaNI_any _ _).mono ?_
      rintro e w1 ⟨rfl, rfl⟩
      go_wp2_with fail
      refine (isNaNI_any _ _).mono ?_
      rintro e w1 ⟨rfl, rfl⟩
      go_wp2
      go_ret
      exact ⟨rfl, rfl⟩
    · rw [if_neg h, if_neg h'] at hr
      subst hr
      go_enter Tryd.func177, Tryd.ntmps177
      go_wp2_with fail
      refine (isNaNI_any _ _).mono ?_
      rintro e w1 ⟨rfl, rfl⟩
      go_wp2_with fail
      refine (isNaNI_any _ _).mono ?_
      rintro e w1 ⟨rfl, rfl⟩
      go_wp2
      go_ret
      exact ⟨rfl, rfl⟩
  exact key _ rfl
/-- the first of two that is not 0 -/
def orI (a c : Int) : Int := if a = 0 then c else a
set_option maxHeartbeats 400000 in
theorem or_any (a c : Int) (b : Nat) (w : World) (h0 : w.cell? ⟨b, 0, none⟩ = some (.int .i64 a)) (h1 : w.cell? ⟨b, 1, none⟩ = some (.int .i64 c)) :
    Calls Tryd.prog 175 #[.slice (some ⟨b, 0, none⟩) 2 2] w fun e w' => e = .returned (.int .i64 (orI a c)) ∧ w = w' := by
  go_enter Tryd.func175, Tryd.ntmps175
  go_wp2_with fail
  go_loopw [8] (fun i wr => wr = w ∧ ∃ k : Nat, k ≤ 2 ∧ i = .int .i64 k ∧ (1 ≤ k → a = 0) ∧ (2 ≤ k → c = 0)) (fun i _ => 2 - (intOf i).toNat)
  case atStart => exact ⟨rfl, 0, by omega, rfl, fun h => absurd h (by decide), fun h => absurd h (by decide)⟩
  case round =>
    obtain ⟨rfl, k, hk, rfl, ha, hc⟩ := hrel
    rcases (by omega : k = 0 ∨ k = 1 ∨ k = 2) with rfl | rfl | rfl
    · by_cases h : a = 0
      · subst h
        go_wp2
        go_roundw
        case rel => exact ⟨by simp, 1, by omega, by go_num, by simp, by simp⟩
        case measure => simp [intOf]
      · have hr : orI a c = a := if_neg h
        go_wp2
        go_ret
        exact ⟨by rw [hr]; rfl, rfl⟩
    · have h := ha (by decide)
      subst h
      clear ha hc
      have hr : orI 0 c = c := if_pos rfl
      by_cases h : c = 0
      · subst h
        go_wp2
        go_roundw
        case rel => exact ⟨by simp, 2, by omega, by go_num, by simp, by simp⟩
        case measure => simp [intOf]
      · go_wp2
        go_ret
        exact ⟨by rw [hr]; rfl, rfl⟩
    · have h := ha (by decide)
      have g := hc (by decide)
      subst h
      subst g
      clear ha hc
      have hr : orI 0 0 = 0 := if_pos rfl
      go_wp2
      go_ret
      exact ⟨by rw [hr]; rfl, rfl⟩
def ordI (x y : Pst) : Int := orI (cmpI x.t y.t) (cmpI x.s y.s)
def lessP (x y : Pst) : Bool := decide (x.t < y.t) || (decide (x.t = y.t) && decide (x.s < y.s))
theorem ord_less (x y : Pst) : decide (ordI x y < 0) = lessP x y := by
  have c1 : ∀ a b : Int, a < b → cmpI a b = -1 := fun a b h => if_pos h
  have c2 : ∀ a : Int, cmpI a a = 0 := fun a => by unfold cmpI; rw [if_neg (by omega), if_neg (by omega)]
  have c3 : ∀ a b : Int, b < a → cmpI a b = 1 := fun a b h => by unfold cmpI; rw [if_neg (by omega), if_pos h]
  unfold ordI lessP
  rcases (by omega : x.t < y.t ∨ x.t = y.t ∨ y.t < x.t) with h | h | h
  · rw [c1 _ _ h]; simp [orI, h]
  · rw [h, c2]
    rcases (by omega : x.s < y.s ∨ x.s = y.s ∨ y.s < x.s) with g | g | g
    · rw [c1 _ _ g]; simp [orI, g]
    · rw [g, c2]; simp [orI]
    · rw [c3 _ _ g]; simp [orI]; omega
  · rw [c3 _ _ h]; simp [orI]; omega
def Pst.arr (x : Pst) : Array Value := #[.int .i64 x.d, .int .u64 x.t, .int .i64 x.s, .int .i64 x.k, .int .i64 x.a0, .int .i64 x.a1, .int .i64 x.a2, .int .i64 x.a3, .int .i64 x.a4, .int .i64 x.a5]

set_option maxRecDepth 4000 in
set_option maxHeartbeats 1000000 in
theorem order_any (x y : Pst) (w : World) : Calls Tryd.prog 162 #[.agg x.arr, .agg y.arr] w fun e w' => e = .returned (.int .i64 (ordI x y)) ∧ Below w.heap.size w w' := by
  obtain ⟨d, t, s, k, a0, a1, a2, a3, a4, a5⟩ := x
  obtain ⟨d', t', s', k', b0, b1, b2, b3, b4, b5⟩ := y
  have H1 := Lib.hid (fun W => cmpU_any t t' W)
  have H2 := Lib.hid (fun W => cmpI_any s s' W)
  show Calls _ _ _ w fun e w' => e = .returned (.int .i64 (orI (cmpI t t') (cmpI s s'))) ∧ _
  generalize cmpI t t' = c1 at *
  generalize cmpI s s' = c2 at *
  unfold Pst.arr
  simp only
  go_enter Tryd.func162, Tryd.ntmps162
  go_wp2_with fail
  have hX : ((w.alloc (.cells #[.int .i64 d, .int .u64 t, .int .i64 s, .int .i64 k, .int .i64 a0, .int .i64 a1, .int .i64 a2, .int .i64 a3, .int .i64 a4, .int .i64 a5] 49)).alloc (.cells #[.int .i64 d', .int .u64 t', .int .i64 s', .int .i64 k', .int .i64 b0, .int .i64 b1, .int .i64 b2, .int .i64 b3, .int .i64 b4, .int .i64 b5] 49)).heap[w.heap.size]? = some (.cells #[.int .i64 d, .int .u64 t, .int .i64 s, .int .i64 k, .int .i64 a0, .int .i64 a1, .int .i64 a2, .int .i64 a3, .int .i64 a4, .int .i64 a5] 49 (0, 0)) := row_alloc (new_rowW _ _ _ rfl) _
  have hY : ((w.alloc (.cells #[.int .i64 d, .int .u64 t, .int .i64 s, .int .i64 k, .int .i64 a0, .int .i64 a1, .int .i64 a2, .int .i64 a3, .int .i64 a4, .int .i64 a5] 49)).alloc (.cells #[.int .i64 d', .int .u64 t', .int .i64 s', .int .i64 k', .int .i64 b0, .int .i64 b1, .int .i64 b2, .int .i64 b3, .int .i64 b4, .int .i64 b5] 49)).heap[w.heap.size + 1]? = some (.cells #[.int .i64 d', .int .u64 t', .int .i64 s', .int .i64 k', .int .i64 b0, .int .i64 b1, .int .i64 b2, .int .i64 b3, .int .i64 b4, .int .i64 b5] 49 (0, 0)) := new_rowW _ _ _ (by simp)
  have HB := Lib.hid (((Below.refl w.heap.size w).alloc (Nat.le_refl _) (.cells #[.int .i64 d, .int .u64 t, .int .i64 s, .int .i64 k, .int .i64 a0, .int .i64 a1, .int .i64 a2, .int .i64 a3, .int .i64 a4, .int .i64 a5] 49)).alloc (by simp) (.cells #[.int .i64 d', .int .u64 t', .int .i64 s', .int .i64 k', .int .i64 b0, .int .i64 b1, .int .i64 b2, .int .i64 b3, .int .i64 b4, .int .i64 b5] 49))
  generalize (w.alloc (.cells #[.int .i64 d, .int .u64 t, .int .i64 s, .int .i64 k, .int .i64 a0, .int .i64 a1, .int .i64 a2, .int .i64 a3, .int .i64 a4, .int .i64 a5] 49)).alloc (.cells #[.int .i64 d', .int .u64 t', .int .i64 s', .int .i64 k', .int .i64 b0, .int .i64 b1, .int .i64 b2, .int .i64 b3, .int .i64 b4, .int .i64 b5] 49) = W at *
  have q1 := cell_of_row W _ 1 _ _ _ hX
  have q2 := cell_of_row W _ 2 _ _ _ hX
  have q3 := cell_of_row W _ 1 _ _ _ hY
  have q4 := cell_of_row W _ 2 _ _ _ hY
  clear hX hY
  go_region_held3 (fun w' => w'.cell? ⟨w.heap.size, 1, none⟩ = some (.int .u64 t) ∧ w'.cell? ⟨w.heap.size, 2, none⟩ = some (.int .i64 s) ∧ w'.cell? ⟨w.heap.size + 1, 1, none⟩ = some (.int .u64 t') ∧ w'.cell? ⟨w.heap.size + 1, 2, none⟩ = some (.int .i64 s')) (go_keep) (first
    | (go_at_call 176; refine (H1.out _).mono ?_; rintro e w1 ⟨rfl, rfl⟩)
    | (go_at_call 177; refine (H2.out _).mono ?_; rintro e w1 ⟨rfl, rfl⟩)
    | (go_at_call 175; refine (or_any c1 c2 _ _ (cell_of_row _ _ 0 _ _ _ (new_rowW _ _ _ rfl)) (cell_of_row _ _ 1 _ _ _ (new_rowW _ _ _ rfl))).mono ?_; rintro e w1 ⟨rfl, rfl⟩))
  go_wp2
  go_ret
  exact ⟨rfl, HB.out.drew.alloc HB.out.size _⟩
end Go.Proofs.YtellhmbebimenaaDoor
end
