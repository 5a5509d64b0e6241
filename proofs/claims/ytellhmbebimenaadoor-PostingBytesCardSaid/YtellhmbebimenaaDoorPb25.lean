/- Contracts: cmp.Compare, cmp.Or, posting.order, Less, Same; the reference's Ahead. -/
import Derived.Test.YtellhmbebimenaaDoorPb24
import Derived.Deep.RegionHeld3
import Derived.Deep.QuietTactic
import Derived.BigQuiet

set_option linter.unusedVariables false
set_option linter.unusedSimpArgs false
namespace Go.Proofs.YtellhmbebimenaaDoor
open Go.RowKit

theorem isNaNU_any (x : Int) (w : World) : Calls Tryd.prog 183 #[.int .u64 x] w fun e w' => e = .returned (.bool false) ∧ w = w' := by
  go_enter Tryd.func183, Tryd.ntmps183
  go_wp2
  go_ret
  exact ⟨ret_bool (by simp), rfl⟩
theorem isNaNI_any (x : Int) (w : World) : Calls Tryd.prog 184 #[.int .i64 x] w fun e w' => e = .returned (.bool false) ∧ w = w' := by
  go_enter Tryd.func184, Tryd.ntmps184
  go_wp2
  go_ret
  exact ⟨ret_bool (by simp), rfl⟩
def cmpI (x y : Int) : Int := if x < y then -1 else if y < x then 1 else 0
set_option maxHeartbeats 400000 in
theorem cmpU_any (x y : Int) (w : World) : Calls Tryd.prog 176 #[.int .u64 x, .int .u64 y] w fun e w' => e = .returned (.int .i64 (cmpI x y)) ∧ w = w' := by
  have key : ∀ r, cmpI x y = r → Calls Tryd.prog 176 #[.int .u64 x, .int .u64 y] w fun e w' => e = .returned (.int .i64 r) ∧ w = w' := by
    intro r hr
    unfold cmpI at hr
    rcases (by omega : x < y ∨ (¬ x < y ∧ y < x) ∨ (¬ x < y ∧ ¬ y < x)) with h | ⟨h, h'⟩ | ⟨h, h'⟩
    · rw [if_pos h] at hr
      subst hr
      go_enter Tryd.func176, Tryd.ntmps176
      go_wp2_with fail
      refine (isNaNU_any _ _).mono ?_
      rintro e w1 ⟨rfl, rfl⟩
      go_wp2_with fail
      refine (isNaNU_any _ _).mono ?_
      rintro e w1 ⟨rfl, rfl⟩
      go_wp2
      go_ret
      exact ⟨rfl, rfl⟩
    · rw [if_neg h, if_pos h'] at hr
      subst hr
      go_enter Tryd.func176, Tryd.ntmps176
      go_wp2_with fail
      refine (isNaNU_any _ _).mono ?_
      rintro e w1 ⟨rfl, rfl⟩
      go_wp2_with fail
      refine (isNaNU_any _ _).mono ?_
      rintro e w1 ⟨rfl, rfl⟩
      go_wp2
      go_ret
      exact ⟨rfl, rfl⟩
    · rw [if_neg h, if_neg h'] at hr
      subst hr
      go_enter Tryd.func176, Tryd.ntmps176
      go_wp2_with fail
      refine (isNaNU_any _ _).mono ?_
      rintro e w1 ⟨rfl, rfl⟩
      go_wp2_with fail
      refine (isNaNU_any _ _).mono ?_
      rintro e w1 ⟨rfl, rfl⟩
      go_wp2
      go_ret
      exact ⟨rfl, rfl⟩
  exact key _ rfl
set_option maxHeartbeats 400000 in
theorem cmpI_any (x y : Int) (w : World) : Calls Tryd.prog 177 #[.int .i64 x, .int .i64 y] w fun e w' => e = .returned (.int .i64 (cmpI x y)) ∧ w = w' := by
  have key : ∀ r, cmpI x y = r → Calls Tryd.prog 177 #[.int .i64 x, .int .i64 y] w fun e w' => e = .returned (.int .i64 r) ∧ w = w' := by
    intro r hr
    unfold cmpI at hr
    rcases (by omega : x < y ∨ (¬ x < y ∧ y < x) ∨ (¬ x < y ∧ ¬ y < x)) with h | ⟨h, h'⟩ | ⟨h, h'⟩
    · rw [if_pos h] at hr
      subst hr
      go_enter Tryd.func177, Tryd.ntmps177
      go_wp2_with fail
      refine (isNaNI_any _ _).mono ?_
      rintro e w1 ⟨rfl, rfl⟩
      go_wp2_with fail
      refine (isNaNI_any _ _).mono ?_
      rintro e w1 ⟨rfl, rfl⟩
      go_wp2
      go_ret
      exact ⟨rfl, rfl⟩
    · rw [if_neg h, if_pos h'] at hr
      subst hr
      go_enter Tryd.func177, Tryd.ntmps177
      go_wp2_with fail
      refine (isNaNI_any _ _).mono ?_
      rintro e w1 ⟨rfl, rfl⟩
      go_wp2_with fail
      refine (isNaNI_any _ _).mono ?_
      rintro e w1 ⟨rfl, rfl⟩
      go_wp2
      go_ret
      exact ⟨rfl, rfl⟩
    · rw [if_neg h, if_neg h'] at hr
      subst hr
      go_enter Tryd.func177, Tryd.ntmps177
      go_wp2_with fail
      refine (isNaNI_any _ _).mono ?_
      rintro e w1 ⟨rfl, rfl⟩
      go_wp2_with fail
      refine (isNaNI_any _ _).mono ?_
      rintro e w1 ⟨rfl, rfl⟩
      go_wp2
      go_ret
      exact ⟨rfl, rfl⟩
  exact key _ rfl
/-- the first of two that is not 0 -/
def orI (a c : Int) : Int := if a = 0 then c else a
set_option maxHeartbeats 400000 in
theorem or_any (a c : Int) (b : Nat) (w : World) (h0 : w.cell? ⟨b, 0, none⟩ = some (.int .i64 a)) (h1 : w.cell? ⟨b, 1, none⟩ = some (.int .i64 c)) :
    Calls Tryd.prog 175 #[.slice (some ⟨b, 0, none⟩) 2 2] w fun e w' => e = .returned (.int .i64 (orI a c)) ∧ w = w' := by
  go_enter Tryd.func175, Tryd.ntmps175
  go_wp2_with fail
  go_loopw [8] (fun i wr => wr = w ∧ ∃ k : Nat, k ≤ 2 ∧ i = .int .i64 k ∧ (1 ≤ k → a = 0) ∧ (2 ≤ k → c = 0)) (fun i _ => 2 - (intOf i).toNat)
  case atStart => exact ⟨rfl, 0, by omega, rfl, fun h => absurd h (by decide), fun h => absurd h (by decide)⟩
  case round =>
    obtain ⟨rfl, k, hk, rfl, ha, hc⟩ := hrel
    rcases (by omega : k = 0 ∨ k = 1 ∨ k = 2) with rfl | rfl | rfl
    · by_cases h : a = 0
      · subst h
        go_wp2
        go_roundw
        case rel => exact ⟨by simp, 1, by omega, by go_num, by simp, by simp⟩
        case measure => simp [intOf]
      · have hr : orI a c = a := if_neg h
        go_wp2
        go_ret
        exact ⟨by rw [hr]; rfl, rfl⟩
    · have h := ha (by decide)
      subst h
      clear ha hc
      have hr : orI 0 c = c := if_pos rfl
      by_cases h : c = 0
      · subst h
        go_wp2
        go_roundw
        case rel => exact ⟨by simp, 2, by omega, by go_num, by simp, by simp⟩
        case measure => simp [intOf]
      · go_wp2
        go_ret
        exact ⟨by rw [hr]; rfl, rfl⟩
    · have h := ha (by decide)
      have g := hc (by decide)
      subst h
      subst g
      clear ha hc
      have hr : orI 0 0 = 0 := if_pos rfl
      go_wp2
      go_ret
      exact ⟨by rw [hr]; rfl, rfl⟩
def ordI (x y : Pst) : Int := orI (cmpI x.t y.t) (cmpI x.s y.s)
def lessP (x y : Pst) : Bool := decide (x.t < y.t) || (decide (x.t = y.t) && decide (x.s < y.s))
theorem ord_less (x y : Pst) : decide (ordI x y < 0) = lessP x y := by
  have c1 : ∀ a b : Int, a < b → cmpI a b = -1 := fun a b h => if_pos h
  have c2 : ∀ a : Int, cmpI a a = 0 := fun a => by unfold cmpI; rw [if_neg (by omega), if_neg (by omega)]
  have c3 : ∀ a b : Int, b < a → cmpI a b = 1 := fun a b h => by unfold cmpI; rw [if_neg (by omega), if_pos h]
  unfold ordI lessP
  rcases (by omega : x.t < y.t ∨ x.t = y.t ∨ y.t < x.t) with h | h | h
  · rw [c1 _ _ h]; simp [orI, h]
  · rw [h, c2]
    rcases (by omega : x.s < y.s ∨ x.s = y.s ∨ y.s < x.s) with g | g | g
    · rw [c1 _ _ g]; simp [orI, g]
    · rw [g, c2]; simp [orI]
    · rw [c3 _ _ g]; simp [orI]; omega
  · rw [c3 _ _ h]; simp [orI]; omega
def Pst.arr (x : Pst) : Array Value := #[.int .i64 x.d, .int .u64 x.t, .int .i64 x.s, .int .i64 x.k, .int .i64 x.a0, .int .i64 x.a1, .int .i64 x.a2, .int .i64 x.a3, .int .i64 x.a4, .int .i64 x.a5]

set_option maxRecDepth 4000 in
set_option maxHeartbeats 1000000 in
theorem order_any (x y : Pst) (w : World) : Calls Tryd.prog 162 #[.agg x.arr, .agg y.arr] w fun e w' => e = .returned (.int .i64 (ordI x y)) ∧ Below w.heap.size w w' := by
  obtain ⟨d, t, s, k, a0, a1, a2, a3, a4, a5⟩ := x
  obtain ⟨d', t', s', k', b0, b1, b2, b3, b4, b5⟩ := y
  have H1 := Lib.hid (fun W => cmpU_any t t' W)
  have H2 := Lib.hid (fun W => cmpI_any s s' W)
  show Calls _ _ _ w fun e w' => e = .returned (.int .i64 (orI (cmpI t t') (cmpI s s'))) ∧ _
  generalize cmpI t t' = c1 at *
  generalize cmpI s s' = c2 at *
  unfold Pst.arr
  simp only
  go_enter Tryd.func162, Tryd.ntmps162
  go_wp2_with fail
  have hX : ((w.alloc (.cells #[.int .i64 d, .int .u64 t, .int .i64 s, .int .i64 k, .int .i64 a0, .int .i64 a1, .int .i64 a2, .int .i64 a3, .int .i64 a4, .int .i64 a5] 49)).alloc (.cells #[.int .i64 d', .int .u64 t', .int .i64 s', .int .i64 k', .int .i64 b0, .int .i64 b1, .int .i64 b2, .int .i64 b3, .int .i64 b4, .int .i64 b5] 49)).heap[w.heap.size]? = some (.cells #[.int .i64 d, .int .u64 t, .int .i64 s, .int .i64 k, .int .i64 a0, .int .i64 a1, .int .i64 a2, .int .i64 a3, .int .i64 a4, .int .i64 a5] 49 (0, 0)) := row_alloc (new_rowW _ _ _ rfl) _
  have hY : ((w.alloc (.cells #[.int .i64 d, .int .u64 t, .int .i64 s, .int .i64 k, .int .i64 a0, .int .i64 a1, .int .i64 a2, .int .i64 a3, .int .i64 a4, .int .i64 a5] 49)).alloc (.cells #[.int .i64 d', .int .u64 t', .int .i64 s', .int .i64 k', .int .i64 b0, .int .i64 b1, .int .i64 b2, .int .i64 b3, .int .i64 b4, .int .i64 b5] 49)).heap[w.heap.size + 1]? = some (.cells #[.int .i64 d', .int .u64 t', .int .i64 s', .int .i64 k', .int .i64 b0, .int .i64 b1, .int .i64 b2, .int .i64 b3, .int .i64 b4, .int .i64 b5] 49 (0, 0)) := new_rowW _ _ _ (by simp)
  have HB := Lib.hid (((Below.refl w.heap.size w).alloc (Nat.le_refl _) (.cells #[.int .i64 d, .int .u64 t, .int .i64 s, .int .i64 k, .int .i64 a0, .int .i64 a1, .int .i64 a2, .int .i64 a3, .int .i64 a4, .int .i64 a5] 49)).alloc (by simp) (.cells #[.int .i64 d', .int .u64 t', .int .i64 s', .int .i64 k', .int .i64 b0, .int .i64 b1, .int .i64 b2, .int .i64 b3, .int .i64 b4, .int .i64 b5] 49))
  generalize (w.alloc (.cells #[.int .i64 d, .int .u64 t, .int .i64 s, .int .i64 k, .int .i64 a0, .int .i64 a1, .int .i64 a2, .int .i64 a3, .int .i64 a4, .int .i64 a5] 49)).alloc (.cells #[.int .i64 d', .int .u64 t', .int .i64 s', .int .i64 k', .int .i64 b0, .int .i64 b1, .int .i64 b2, .int .i64 b3, .int .i64 b4, .int .i64 b5] 49) = W at *
  have q1 := cell_of_row W _ 1 _ _ _ hX
  have q2 := cell_of_row W _ 2 _ _ _ hX
  have q3 := cell_of_row W _ 1 _ _ _ hY
  have q4 := cell_of_row W _ 2 _ _ _ hY
  clear hX hY
  go_region_held3 (fun w' => w'.cell? ⟨w.heap.size, 1, none⟩ = some (.int .u64 t) ∧ w'.cell? ⟨w.heap.size, 2, none⟩ = some (.int .i64 s) ∧ w'.cell? ⟨w.heap.size + 1, 1, none⟩ = some (.int .u64 t') ∧ w'.cell? ⟨w.heap.size + 1, 2, none⟩ = some (.int .i64 s')) (go_keep) (first
    | (go_at_call 176; refine (H1.out _).mono ?_; rintro e w1 ⟨rfl, rfl⟩)
    | (go_at_call 177; refine (H2.out _).mono ?_; rintro e w1 ⟨rfl, rfl⟩)
    | (go_at_call 175; refine (or_any c1 c2 _ _ (cell_of_row _ _ 0 _ _ _ (new_rowW _ _ _ rfl)) (cell_of_row _ _ 1 _ _ _ (new_rowW _ _ _ rfl))).mono ?_; rintro e w1 ⟨rfl, rfl⟩))
  go_wp2
  go_ret
  exact ⟨rfl, HB.out.drew.alloc HB.out.size _⟩
end Go.Proofs.YtellhmbebimenaaDoor
