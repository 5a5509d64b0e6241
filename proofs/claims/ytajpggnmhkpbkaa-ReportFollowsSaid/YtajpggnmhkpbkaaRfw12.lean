/- A record of ten cells in a block of its own: written whole. Contracts: cmp.Compare, cmp.Or, posting.order, Less, Same; the reference's Ahead. Plain law: what a stable sort may do to a list: order each key's own elements stay in; a sorted list of the same such rows is one alone. -/
import Derived.Test.YtajpggnmhkpbkaaRfw11
import Derived.Deep.RegionHeld3
import Derived.Deep.QuietTactic
import Derived.BigQuiet

section
set_option linter.unusedVariables false
set_option linter.unusedSimpArgs false
namespace Go.Proofs.Ytajpggnmhkpbkaa
open Go.RowKit

theorem ten_row {w : World} {g : Nat} {t : TypeId} {z0 z1 z2 z3 z4 z5 z6 z7 z8 z9 : Value} (h : w.heap[g]? = some (.cells #[z0, z1, z2, z3, z4, z5, z6, z7, z8, z9] t (0, 0))) (v0 v1 v2 v3 v4 v5 v6 v7 v8 v9 : Value) :
    ((((((((((w.setCell ⟨g, 0, none⟩ v0).setCell ⟨g, 1, none⟩ v1).setCell ⟨g, 2, none⟩ v2).setCell ⟨g, 3, none⟩ v3).setCell ⟨g, 4, none⟩ v4).setCell ⟨g, 5, none⟩ v5).setCell ⟨g, 6, none⟩ v6).setCell ⟨g, 7, none⟩ v7).setCell ⟨g, 8, none⟩ v8).setCell ⟨g, 9, none⟩ v9).heap[g]? = some (.cells #[v0, v1, v2, v3, v4, v5, v6, v7, v8, v9] t (0, 0)) := by
  rw [heap_setCell_same _ _ _ _ _ _ (heap_setCell_same _ _ _ _ _ _ (heap_setCell_same _ _ _ _ _ _ (heap_setCell_same _ _ _ _ _ _ (heap_setCell_same _ _ _ _ _ _ (heap_setCell_same _ _ _ _ _ _ (heap_setCell_same _ _ _ _ _ _ (heap_setCell_same _ _ _ _ _ _ (heap_setCell_same _ _ _ _ _ _ (heap_setCell_same _ _ _ _ _ _ h)))))))))]
  simp only [List.setIfInBounds_toArray, List.set_cons_succ, List.set_cons_zero]
theorem ten_below {w a : World} {B g : Nat} (h : Below B a w) (hg : B ≤ g) (v0 v1 v2 v3 v4 v5 v6 v7 v8 v9 : Value) : Below B a ((((((((((w.setCell ⟨g, 0, none⟩ v0).setCell ⟨g, 1, none⟩ v1).setCell ⟨g, 2, none⟩ v2).setCell ⟨g, 3, none⟩ v3).setCell ⟨g, 4, none⟩ v4).setCell ⟨g, 5, none⟩ v5).setCell ⟨g, 6, none⟩ v6).setCell ⟨g, 7, none⟩ v7).setCell ⟨g, 8, none⟩ v8).setCell ⟨g, 9, none⟩ v9) :=
  (((((((((h.setCell (p := ⟨g, 0, none⟩) hg v0).setCell (p := ⟨g, 1, none⟩) hg v1).setCell (p := ⟨g, 2, none⟩) hg v2).setCell (p := ⟨g, 3, none⟩) hg v3).setCell (p := ⟨g, 4, none⟩) hg v4).setCell (p := ⟨g, 5, none⟩) hg v5).setCell (p := ⟨g, 6, none⟩) hg v6).setCell (p := ⟨g, 7, none⟩) hg v7).setCell (p := ⟨g, 8, none⟩) hg v8).setCell (p := ⟨g, 9, none⟩) hg v9

end Go.Proofs.Ytajpggnmhkpbkaa
end

section
set_option linter.unusedVariables false
set_option linter.unusedSimpArgs false
namespace Go.Proofs.Ytajpggnmhkpbkaa
open Go.RowKit

theorem isNaNU_any (x : Int) (w : World) : Calls Try.prog 89 #[.int .u64 x] w fun e w' => e = .returned (.bool false) ∧ w = w' := by
  go_enter Try.func89, Try.ntmps89
  go_wp2
  go_ret
  exact ⟨ret_bool (by simp), rfl⟩
theorem isNaNI_any (x : Int) (w : World) : Calls Try.prog 90 #[.int .i64 x] w fun e w' => e = .returned (.bool false) ∧ w = w' := by
  go_enter Try.func90, Try.ntmps90
  go_wp2
  go_ret
  exact ⟨ret_bool (by simp), rfl⟩
def cmpI (x y : Int) : Int := if x < y then -1 else if y < x then 1 else 0
set_option maxHeartbeats 400000 in
theorem cmpU_any (x y : Int) (w : World) : Calls Try.prog 77 #[.int .u64 x, .int .u64 y] w fun e w' => e = .returned (.int .i64 (cmpI x y)) ∧ w = w' := by
  have key : ∀ r, cmpI x y = r → Calls Try.prog 77 #[.int .u64 x, .int .u64 y] w fun e w' => e = .returned (.int .i64 r) ∧ w = w' := by
    intro r hr
    unfold cmpI at hr
    rcases (by omega : x < y ∨ (¬ x < y ∧ y < x) ∨ (¬ x < y ∧ ¬ y < x)) with h | ⟨h, h'⟩ | ⟨h, h'⟩
    · rw [if_pos h] at hr
      subst hr
      go_enter Try.func77, Try.ntmps77
      go_wp2_with fail
      refine (isNaNU_any _ _).mono ?_
      rintro e w1 ⟨rfl, rfl⟩
      go_wp2_with fail
      refine (isNaNU_any _ _).mono ?_
      rintro e w1 ⟨rfl, rfl⟩
      go_wp2
      go_ret
      exact ⟨rfl, rfl⟩
    · rw [if_neg h, if_pos h'] at hr
      subst hr
      go_enter Try.func77, Try.ntmps77
      go_wp2_with fail
      refine (isNaNU_any _ _).mono ?_
      rintro e w1 ⟨rfl, rfl⟩
      go_wp2_with fail
      refine (isNaNU_any _ _).mono ?_
      rintro e w1 ⟨rfl, rfl⟩
      go_wp2
      go_ret
      exact ⟨rfl, rfl⟩
    · rw [if_neg h, if_neg h'] at hr
      subst hr
      go_enter Try.func77, Try.ntmps77
      go_wp2_with fail
      refine (isNaNU_any _ _).mono ?_
      rintro e w1 ⟨rfl, rfl⟩
      go_wp2_with fail
      refine (isNaNU_any _ _).mono ?_
      rintro e w1 ⟨rfl, rfl⟩
      go_wp2
      go_ret
      exact ⟨rfl, rfl⟩
  exact key _ rfl
set_option maxHeartbeats 400000 in
theorem cmpI_any (x y : Int) (w : World) : Calls Try.prog 78 #[.int .i64 x, .int .i64 y] w fun e w' => e = .returned (.int .i64 (cmpI x y)) ∧ w = w' := by
  have key : ∀ r, cmpI x y = r → Calls Try.prog 78 #[.int .i64 x, .int .i64 y] w fun e w' => e = .returned (.int .i64 r) ∧ w = w' := by
    intro r hr
    unfold cmpI at hr
    rcases (by omega : x < y ∨ (¬ x < y ∧ y < x) ∨ (¬ x < y ∧ ¬ y < x)) with h | ⟨h, h'⟩ | ⟨h, h'⟩
    · rw [if_pos h] at hr
      subst hr
      go_enter Try.func78, Try.ntmps78
      go_wp2_with fail
      refine (isNaNI_any _ _).mono ?_
      rintro e w1 ⟨rfl, rfl⟩
      go_wp2_with fail
      refine (isNaNI_any _ _).mono ?_
      rintro e w1 ⟨rfl, rfl⟩
      go_wp2
      go_ret
      exact ⟨rfl, rfl⟩
    · rw [if_neg h, if_pos h'] at hr
      subst hr
      go_enter Try.func78, Try.ntmps78
      go_wp2_with fail
      refine (isNaNI_any _ _).mono ?_
      rintro e w1 ⟨rfl, rfl⟩
      go_wp2_with fail
      refine (isNaNI_any _ _).mono ?_
      rintro e w1 ⟨rfl, rfl⟩
      go_wp2
      go_ret
      exact ⟨rfl, rfl⟩
    · rw [if_neg h, if_neg h'] at hr
      subst hr
      go_enter Try.func78, Try.ntmps78
      go_wp2_with fail
      refine (isNaNI_any _ _).mono ?_
      rintro e w1 ⟨rfl, rfl⟩
      go_wp2_with fail
      refine (isNaNI_any _ _).mono ?_
      rintro e w1 ⟨rfl, rfl⟩
      go_wp2
      go_ret
      exact ⟨rfl, rfl⟩
  exact key _ rfl
/-- the first of two that is not 0 -/
def orI (a c : Int) : Int := if a = 0 then c else a
set_option maxHeartbeats 400000 in
theorem or_any (a c : Int) (b : Nat) (w : World) (h0 : w.cell? ⟨b, 0, none⟩ = some (.int .i64 a)) (h1 : w.cell? ⟨b, 1, none⟩ = some (.int .i64 c)) :
    Calls Try.prog 76 #[.slice (some ⟨b, 0, none⟩) 2 2] w fun e w' => e = .returned (.int .i64 (orI a c)) ∧ w = w' := by
  go_enter Try.func76, Try.ntmps76
  go_wp2_with fail
  go_loopw [8] (fun i wr => wr = w ∧ ∃ k : Nat, k ≤ 2 ∧ i = .int .i64 k ∧ (1 ≤ k → a = 0) ∧ (2 ≤ k → c = 0)) (fun i _ => 2 - (intOf i).toNat)
  case atStart => exact ⟨rfl, 0, by omega, rfl, fun h => absurd h (by decide), fun h => absurd h (by decide)⟩
  case round =>
    obtain ⟨rfl, k, hk, rfl, ha, hc⟩ := hrel
    rcases (by omega : k = 0 ∨ k = 1 ∨ k = 2) with rfl | rfl | rfl
    · by_cases h : a = 0
      · subst h
        go_wp2
        go_roundw
        case rel => exact ⟨by simp, 1, by omega, by go_num, by simp, by simp⟩
        case measure => simp [intOf]
      · have hr : orI a c = a := if_neg h
        go_wp2
        go_ret
        exact ⟨by rw [hr]; rfl, rfl⟩
    · have h := ha (by decide)
      subst h
      clear ha hc
      have hr : orI 0 c = c := if_pos rfl
      by_cases h : c = 0
      · subst h
        go_wp2
        go_roundw
        case rel => exact ⟨by simp, 2, by omega, by go_num, by simp, by simp⟩
        case measure => simp [intOf]
      · go_wp2
        go_ret
        exact ⟨by rw [hr]; rfl, rfl⟩
    · have h := ha (by decide)
      have g := hc (by decide)
      subst h
      subst g
      clear ha hc
      have hr : orI 0 0 = 0 := if_pos rfl
      go_wp2
      go_ret
      exact ⟨by rw [hr]; rfl, rfl⟩
def ordI (x y : Pst) : Int := orI (cmpI x.t y.t) (cmpI x.s y.s)
def lessP (x y : Pst) : Bool := decide (x.t < y.t) || (decide (x.t = y.t) && decide (x.s < y.s))
theorem ord_less (x y : Pst) : decide (ordI x y < 0) = lessP x y := by
  have c1 : ∀ a b : Int, a < b → cmpI a b = -1 := fun a b h => if_pos h
  have c2 : ∀ a : Int, cmpI a a = 0 := fun a => by unfold cmpI; rw [if_neg (by omega), if_neg (by omega)]
  have c3 : ∀ a b : Int, b < a → cmpI a b = 1 := fun a b h => by unfold cmpI; rw [if_neg (by omega), if_pos h]
  unfold ordI lessP
  rcases (by omega : x.t < y.t ∨ x.t = y.t ∨ y.t < x.t) with h | h | h
  · rw [c1 _ _ h]; simp [orI, h]
  · rw [h, c2]
    rcases (by omega : x.s < y.s ∨ x.s = y.s ∨ y.s < x.s) with g | g | g
    · rw [c1 _ _ g]; simp [orI, g]
    · rw [g, c2]; simp [orI]
    · rw [c3 _ _ g]; simp [orI]; omega
  · rw [c3 _ _ h]; simp [orI]; omega
def Pst.arr (x : Pst) : Array Value := #[.int .i64 x.d, .int .u64 x.t, .int .i64 x.s, .int .i64 x.k, .int .i64 x.a0, .int .i64 x.a1, .int .i64 x.a2, .int .i64 x.a3, .int .i64 x.a4, .int .i64 x.a5]

set_option maxRecDepth 4000 in
set_option maxHeartbeats 1000000 in
theorem order_any (x y : Pst) (w : World) : Calls Try.prog 61 #[.agg x.arr, .agg y.arr] w fun e w' => e = .returned (.int .i64 (ordI x y)) ∧ Below w.heap.size w w' := by
  obtain ⟨d, t, s, k, a0, a1, a2, a3, a4, a5⟩ := x
  obtain ⟨d', t', s', k', b0, b1, b2, b3, b4, b5⟩ := y
  have H1 := Lib.hid (fun W => cmpU_any t t' W)
  have H2 := Lib.hid (fun W => cmpI_any s s' W)
  show Calls _ _ _ w fun e w' => e = .returned (.int .i64 (orI (cmpI t t') (cmpI s s'))) ∧ _
  generalize cmpI t t' = c1 at *
  generalize cmpI s s' = c2 at *
  unfold Pst.arr
  simp only
  go_enter Try.func61, Try.ntmps61
  go_wp2_with fail
  have hX : ((w.alloc (.cells #[.int .i64 d, .int .u64 t, .int .i64 s, .int .i64 k, .int .i64 a0, .int .i64 a1, .int .i64 a2, .int .i64 a3, .int .i64 a4, .int .i64 a5] 68)).alloc (.cells #[.int .i64 d', .int .u64 t', .int .i64 s', .int .i64 k', .int .i64 b0, .int .i64 b1, .int .i64 b2, .int .i64 b3, .int .i64 b4, .int .i64 b5] 68)).heap[w.heap.size]? = some (.cells #[.int .i64 d, .int .u64 t, .int .i64 s, .int .i64 k, .int .i64 a0, .int .i64 a1, .int .i64 a2, .int .i64 a3, .int .i64 a4, .int .i64 a5] 68 (0, 0)) := row_alloc (new_rowW _ _ _ rfl) _
  have hY : ((w.alloc (.cells #[.int .i64 d, .int .u64 t, .int .i64 s, .int .i64 k, .int .i64 a0, .int .i64 a1, .int .i64 a2, .int .i64 a3, .int .i64 a4, .int .i64 a5] 68)).alloc (.cells #[.int .i64 d', .int .u64 t', .int .i64 s', .int .i64 k', .int .i64 b0, .int .i64 b1, .int .i64 b2, .int .i64 b3, .int .i64 b4, .int .i64 b5] 68)).heap[w.heap.size + 1]? = some (.cells #[.int .i64 d', .int .u64 t', .int .i64 s', .int .i64 k', .int .i64 b0, .int .i64 b1, .int .i64 b2, .int .i64 b3, .int .i64 b4, .int .i64 b5] 68 (0, 0)) := new_rowW _ _ _ (by simp)
  have HB := Lib.hid (((Below.refl w.heap.size w).alloc (Nat.le_refl _) (.cells #[.int .i64 d, .int .u64 t, .int .i64 s, .int .i64 k, .int .i64 a0, .int .i64 a1, .int .i64 a2, .int .i64 a3, .int .i64 a4, .int .i64 a5] 68)).alloc (by simp) (.cells #[.int .i64 d', .int .u64 t', .int .i64 s', .int .i64 k', .int .i64 b0, .int .i64 b1, .int .i64 b2, .int .i64 b3, .int .i64 b4, .int .i64 b5] 68))
  generalize (w.alloc (.cells #[.int .i64 d, .int .u64 t, .int .i64 s, .int .i64 k, .int .i64 a0, .int .i64 a1, .int .i64 a2, .int .i64 a3, .int .i64 a4, .int .i64 a5] 68)).alloc (.cells #[.int .i64 d', .int .u64 t', .int .i64 s', .int .i64 k', .int .i64 b0, .int .i64 b1, .int .i64 b2, .int .i64 b3, .int .i64 b4, .int .i64 b5] 68) = W at *
  have q1 := cell_of_row W _ 1 _ _ _ hX
  have q2 := cell_of_row W _ 2 _ _ _ hX
  have q3 := cell_of_row W _ 1 _ _ _ hY
  have q4 := cell_of_row W _ 2 _ _ _ hY
  clear hX hY
  go_region_held3 (fun w' => w'.cell? ⟨w.heap.size, 1, none⟩ = some (.int .u64 t) ∧ w'.cell? ⟨w.heap.size, 2, none⟩ = some (.int .i64 s) ∧ w'.cell? ⟨w.heap.size + 1, 1, none⟩ = some (.int .u64 t') ∧ w'.cell? ⟨w.heap.size + 1, 2, none⟩ = some (.int .i64 s')) (go_keep) (first
    | (go_at_call 77; refine (H1.out _).mono ?_; rintro e w1 ⟨rfl, rfl⟩)
    | (go_at_call 78; refine (H2.out _).mono ?_; rintro e w1 ⟨rfl, rfl⟩)
    | (go_at_call 76; refine (or_any c1 c2 _ _ (cell_of_row _ _ 0 _ _ _ (new_rowW _ _ _ rfl)) (cell_of_row _ _ 1 _ _ _ (new_rowW _ _ _ rfl))).mono ?_; rintro e w1 ⟨rfl, rfl⟩))
  go_wp2
  go_ret
  exact ⟨rfl, HB.out.drew.alloc HB.out.size _⟩
end Go.Proofs.Ytajpggnmhkpbkaa
end

section
namespace Go.Proofs.Ytajpggnmhkpbkaa
namespace Srt
variable {α : Type} (key : α → Int)

/-- y has the same elements as x, those of one key in the same order -/
def Mix (x y : List α) : Prop := x.length = y.length ∧ ∀ k, x.filter (fun e => key e == k) = y.filter (fun e => key e == k)
def Up (x : List α) : Prop := x.Pairwise (fun a b => key a ≤ key b)

variable {key}
theorem Mix.refl (x : List α) : Mix key x x := ⟨rfl, fun _ => rfl⟩
theorem Mix.trans {x y z : List α} (h : Mix key x y) (g : Mix key y z) : Mix key x z := ⟨h.1.trans g.1, fun k => (h.2 k).trans (g.2 k)⟩
theorem Mix.symm {x y : List α} (h : Mix key x y) : Mix key y x := ⟨h.1.symm, fun k => (h.2 k).symm⟩
theorem Mix.app {x y x' y' : List α} (h : Mix key x x') (g : Mix key y y') : Mix key (x ++ y) (x' ++ y') :=
  ⟨by rw [List.length_append, List.length_append, h.1, g.1], fun k => by rw [List.filter_append, List.filter_append, h.2, g.2]⟩
theorem Mix.mem {x y : List α} (h : Mix key x y) {e : α} (he : e ∈ x) : e ∈ y := by
  have : e ∈ x.filter (fun a => key a == key e) := by simp [he]
  rw [h.2] at this
  exact (List.mem_filter.1 this).1
theorem filter_none {x : List α} {k : Int} (h : ∀ a ∈ x, key a ≠ k) : x.filter (fun e => key e == k) = [] := by
  rw [List.filter_eq_nil_iff]
  intro a ha
  simpa using h a ha
theorem Mix.swap {x y : List α} (h : ∀ a ∈ x, ∀ b ∈ y, key a ≠ key b) : Mix key (x ++ y) (y ++ x) := by
  refine ⟨by simp [Nat.add_comm], fun k => ?_⟩
  rw [List.filter_append, List.filter_append]
  by_cases hx : ∃ a ∈ x, key a = k
  · obtain ⟨a, ha, rfl⟩ := hx
    rw [filter_none (x := y) fun b hb e => h a ha b hb e.symm]
    simp
  · rw [filter_none (x := x) fun a ha e => hx ⟨a, ha, e⟩]
    simp
theorem Up.nil : Up key ([] : List α) := List.Pairwise.nil
theorem Up.one (a : α) : Up key [a] := List.pairwise_singleton _ _
theorem Up.app {x y : List α} (h : Up key x) (g : Up key y) (hxy : ∀ a ∈ x, ∀ b ∈ y, key a ≤ key b) : Up key (x ++ y) := List.pairwise_append.2 ⟨h, g, hxy⟩
theorem Up.parts {x y : List α} (h : Up key (x ++ y)) : Up key x ∧ Up key y ∧ ∀ a ∈ x, ∀ b ∈ y, key a ≤ key b := List.pairwise_append.1 h

/-- sorted, and each key's own as they were: there is one such list alone -/
theorem Up.only : ∀ (x y : List α), Up key x → Up key y → Mix key x y → x = y := by
  intro x
  induction x with
  | nil =>
    intro y _ _ h
    have := h.1
    exact (List.length_eq_zero_iff.1 this.symm).symm
  | cons a x ih =>
    intro y hx hy h
    cases y with
    | nil => exact absurd h.1 (by simp)
    | cons b y =>
      have hx' := List.pairwise_cons.1 hx
      have hy' := List.pairwise_cons.1 hy
      have h1 : key a ≤ key b := by
        rcases List.mem_cons.1 (h.symm.mem (e := b) (by simp)) with e | e
        · rw [e]; exact Int.le_refl _
        · exact hx'.1 b e
      have h2 : key b ≤ key a := by
        rcases List.mem_cons.1 (h.mem (e := a) (by simp)) with e | e
        · rw [e]; exact Int.le_refl _
        · exact hy'.1 a e
      have hk : key a = key b := Int.le_antisymm h1 h2
      have h3 := h.2 (key a)
      rw [List.filter_cons, List.filter_cons, if_pos (by simp), if_pos (by simp [hk])] at h3
      injection h3 with h3 h4
      subst h3
      rw [ih y hx'.2 hy'.2 ⟨by simpa using h.1, fun k => ?_⟩]
      have h5 := h.2 k
      rw [List.filter_cons, List.filter_cons] at h5
      by_cases hak : (key a == k) = true
      · rw [if_pos hak, if_pos hak] at h5
        injection h5
      · rw [if_neg hak, if_neg hak] at h5
        exact h5

/-- of a sorted list: an element at a place, and one further on -/
theorem Up.at {x : List α} (h : Up key x) {i j : Nat} {a b : α} (hij : i ≤ j) (ha : x[i]? = some a) (hb : x[j]? = some b) : key a ≤ key b := by
  rcases Nat.lt_or_ge i j with hlt | hge
  · obtain ⟨h1, e1⟩ := List.getElem?_eq_some_iff.1 ha
    obtain ⟨h2, e2⟩ := List.getElem?_eq_some_iff.1 hb
    have := List.pairwise_iff_getElem.1 h i j h1 h2 hlt
    rw [e1, e2] at this
    exact this
  · obtain rfl : i = j := by omega
    rw [ha] at hb
    injection hb with hb
    rw [hb]
    exact Int.le_refl _
theorem mem_at {x : List α} {a : α} (h : a ∈ x) : ∃ i : Nat, x[i]? = some a := List.mem_iff_getElem?.1 h

/-- insertion of one element: it goes ahead of those above it -/
theorem insert_up {u v : List α} {e : α} (h : Up key (u ++ v)) (hv : ∀ a ∈ v, key e < key a) (hu : ∀ i a, u[i]? = some a → i + 1 = u.length → key a ≤ key e) : Up key (u ++ e :: v) := by
  obtain ⟨h1, h2, h3⟩ := h.parts
  refine Up.app h1 (List.pairwise_cons.2 ⟨fun a ha => Int.le_of_lt (hv a ha), h2⟩) ?_
  intro a ha b hb
  have hae : key a ≤ key e := by
    obtain ⟨i, hi⟩ := mem_at ha
    have hl := (List.getElem?_eq_some_iff.1 hi).1
    obtain ⟨c, hc⟩ : ∃ c, u[u.length - 1]? = some c := ⟨_, List.getElem?_eq_getElem (by omega)⟩
    have := h1.at (i := i) (j := u.length - 1) (by omega) hi hc
    have := hu _ c hc (by omega)
    omega
  rcases List.mem_cons.1 hb with rfl | hb
  · exact hae
  · exact h3 a ha b hb
theorem insert_mix {u v : List α} {e : α} (hv : ∀ a ∈ v, key e < key a) : Mix key (u ++ v ++ [e]) (u ++ e :: v) := by
  have := (Mix.refl (key := key) u).app (Mix.swap (key := key) (x := v) (y := [e]) fun a ha b hb => by
    rw [List.mem_singleton.1 hb]; have := hv a ha; omega)
  simpa using this
/-- an element goes behind those that are not above it -/
theorem behind_up {u v : List α} {e : α} (h : Up key (u ++ v)) (hu : ∀ a ∈ u, key a < key e) (hv : ∀ a, v[0]? = some a → key e ≤ key a) : Up key (u ++ e :: v) := by
  obtain ⟨h1, h2, h3⟩ := h.parts
  have hev : ∀ a ∈ v, key e ≤ key a := by
    intro a ha
    obtain ⟨i, hi⟩ := mem_at ha
    have hl := (List.getElem?_eq_some_iff.1 hi).1
    obtain ⟨c, hc⟩ : ∃ c, v[0]? = some c := ⟨_, List.getElem?_eq_getElem (by omega)⟩
    have := h2.at (Nat.zero_le i) hc hi
    have := hv c hc
    omega
  refine Up.app h1 (List.pairwise_cons.2 ⟨hev, h2⟩) ?_
  intro a ha b hb
  rcases List.mem_cons.1 hb with rfl | hb
  · exact Int.le_of_lt (hu a ha)
  · exact h3 a ha b hb
theorem behind_mix {u v : List α} {e : α} (hu : ∀ a ∈ u, key a < key e) : Mix key (e :: u ++ v) (u ++ e :: v) := by
  have := (Mix.swap (key := key) (x := [e]) (y := u) fun a ha b hb => by
    rw [List.mem_singleton.1 ha]; have := hu b hb; omega).app (Mix.refl (key := key) v)
  simpa using this

/-- ONE MERGE: two sorted runs, x = x1 x2 and y = y1 y2, cut so that x1 is not above y2 and y1 is below x2: the two halves x1 y1 and x2 y2 are merged each for itself -/
theorem merge_cut {x1 x2 y1 y2 l r : List α} (hx : Up key (x1 ++ x2)) (hy : Up key (y1 ++ y2)) (h21 : ∀ a ∈ x2, ∀ b ∈ y1, key b < key a) (h12 : ∀ a ∈ x1, ∀ b ∈ y2, key a ≤ key b)
    (hl : Mix key (x1 ++ y1) l) (hlu : Up key l) (hr : Mix key (x2 ++ y2) r) (hru : Up key r) : Mix key (x1 ++ x2 ++ (y1 ++ y2)) (l ++ r) ∧ Up key (l ++ r) := by
  obtain ⟨a1, a2, a3⟩ := hx.parts
  obtain ⟨b1, b2, b3⟩ := hy.parts
  refine ⟨?_, hlu.app hru ?_⟩
  · have e1 : Mix key (x2 ++ y1) (y1 ++ x2) := Mix.swap fun a ha b hb => by have := h21 a ha b hb; omega
    have e2 : Mix key (x1 ++ (x2 ++ y1) ++ y2) (x1 ++ (y1 ++ x2) ++ y2) := ((Mix.refl x1).app e1).app (Mix.refl y2)
    have e3 : Mix key ((x1 ++ y1) ++ (x2 ++ y2)) (l ++ r) := hl.app hr
    have := e2.trans (by simpa using e3)
    simpa using this
  · intro a ha b hb
    rcases List.mem_append.1 (hl.symm.mem ha) with h | h <;> rcases List.mem_append.1 (hr.symm.mem hb) with g | g
    · exact a3 a h b g
    · exact h12 a h b g
    · exact Int.le_of_lt (h21 b g a h)
    · exact b3 a h b g
end Srt
end Go.Proofs.Ytajpggnmhkpbkaa
end
