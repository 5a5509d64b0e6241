/- Contracts: the reference's Amounts, May and Sum. A record of ten cells in a block of its own: written whole. Contracts: cmp.Compare, cmp.Or, posting.order, Less, Same; the reference's Ahead. Contracts: posting.Less, Same; the reference's Ahead. Plain facts for PostingReads: a posting's 63 bytes, and what is read of any bytes. -/
import Derived.Test.YtbmphlpmipkpcaaGreatRma44
import Derived.Deep.RegionWith
import Derived.Test.YtbmphlpmipkpcaaGreatRma1
import Derived.Deep.RegionHeld3
import Derived.Deep.QuietTactic
import Derived.BigQuiet
import Derived.Test.YtbmphlpmipkpcaaGreatRma43
import Derived.Test.YtbmphlpmipkpcaaGreatRma34

section
set_option linter.unusedVariables false
set_option linter.unusedSimpArgs false
namespace Go.Proofs.YtbmphlpmipkpcaaGreat
open Go.ChangeShapes Go.WideShapes Go.ChangeAt Go.RowKit

theorem new_row (w : World) (o : Obj) (n : Nat) (hn : n = w.heap.size) : (w.alloc o).heap[n]? = some o := by
  subst hn
  show (w.heap.push o)[w.heap.size]? = _
  simp

set_option maxHeartbeats 400000 in
theorem rAmounts_any (d t s k a0 a1 a2 a3 a4 a5 : Int) (w : World) :
    Calls Tryz.prog 158 #[.agg #[.int .i64 d, .int .u64 t, .int .i64 s, .int .i64 k, .int .i64 a0, .int .i64 a1, .int .i64 a2, .int .i64 a3, .int .i64 a4, .int .i64 a5]] w
      fun e w' => ∃ b, b < w'.heap.size ∧ e = .returned (.slice (some ⟨b, 0, none⟩) 6 6) ∧ w'.heap[b]? = some (.cells (Post.amRow [a0, a1, a2, a3, a4, a5]) 2 (0, 0)) ∧ Below w.heap.size w w' := by
  go_enter Tryz.func158, Tryz.ntmps158
  go_wp2
  go_ret
  exact ⟨_, by simp, rfl, new_row _ _ _ (by simp), balloc (balloc (Below.refl _ _) _) _⟩

theorem may_parts {d t s k : Int} {am : List Int} : Post.may d t s k am = (decide (1 ≤ k) && decide (k ≤ 5) && Post.cols k am && decide (0 ≤ d) && decide (d ≤ 1000000) && decide (1 ≤ s) && decide (s ≤ 200) && decide (Num.check t = 0)) := rfl

set_option maxHeartbeats 1000000 in
theorem rMay_any (d t s k a0 a1 a2 a3 a4 a5 : Int) (ht0 : 0 ≤ t) (ht1 : t ≤ 18446744073709551615) (w : World) :
    Calls Tryz.prog 92 #[.agg #[.int .i64 d, .int .u64 t, .int .i64 s, .int .i64 k, .int .i64 a0, .int .i64 a1, .int .i64 a2, .int .i64 a3, .int .i64 a4, .int .i64 a5]] w
      fun e w' => e = .returned (.bool (Post.may d t s k [a0, a1, a2, a3, a4, a5])) ∧ Below w.heap.size w w' := by
  have HC := Lib.hid (fun W => rCheck_any t ht0 ht1 W)
  have HM : Hid (∀ b, (∀ k1 : 1 ≤ k, ∀ k5 : k ≤ 5, ∀ d0 : 0 ≤ d, ∀ d1 : d ≤ 1000000, ∀ s1 : 1 ≤ s, ∀ s2 : s ≤ 200, Num.check t = 0 → b = Post.cols k [a0, a1, a2, a3, a4, a5]) → (¬ (1 ≤ k ∧ k ≤ 5 ∧ 0 ≤ d ∧ d ≤ 1000000 ∧ 1 ≤ s ∧ s ≤ 200 ∧ Num.check t = 0) → b = false) → b = Post.may d t s k [a0, a1, a2, a3, a4, a5]) := Lib.hid (by
    intro b h1 h2
    rw [may_parts]
    by_cases h : 1 ≤ k ∧ k ≤ 5 ∧ 0 ≤ d ∧ d ≤ 1000000 ∧ 1 ≤ s ∧ s ≤ 200 ∧ Num.check t = 0
    · obtain ⟨g1, g2, g3, g4, g5, g6, g7⟩ := h
      rw [h1 g1 g2 g3 g4 g5 g6 g7]; simp [*]
    · rw [h2 h]
      symm
      rw [Bool.eq_false_iff]
      intro hh
      simp only [Bool.and_eq_true, decide_eq_true_eq] at hh
      exact h ⟨hh.1.1.1.1.1.1.1, hh.1.1.1.1.1.1.2, hh.1.1.1.1.2, hh.1.1.1.2, hh.1.1.2, hh.1.2, hh.2⟩)
  generalize Post.may d t s k [a0, a1, a2, a3, a4, a5] = mm at *
  generalize Num.check t = ck at *
  have key : d < 0 ∨ 0 ≤ d ∧ 1000000 < d ∨ 0 ≤ d ∧ d ≤ 1000000 ∧ ck ≠ 0 ∨ 0 ≤ d ∧ d ≤ 1000000 ∧ ck = 0 ∧ s < 1 ∨ 0 ≤ d ∧ d ≤ 1000000 ∧ ck = 0 ∧ 1 ≤ s ∧ 200 < s ∨
    0 ≤ d ∧ d ≤ 1000000 ∧ ck = 0 ∧ 1 ≤ s ∧ s ≤ 200 ∧ k < 1 ∨ 0 ≤ d ∧ d ≤ 1000000 ∧ ck = 0 ∧ 1 ≤ s ∧ s ≤ 200 ∧ 1 ≤ k ∧ 5 < k ∨ 0 ≤ d ∧ d ≤ 1000000 ∧ ck = 0 ∧ 1 ≤ s ∧ s ≤ 200 ∧ 1 ≤ k ∧ k ≤ 5 := by omega
  rcases key with h | ⟨h0, h⟩ | ⟨h0, h1, h⟩ | ⟨h0, h1, h2, h⟩ | ⟨h0, h1, h2, h3, h⟩ | ⟨h0, h1, h2, h3, h4, h⟩ | ⟨h0, h1, h2, h3, h4, h5, h⟩ | ⟨h0, h1, h2, h3, h4, h5, h⟩
  · have HF := Lib.hid (HM.out false (fun _ _ _ _ _ _ _ => by omega) (fun _ => rfl))
    go_enter Tryz.func92, Tryz.ntmps92
    go_wp2
    go_ret
    exact ⟨ret_bool HF.out, balloc (Below.refl _ _) _⟩
  · have HF := Lib.hid (HM.out false (fun _ _ _ _ _ _ _ => by omega) (fun _ => rfl))
    go_enter Tryz.func92, Tryz.ntmps92
    go_wp2
    go_ret
    exact ⟨ret_bool HF.out, balloc (Below.refl _ _) _⟩
  · have HF := Lib.hid (HM.out false (fun _ _ _ _ _ _ _ => by omega) (fun _ => rfl))
    go_enter Tryz.func92, Tryz.ntmps92
    go_wp2_with fail
    refine (HC.out _).mono ?_
    rintro e w1 ⟨rfl, hb1⟩
    go_wp2
    go_ret
    exact ⟨ret_bool HF.out, below_call (balloc (Below.refl _ _) _) hb1⟩
  all_goals
    subst h2
    first
      | (have HF := Lib.hid (HM.out false (fun _ _ _ _ _ _ _ => by omega) (fun _ => rfl))
         go_enter Tryz.func92, Tryz.ntmps92
         go_wp2_with fail
         refine (HC.out _).mono ?_
         rintro e w1 ⟨rfl, hb1⟩
         have hz1 : w.heap.size < w1.heap.size := by have := hb1.size; simp at this; omega
         have hc1 := (bcell hb1).1
         go_wp2
         go_ret
         exact ⟨ret_bool HF.out, below_call (balloc (Below.refl _ _) _) hb1⟩)
      | skip
  have HF := Lib.hid (HM.out _ (fun _ _ _ _ _ _ _ => rfl) (fun hn => absurd ⟨h5, h, h0, h1, h3, h4, rfl⟩ hn))
  go_enter Tryz.func92, Tryz.ntmps92
  go_wp2_with fail
  refine (HC.out _).mono ?_
  rintro e w1 ⟨rfl, hb1⟩
  have hz1 : w.heap.size < w1.heap.size := by have := hb1.size; simp at this; omega
  have hc1 := (bcell hb1).1
  have HB1 := Lib.hid (below_call (balloc (Below.refl w.heap.size w) _) hb1)
  generalize hcol : Post.cols k [a0, a1, a2, a3, a4, a5] = cc at *
  have HCC := Lib.hid hcol; clear hcol
  have hck : ∀ j, w1.cell? ⟨w.heap.size, j, none⟩ = (#[.int .i64 d, .int .u64 t, .int .i64 s, .int .i64 k, .int .i64 a0, .int .i64 a1, .int .i64 a2, .int .i64 a3, .int .i64 a4, .int .i64 a5] : Array Value)[j]? := by
    intro j
    rw [hc1 w.heap.size j (by simp)]
    exact World.cell?_alloc_mark w _ _ (0, 0) j
  have HCK := Lib.hid hck
  clear hc1 hb1
  go_wp2_with fail
  have HAM := Lib.hid (fun W => rAmounts_any d t s k a0 a1 a2 a3 a4 a5 W)
  have HCO := Lib.hid (fun b (W : World) (hb : b < W.heap.size) (hr : W.heap[b]? = some (.cells (Post.amRow [a0, a1, a2, a3, a4, a5]) 2 (0, 0))) =>
    HCC.out ▸ rColumns_any k [a0, a1, a2, a3, a4, a5] 6 b 0 h5 h rfl (by omega) W hb (fun i hi => by rw [Nat.zero_add, cell_of_row W b i _ _ _ hr]; exact Post.amRow_at hi))
  go_region_with (first
    | (go_at_call 158; refine (HAM.out _).mono ?_; rintro e w2 ⟨b2, hs2, rfl, hr2, hb2⟩; have hc2 : ∀ j, w2.cell? ⟨w.heap.size, j, none⟩ = (#[.int .i64 d, .int .u64 t, .int .i64 s, .int .i64 k, .int .i64 a0, .int .i64 a1, .int .i64 a2, .int .i64 a3, .int .i64 a4, .int .i64 a5] : Array Value)[j]? := fun j => (hb2.cell (p := ⟨w.heap.size, j, none⟩) (by exact hz1)).trans (HCK.out j))
    | (go_at_call 157; refine (HCO.out b2 _ (by assumption) (by assumption)).mono ?_; rintro e w3 ⟨rfl, hb3⟩))
  all_goals
    have HB3 := Lib.hid (below_call (HB1.out.drew.trans (hb2.mono HB1.out.size)) hb3)
    go_wp2
    go_ret
    exact ⟨ret_bool HF.out, HB3.out⟩

theorem row_set_far {w : World} {g g' : Nat} {o : Option Obj} (h : w.heap[g']? = o) (hn : g' ≠ g) (i : Nat) (v : Value) : (w.setCell ⟨g, i, none⟩ v).heap[g']? = o := (heap_setCell_other w ⟨g, i, none⟩ g' v hn).trans h
theorem seven_far {w : World} {g g' : Nat} {o : Option Obj} (h : w.heap[g']? = o) (hn : g' ≠ g) (v0 v1 v2 v3 v4 v5 v6 : Value) :
    (((((((w.setCell ⟨g, 0, none⟩ v0).setCell ⟨g, 1, none⟩ v1).setCell ⟨g, 2, none⟩ v2).setCell ⟨g, 3, none⟩ v3).setCell ⟨g, 4, none⟩ v4).setCell ⟨g, 5, none⟩ v5).setCell ⟨g, 6, none⟩ v6).heap[g']? = o :=
  row_set_far (row_set_far (row_set_far (row_set_far (row_set_far (row_set_far (row_set_far h hn _ _) hn _ _) hn _ _) hn _ _) hn _ _) hn _ _) hn _ _
theorem row_alloc {w : World} {g : Nat} {ob : Obj} (h : w.heap[g]? = some ob) (o : Obj) : (w.alloc o).heap[g]? = some ob := by
  have hlt : g < w.heap.size := by
    rcases Nat.lt_or_ge g w.heap.size with h1 | h1
    · exact h1
    · rw [Array.getElem?_eq_none h1] at h; cases h
  exact (Below.heap_alloc w o g hlt).trans h
theorem seven_below {B : Nat} {a w : World} {g : Nat} (h : Below B a w) (hp : B ≤ g) (v0 v1 v2 v3 v4 v5 v6 : Value) :
    Below B a (((((((w.setCell ⟨g, 0, none⟩ v0).setCell ⟨g, 1, none⟩ v1).setCell ⟨g, 2, none⟩ v2).setCell ⟨g, 3, none⟩ v3).setCell ⟨g, 4, none⟩ v4).setCell ⟨g, 5, none⟩ v5).setCell ⟨g, 6, none⟩ v6) :=
  bset (bset (bset (bset (bset (bset (bset h hp _) hp _) hp _) hp _) hp _) hp _) hp _

end Go.Proofs.YtbmphlpmipkpcaaGreat
end

section
set_option linter.unusedVariables false
set_option linter.unusedSimpArgs false
namespace Go.Proofs.YtbmphlpmipkpcaaGreat
open Go.RowKit

theorem ten_row {w : World} {g : Nat} {t : TypeId} {z0 z1 z2 z3 z4 z5 z6 z7 z8 z9 : Value} (h : w.heap[g]? = some (.cells #[z0, z1, z2, z3, z4, z5, z6, z7, z8, z9] t (0, 0))) (v0 v1 v2 v3 v4 v5 v6 v7 v8 v9 : Value) :
    ((((((((((w.setCell ⟨g, 0, none⟩ v0).setCell ⟨g, 1, none⟩ v1).setCell ⟨g, 2, none⟩ v2).setCell ⟨g, 3, none⟩ v3).setCell ⟨g, 4, none⟩ v4).setCell ⟨g, 5, none⟩ v5).setCell ⟨g, 6, none⟩ v6).setCell ⟨g, 7, none⟩ v7).setCell ⟨g, 8, none⟩ v8).setCell ⟨g, 9, none⟩ v9).heap[g]? = some (.cells #[v0, v1, v2, v3, v4, v5, v6, v7, v8, v9] t (0, 0)) := by
  rw [heap_setCell_same _ _ _ _ _ _ (heap_setCell_same _ _ _ _ _ _ (heap_setCell_same _ _ _ _ _ _ (heap_setCell_same _ _ _ _ _ _ (heap_setCell_same _ _ _ _ _ _ (heap_setCell_same _ _ _ _ _ _ (heap_setCell_same _ _ _ _ _ _ (heap_setCell_same _ _ _ _ _ _ (heap_setCell_same _ _ _ _ _ _ (heap_setCell_same _ _ _ _ _ _ h)))))))))]
  simp only [List.setIfInBounds_toArray, List.set_cons_succ, List.set_cons_zero]
theorem ten_below {w a : World} {B g : Nat} (h : Below B a w) (hg : B ≤ g) (v0 v1 v2 v3 v4 v5 v6 v7 v8 v9 : Value) : Below B a ((((((((((w.setCell ⟨g, 0, none⟩ v0).setCell ⟨g, 1, none⟩ v1).setCell ⟨g, 2, none⟩ v2).setCell ⟨g, 3, none⟩ v3).setCell ⟨g, 4, none⟩ v4).setCell ⟨g, 5, none⟩ v5).setCell ⟨g, 6, none⟩ v6).setCell ⟨g, 7, none⟩ v7).setCell ⟨g, 8, none⟩ v8).setCell ⟨g, 9, none⟩ v9) :=
  (((((((((h.setCell (p := ⟨g, 0, none⟩) hg v0).setCell (p := ⟨g, 1, none⟩) hg v1).setCell (p := ⟨g, 2, none⟩) hg v2).setCell (p := ⟨g, 3, none⟩) hg v3).setCell (p := ⟨g, 4, none⟩) hg v4).setCell (p := ⟨g, 5, none⟩) hg v5).setCell (p := ⟨g, 6, none⟩) hg v6).setCell (p := ⟨g, 7, none⟩) hg v7).setCell (p := ⟨g, 8, none⟩) hg v8).setCell (p := ⟨g, 9, none⟩) hg v9

end Go.Proofs.YtbmphlpmipkpcaaGreat
end

section
set_option linter.unusedVariables false
set_option linter.unusedSimpArgs false
namespace Go.Proofs.YtbmphlpmipkpcaaGreat
open Go.RowKit

def cmpI (x y : Int) : Int := if x < y then -1 else if y < x then 1 else 0
/-- the first of two that is not 0 -/
def orI (a c : Int) : Int := if a = 0 then c else a
def ordI (x y : Pst) : Int := orI (cmpI x.t y.t) (cmpI x.s y.s)
def lessP (x y : Pst) : Bool := decide (x.t < y.t) || (decide (x.t = y.t) && decide (x.s < y.s))
theorem ord_less (x y : Pst) : decide (ordI x y < 0) = lessP x y := by
  have c1 : ∀ a b : Int, a < b → cmpI a b = -1 := fun a b h => if_pos h
  have c2 : ∀ a : Int, cmpI a a = 0 := fun a => by unfold cmpI; rw [if_neg (by omega), if_neg (by omega)]
  have c3 : ∀ a b : Int, b < a → cmpI a b = 1 := fun a b h => by unfold cmpI; rw [if_neg (by omega), if_pos h]
  unfold ordI lessP
  rcases (by omega : x.t < y.t ∨ x.t = y.t ∨ y.t < x.t) with h | h | h
  · rw [c1 _ _ h]; simp [orI, h]
  · rw [h, c2]
    rcases (by omega : x.s < y.s ∨ x.s = y.s ∨ y.s < x.s) with g | g | g
    · rw [c1 _ _ g]; simp [orI, g]
    · rw [g, c2]; simp [orI]
    · rw [c3 _ _ g]; simp [orI]; omega
  · rw [c3 _ _ h]; simp [orI]; omega
def Pst.arr (x : Pst) : Array Value := #[.int .i64 x.d, .int .u64 x.t, .int .i64 x.s, .int .i64 x.k, .int .i64 x.a0, .int .i64 x.a1, .int .i64 x.a2, .int .i64 x.a3, .int .i64 x.a4, .int .i64 x.a5]

end Go.Proofs.YtbmphlpmipkpcaaGreat
end

section
set_option linter.unusedVariables false
set_option linter.unusedSimpArgs false
namespace Go.Proofs.YtbmphlpmipkpcaaGreat
open Go.RowKit

theorem eqAny (x y : Pst) : ∃ q : Bool, ∀ w : World, (binOp .eql 30 (.agg x.arr) (.agg y.arr)).run Tryz.prog w = .ok (.bool q) w := by
  refine ⟨(x.d == y.d && (x.t == y.t && (x.s == y.s && (x.k == y.k && (x.a0 == y.a0 && (x.a1 == y.a1 && (x.a2 == y.a2 && (x.a3 == y.a3 && (x.a4 == y.a4 && (x.a5 == y.a5)))))))))), fun w => ?_⟩
  have hS : Tryz.prog.underlying 30 = some (.struct (Tryz.prog.fieldsOf 30)) := by kernel_rfl
  have hp : Tryz.prog.stoodInHeld 30 = false := by kernel_rfl
  unfold Pst.arr
  rw [run_eql_struct, show (10000 : Nat) = 9999 + 1 from rfl, run_equalIn_agg w 9999 30 _ _ hS hp]
  simp only [Program.fieldsOf, Tryz.underlying30]
  go_simp
  repeat' split
  all_goals simp [*]
theorem guardPst' (x y : Operand) (xs ys : Array Value) (w : World) : (eqGuard .eql 30 x y (.agg xs) (.agg ys)).run Tryz.prog w = .ok () w := run_eqGuard_agg w _ _ _ _ _ _ (by kernel_rfl)
end Go.Proofs.YtbmphlpmipkpcaaGreat
end

section
set_option linter.unusedVariables false
set_option linter.unusedSimpArgs false
namespace Go.Proofs.YtbmphlpmipkpcaaGreat
open Go.RowKit

theorem beVal_ofBe (l : List UInt8) : beVal l = Wire.ofBe l := by
  unfold beVal Wire.ofBe
  congr 1
  funext n b
  unfold Wire.bstep
  omega
/-- what is left of bytes behind a place -/
def stAt (b : List UInt8) (o : Nat) : Option (List UInt8) := if o ≤ b.length then some (b.drop o) else none
def vAt (b : List UInt8) (o k : Nat) : Nat := rNumV (stAt b o) (k : Int)
theorem stAt_zero (b : List UInt8) : stAt b 0 = some b := by unfold stAt; rw [if_pos (Nat.zero_le _)]; rfl
theorem stAt_num (b : List UInt8) (o k : Nat) (hk : k = 1 ∨ k = 2 ∨ k = 4 ∨ k = 8) : rNumS (stAt b o) (k : Int) = stAt b (o + k) := by
  have hs : rSize (k : Int) = true := by rcases hk with rfl | rfl | rfl | rfl <;> rfl
  unfold rNumS
  rw [if_pos hs]
  unfold stAt
  by_cases h : o ≤ b.length
  · rw [if_pos h]
    by_cases h2 : o + k ≤ b.length
    · rw [if_pos h2, (rTake_fit (l := b.drop o) (n := k) (by rw [List.length_drop]; omega)).2, List.drop_drop]
    · rw [if_neg h2]
      exact (rTake_bad (fun l e => by injection e with e; subst e; rw [List.length_drop]; omega)).2
  · rw [if_neg h, if_neg (by omega)]; rfl
theorem stAt_end (b : List UInt8) : stAt b 63 = some [] ↔ b.length = 63 := by
  unfold stAt
  by_cases h : 63 ≤ b.length
  · rw [if_pos h]
    simp only [Option.some.injEq, List.drop_eq_nil_iff]; omega
  · rw [if_neg h]
    constructor
    · intro h; cases h
    · intro h2; omega
theorem vAt_lt (b : List UInt8) (o k : Nat) : vAt b o k < 256 ^ k := rNumV_lt _ k
theorem vAt_num {b : List UInt8} {o : Nat} (k : Nat) (h : o ≤ b.length) : numV (b.drop o) (k : Int) = vAt b o k := by
  unfold vAt stAt
  rw [if_pos h, (rNum_t _ _).2]
theorem be_vAt {b : List UInt8} {o k : Nat} (hk : k = 1 ∨ k = 2 ∨ k = 4 ∨ k = 8) (h : o + k ≤ b.length) : Wire.be (vAt b o k) k = (b.drop o).take k := by
  have hs : rSize (k : Int) = true := by rcases hk with rfl | rfl | rfl | rfl <;> rfl
  have hl : ((b.drop o).take k).length = k := by rw [List.length_take, List.length_drop]; omega
  unfold vAt rNumV stAt
  rw [if_pos hs, if_pos (by omega)]
  unfold rBy
  rw [(rTake_fit (l := b.drop o) (n := k) (by rw [List.length_drop]; omega)).1]
  show Wire.be (beVal ((b.drop o).take k)) k = _
  have := Wire.be_ofBe ((b.drop o).take k)
  rwa [hl, ← beVal_ofBe] at this
theorem cut_step (b : List UInt8) (o k : Nat) : (b.drop o).take k ++ b.drop (o + k) = b.drop o := by
  rw [← List.drop_drop, List.take_append_drop]
def pOf (b : List UInt8) : Pst := ⟨vAt b 10 4, vAt b 0 8, vAt b 8 2, vAt b 14 1, wrap64 (vAt b 15 8), wrap64 (vAt b 23 8), wrap64 (vAt b 31 8), wrap64 (vAt b 39 8), wrap64 (vAt b 47 8), wrap64 (vAt b 55 8)⟩
def zeroP : Pst := ⟨0, 0, 0, 0, 0, 0, 0, 0, 0, 0⟩
def encH (p : Pst) : List UInt8 := ((Wire.be (u64 p.t) 8 ++ Wire.be (u64 p.s) 2) ++ Wire.be (u64 p.d) 4) ++ Wire.be (u64 p.k) 1
def encA (am : List Int) : List UInt8 := am.flatMap fun a => Wire.be (u64 a) 8
def encP (p : Pst) : List UInt8 := encH p ++ encA p.am
theorem u64_wrap (N : Nat) (h : N < 18446744073709551616) : u64 (wrap64 (N : Int)) = N := by unfold u64 wrap64; omega
theorem u64_of (N : Nat) (h : N < 18446744073709551616) : u64 (N : Int) = N := by unfold u64; omega
theorem encP_of {b : List UInt8} (h : b.length = 63) : encP (pOf b) = b := by
  have l := fun o k => vAt_lt b o k
  unfold encP encH encA Pst.am pOf
  simp only [List.flatMap_cons, List.flatMap_nil, List.append_nil]
  rw [u64_of _ (Nat.lt_of_lt_of_le (l 0 8) (by decide)), u64_of _ (Nat.lt_of_lt_of_le (l 8 2) (by decide)), u64_of _ (Nat.lt_of_lt_of_le (l 10 4) (by decide)), u64_of _ (Nat.lt_of_lt_of_le (l 14 1) (by decide))]
  rw [u64_wrap _ (Nat.lt_of_lt_of_le (l 15 8) (by decide)), u64_wrap _ (Nat.lt_of_lt_of_le (l 23 8) (by decide)), u64_wrap _ (Nat.lt_of_lt_of_le (l 31 8) (by decide)), u64_wrap _ (Nat.lt_of_lt_of_le (l 39 8) (by decide)), u64_wrap _ (Nat.lt_of_lt_of_le (l 47 8) (by decide)), u64_wrap _ (Nat.lt_of_lt_of_le (l 55 8) (by decide))]
  rw [be_vAt (by decide) (by omega), be_vAt (by decide) (by omega), be_vAt (by decide) (by omega), be_vAt (by decide) (by omega), be_vAt (by decide) (by omega), be_vAt (by decide) (by omega), be_vAt (by decide) (by omega), be_vAt (by decide) (by omega), be_vAt (by decide) (by omega), be_vAt (by decide) (by omega)]
  have e : b.drop 63 = [] := List.drop_of_length_le (by omega)
  have s9 := cut_step b 55 8
  rw [show 55 + 8 = 63 from rfl, e, List.append_nil] at s9
  simp only [List.append_assoc]
  rw [s9, cut_step b 47 8, cut_step b 39 8, cut_step b 31 8, cut_step b 23 8, cut_step b 15 8, cut_step b 14 1, cut_step b 10 4, cut_step b 8 2, cut_step b 0 8]
  rfl
end Go.Proofs.YtbmphlpmipkpcaaGreat
end
