/- PostingOrders returns true for every three postings, and leaves the memory that was there as it was. -/
import Derived.Test.YthpcillamglmiaaPOrdC
import Derived.Test.YthpcillamglmiaaPOrdP
import Derived.Test.YthpcillamglmiaaBytes
import Derived.Test.YthpcillamglmiaaLater
set_option linter.unusedVariables false
set_option linter.unusedSimpArgs false
namespace Go.Proofs.Ythpcillamglmiaa
open Go.RowKit
theorem less_irr (x : Pst) : lessP x x = false := by unfold lessP; simp
theorem less_asym {x y : Pst} (h : lessP x y = true) : lessP y x = false := by
  unfold lessP at *
  simp only [Bool.or_eq_true, Bool.and_eq_true, decide_eq_true_eq] at h
  rw [Bool.or_eq_false_iff, Bool.and_eq_false_iff]
  simp only [decide_eq_false_iff_not]
  omega
theorem less_trans {x y z : Pst} (h : lessP x y = true) (h2 : lessP y z = true) : lessP x z = true := by
  unfold lessP at *
  simp only [Bool.or_eq_true, Bool.and_eq_true, decide_eq_true_eq] at *
  omega
theorem less_same (x y : Pst) : (decide (x.t = y.t) && decide (x.s = y.s)) = (!lessP x y && !lessP y x) := by
  unfold lessP
  rw [Bool.eq_iff_iff]
  simp
  omega

set_option maxHeartbeats 400000 in
theorem same_any (x y : Pst) (q : Bool) (hq : ∀ W : World, (binOp .eql 30 (.agg x.arr) (.agg y.arr)).run Try.prog W = .ok (.bool q) W) (w : World) : Calls Try.prog 21 #[.agg x.arr, .agg y.arr] w fun e w' => e = .returned (.bool q) ∧ Below w.heap.size w w' := by
  have hG := guardPst'
  have HB0 := Lib.hid (fun o o' => ((Below.refl w.heap.size w).alloc (Nat.le_refl _) o).alloc (by simp) o')
  obtain ⟨d, t, s, k, a0, a1, a2, a3, a4, a5⟩ := x
  obtain ⟨d', t', s', k', b0, b1, b2, b3, b4, b5⟩ := y
  unfold Pst.arr at *
  simp only at hq ⊢
  go_enter Try.func21, Try.ntmps21
  go_wp2
  go_ret
  exact ⟨rfl, HB0.out _ _⟩

def keyP (x : Pst) : List UInt8 := Wire.be x.t.toNat 8 ++ Wire.be x.s.toNat 2
theorem may_nat {x : Pst} (hm : Post.may x.d x.t x.s x.k [x.a0, x.a1, x.a2, x.a3, x.a4, x.a5] = true) : (0 ≤ x.d ∧ x.d ≤ 1000000) ∧ (1 ≤ x.s ∧ x.s ≤ 200) ∧ (1 ≤ x.k ∧ x.k ≤ 5) := by
  rw [may_parts] at hm
  simp only [Bool.and_eq_true, decide_eq_true_eq] at hm
  omega
theorem pKeyP_any (x : Pst) (ht : 0 ≤ x.t ∧ x.t ≤ 18446744073709551615) (hm : Post.may x.d x.t x.s x.k [x.a0, x.a1, x.a2, x.a3, x.a4, x.a5] = true) (w : World) :
    Calls Try.prog 23 #[.agg #[.int .i64 x.d, .int .u64 x.t, .int .i64 x.s, .int .i64 x.k, .int .i64 x.a0, .int .i64 x.a1, .int .i64 x.a2, .int .i64 x.a3, .int .i64 x.a4, .int .i64 x.a5]] w fun e w' => ∃ u, e = .returned (.tuple #[u, .int .i64 0]) ∧ BS w' u (keyP x) ∧ Below w.heap.size w w' := by
  obtain ⟨⟨d0, d1⟩, ⟨s0, s1⟩, ⟨k0, k1⟩⟩ := may_nat hm
  obtain ⟨d, t, s, k, a0, a1, a2, a3, a4, a5⟩ := x
  simp only at *
  obtain ⟨D, rfl⟩ := Int.eq_ofNat_of_zero_le d0
  obtain ⟨T, rfl⟩ := Int.eq_ofNat_of_zero_le ht.1
  obtain ⟨S, rfl⟩ := Int.eq_ofNat_of_zero_le (show 0 ≤ s by omega)
  obtain ⟨K, rfl⟩ := Int.eq_ofNat_of_zero_le (show 0 ≤ k by omega)
  have := pKey_any T S D K a0 a1 a2 a3 a4 a5 (by omega) (by omega) (by omega) (by omega) w hm
  exact this
theorem keyP_less {x y : Pst} (hx : 0 ≤ x.t ∧ x.t ≤ 18446744073709551615) (hy : 0 ≤ y.t ∧ y.t ≤ 18446744073709551615) (sx : 1 ≤ x.s ∧ x.s ≤ 200) (sy : 1 ≤ y.s ∧ y.s ≤ 200) :
    Op.bytesLess (keyP x) (keyP y) = lessP x y ∧ (keyP x == keyP y) = (!lessP x y && !lessP y x) := by
  have e1 : ((x.t.toNat : Nat) : Int) = x.t := Int.toNat_of_nonneg hx.1
  have e2 : ((y.t.toNat : Nat) : Int) = y.t := Int.toNat_of_nonneg hy.1
  have e3 : ((x.s.toNat : Nat) : Int) = x.s := Int.toNat_of_nonneg (by omega)
  have e4 : ((y.s.toNat : Nat) : Int) = y.s := Int.toNat_of_nonneg (by omega)
  have h1 := Wire.key_less (T := x.t.toNat) (S := x.s.toNat) (T' := y.t.toNat) (S' := y.s.toNat) (by omega) (by omega) (by omega) (by omega)
  have h2 := Wire.key_same (T := x.t.toNat) (S := x.s.toNat) (T' := y.t.toNat) (S' := y.s.toNat) (by omega) (by omega) (by omega) (by omega)
  rw [e1, e2, e3, e4] at h1 h2
  exact ⟨h1, h2.trans (less_same x y)⟩
open Go.ChangeShapes Go.WideShapes Go.ChangeAt Go.Deep in
set_option maxRecDepth 10000 in
theorem open_postingO {H : Type} {enc : TypeId × Value → H} {W : World} {base : Nat} {r : Reach} {held : Bool} {spare : Nat → Bool} {b0 : Nat} {v : Value} {d : DataW H} {ps : List MemPlace} (hv : Value.okWide Try.prog W r b0 30 v)
    (h : DataW.Trod enc Try.prog W base spare held 30 v d ps) : ∃ x : Pst, v = .agg #[.int .i64 x.d, .int .u64 x.t, .int .i64 x.s, .int .i64 x.k, .int .i64 x.a0, .int .i64 x.a1, .int .i64 x.a2, .int .i64 x.a3, .int .i64 x.a4, .int .i64 x.a5] ∧ x.wf := by
  obtain ⟨cs, rfl, hsz⟩ := okWide_struct Try.underlying30 hv
  obtain ⟨fuel, hf⟩ := h
  obtain ⟨x, hx, hw⟩ := open_post hf
  refine ⟨x, ?_, hw⟩
  have : cs.toList = x.cells := hx
  obtain ⟨l⟩ := cs
  have hl : l = x.cells := this
  rw [hl]
  rfl
end Go.Proofs.Ythpcillamglmiaa
namespace Go.Proofs.Ythpcillamglmiaa.postingOrders
open Go.ChangeShapes Go.WideShapes Go.ChangeAt Go.RowKit

set_option maxRecDepth 4000 in
set_option maxHeartbeats 4000000 in
theorem walk (x y z : Pst) (hx : x.wf) (hy : y.wf) (hz : z.wf) (w : World) :
    Calls Try.prog 7 #[.agg #[.int .i64 x.d, .int .u64 x.t, .int .i64 x.s, .int .i64 x.k, .int .i64 x.a0, .int .i64 x.a1, .int .i64 x.a2, .int .i64 x.a3, .int .i64 x.a4, .int .i64 x.a5], .agg #[.int .i64 y.d, .int .u64 y.t, .int .i64 y.s, .int .i64 y.k, .int .i64 y.a0, .int .i64 y.a1, .int .i64 y.a2, .int .i64 y.a3, .int .i64 y.a4, .int .i64 y.a5], .agg #[.int .i64 z.d, .int .u64 z.t, .int .i64 z.s, .int .i64 z.k, .int .i64 z.a0, .int .i64 z.a1, .int .i64 z.a2, .int .i64 z.a3, .int .i64 z.a4, .int .i64 z.a5]] w fun e w' => e = .returned (.bool true) ∧ Below w.heap.size w w' := by
  have hxt := u64_bdW hx.2.1
  have hyt := u64_bdW hy.2.1
  have HLS : Hid (∀ (x y : Pst) W, Calls Try.prog 19 #[.agg #[.int .i64 x.d, .int .u64 x.t, .int .i64 x.s, .int .i64 x.k, .int .i64 x.a0, .int .i64 x.a1, .int .i64 x.a2, .int .i64 x.a3, .int .i64 x.a4, .int .i64 x.a5], .agg #[.int .i64 y.d, .int .u64 y.t, .int .i64 y.s, .int .i64 y.k, .int .i64 y.a0, .int .i64 y.a1, .int .i64 y.a2, .int .i64 y.a3, .int .i64 y.a4, .int .i64 y.a5]] W fun e w' => e = .returned (.bool (lessP x y)) ∧ Below W.heap.size W w') := Lib.hid (fun x y W => less_any x y W)
  have HAH : Hid (∀ (x y : Pst) W, Calls Try.prog 20 #[.agg #[.int .i64 x.d, .int .u64 x.t, .int .i64 x.s, .int .i64 x.k, .int .i64 x.a0, .int .i64 x.a1, .int .i64 x.a2, .int .i64 x.a3, .int .i64 x.a4, .int .i64 x.a5], .agg #[.int .i64 y.d, .int .u64 y.t, .int .i64 y.s, .int .i64 y.k, .int .i64 y.a0, .int .i64 y.a1, .int .i64 y.a2, .int .i64 y.a3, .int .i64 y.a4, .int .i64 y.a5]] W fun e w' => e = .returned (.bool (lessP x y)) ∧ Below W.heap.size W w') := Lib.hid (fun x y W => ahead_any x y W)
  have HMX := Lib.hid (fun W => rMay_any x.d x.t x.s x.k x.a0 x.a1 x.a2 x.a3 x.a4 x.a5 hxt.1 hxt.2 W)
  have HMY := Lib.hid (fun W => rMay_any y.d y.t y.s y.k y.a0 y.a1 y.a2 y.a3 y.a4 y.a5 hyt.1 hyt.2 W)
  obtain ⟨q, hq⟩ := eqAny x y
  have hE : ∀ W, (binOp .eql 30 (.agg #[.int .i64 x.d, .int .u64 x.t, .int .i64 x.s, .int .i64 x.k, .int .i64 x.a0, .int .i64 x.a1, .int .i64 x.a2, .int .i64 x.a3, .int .i64 x.a4, .int .i64 x.a5]) (.agg #[.int .i64 y.d, .int .u64 y.t, .int .i64 y.s, .int .i64 y.k, .int .i64 y.a0, .int .i64 y.a1, .int .i64 y.a2, .int .i64 y.a3, .int .i64 y.a4, .int .i64 y.a5])).run Try.prog W = .ok (.bool q) W := hq
  have hG := guardPst'
  have HSM : Hid (∀ W, Calls Try.prog 21 #[.agg #[.int .i64 x.d, .int .u64 x.t, .int .i64 x.s, .int .i64 x.k, .int .i64 x.a0, .int .i64 x.a1, .int .i64 x.a2, .int .i64 x.a3, .int .i64 x.a4, .int .i64 x.a5], .agg #[.int .i64 y.d, .int .u64 y.t, .int .i64 y.s, .int .i64 y.k, .int .i64 y.a0, .int .i64 y.a1, .int .i64 y.a2, .int .i64 y.a3, .int .i64 y.a4, .int .i64 y.a5]] W fun e w' => e = .returned (.bool q) ∧ Below W.heap.size W w') := Lib.hid (fun W => same_any x y q hq W)
  clear hq
  go_enter Try.func7, Try.ntmps7
  go_wp2_with fail
  have hrx : (((w.alloc (.cells #[.int .i64 x.d, .int .u64 x.t, .int .i64 x.s, .int .i64 x.k, .int .i64 x.a0, .int .i64 x.a1, .int .i64 x.a2, .int .i64 x.a3, .int .i64 x.a4, .int .i64 x.a5] 30)).alloc (.cells #[.int .i64 y.d, .int .u64 y.t, .int .i64 y.s, .int .i64 y.k, .int .i64 y.a0, .int .i64 y.a1, .int .i64 y.a2, .int .i64 y.a3, .int .i64 y.a4, .int .i64 y.a5] 30)).alloc (.cells #[.int .i64 z.d, .int .u64 z.t, .int .i64 z.s, .int .i64 z.k, .int .i64 z.a0, .int .i64 z.a1, .int .i64 z.a2, .int .i64 z.a3, .int .i64 z.a4, .int .i64 z.a5] 30)).heap[w.heap.size]? = some (.cells #[.int .i64 x.d, .int .u64 x.t, .int .i64 x.s, .int .i64 x.k, .int .i64 x.a0, .int .i64 x.a1, .int .i64 x.a2, .int .i64 x.a3, .int .i64 x.a4, .int .i64 x.a5] 30 (0, 0)) := row_allocW (row_allocW (new_rowW _ _ _ rfl) _) _
  have hry : (((w.alloc (.cells #[.int .i64 x.d, .int .u64 x.t, .int .i64 x.s, .int .i64 x.k, .int .i64 x.a0, .int .i64 x.a1, .int .i64 x.a2, .int .i64 x.a3, .int .i64 x.a4, .int .i64 x.a5] 30)).alloc (.cells #[.int .i64 y.d, .int .u64 y.t, .int .i64 y.s, .int .i64 y.k, .int .i64 y.a0, .int .i64 y.a1, .int .i64 y.a2, .int .i64 y.a3, .int .i64 y.a4, .int .i64 y.a5] 30)).alloc (.cells #[.int .i64 z.d, .int .u64 z.t, .int .i64 z.s, .int .i64 z.k, .int .i64 z.a0, .int .i64 z.a1, .int .i64 z.a2, .int .i64 z.a3, .int .i64 z.a4, .int .i64 z.a5] 30)).heap[w.heap.size + 1]? = some (.cells #[.int .i64 y.d, .int .u64 y.t, .int .i64 y.s, .int .i64 y.k, .int .i64 y.a0, .int .i64 y.a1, .int .i64 y.a2, .int .i64 y.a3, .int .i64 y.a4, .int .i64 y.a5] 30 (0, 0)) := row_allocW (new_rowW _ _ _ (by simp)) _
  have hrz : (((w.alloc (.cells #[.int .i64 x.d, .int .u64 x.t, .int .i64 x.s, .int .i64 x.k, .int .i64 x.a0, .int .i64 x.a1, .int .i64 x.a2, .int .i64 x.a3, .int .i64 x.a4, .int .i64 x.a5] 30)).alloc (.cells #[.int .i64 y.d, .int .u64 y.t, .int .i64 y.s, .int .i64 y.k, .int .i64 y.a0, .int .i64 y.a1, .int .i64 y.a2, .int .i64 y.a3, .int .i64 y.a4, .int .i64 y.a5] 30)).alloc (.cells #[.int .i64 z.d, .int .u64 z.t, .int .i64 z.s, .int .i64 z.k, .int .i64 z.a0, .int .i64 z.a1, .int .i64 z.a2, .int .i64 z.a3, .int .i64 z.a4, .int .i64 z.a5] 30)).heap[w.heap.size + 2]? = some (.cells #[.int .i64 z.d, .int .u64 z.t, .int .i64 z.s, .int .i64 z.k, .int .i64 z.a0, .int .i64 z.a1, .int .i64 z.a2, .int .i64 z.a3, .int .i64 z.a4, .int .i64 z.a5] 30 (0, 0)) := new_rowW _ _ _ (by simp)
  have hb := (((Below.refl w.heap.size w).alloc (Nat.le_refl _) (.cells #[.int .i64 x.d, .int .u64 x.t, .int .i64 x.s, .int .i64 x.k, .int .i64 x.a0, .int .i64 x.a1, .int .i64 x.a2, .int .i64 x.a3, .int .i64 x.a4, .int .i64 x.a5] 30)).alloc (by simp) (.cells #[.int .i64 y.d, .int .u64 y.t, .int .i64 y.s, .int .i64 y.k, .int .i64 y.a0, .int .i64 y.a1, .int .i64 y.a2, .int .i64 y.a3, .int .i64 y.a4, .int .i64 y.a5] 30)).alloc (by simp; omega) (.cells #[.int .i64 z.d, .int .u64 z.t, .int .i64 z.s, .int .i64 z.k, .int .i64 z.a0, .int .i64 z.a1, .int .i64 z.a2, .int .i64 z.a3, .int .i64 z.a4, .int .i64 z.a5] 30)
  generalize ((w.alloc (.cells #[.int .i64 x.d, .int .u64 x.t, .int .i64 x.s, .int .i64 x.k, .int .i64 x.a0, .int .i64 x.a1, .int .i64 x.a2, .int .i64 x.a3, .int .i64 x.a4, .int .i64 x.a5] 30)).alloc (.cells #[.int .i64 y.d, .int .u64 y.t, .int .i64 y.s, .int .i64 y.k, .int .i64 y.a0, .int .i64 y.a1, .int .i64 y.a2, .int .i64 y.a3, .int .i64 y.a4, .int .i64 y.a5] 30)).alloc (.cells #[.int .i64 z.d, .int .u64 z.t, .int .i64 z.s, .int .i64 z.k, .int .i64 z.a0, .int .i64 z.a1, .int .i64 z.a2, .int .i64 z.a3, .int .i64 z.a4, .int .i64 z.a5] 30) = W0 at *
  have hcx := fun j => cell_of_row W0 _ j _ _ _ hrx
  have hcy := fun j => cell_of_row W0 _ j _ _ _ hry
  have hcz := fun j => cell_of_row W0 _ j _ _ _ hrz
  have l0 := block_lt hrx
  have l1 := block_lt hry
  have l2 := block_lt hrz
  have hL := @Later.cell
  have HLAB : Hid (∀ W : World, Calls Try.prog 19 #[.agg #[.int .i64 x.d, .int .u64 x.t, .int .i64 x.s, .int .i64 x.k, .int .i64 x.a0, .int .i64 x.a1, .int .i64 x.a2, .int .i64 x.a3, .int .i64 x.a4, .int .i64 x.a5], .agg #[.int .i64 y.d, .int .u64 y.t, .int .i64 y.s, .int .i64 y.k, .int .i64 y.a0, .int .i64 y.a1, .int .i64 y.a2, .int .i64 y.a3, .int .i64 y.a4, .int .i64 y.a5]] W fun e w' => e = .returned (.bool (lessP x y)) ∧ Below W.heap.size W w') := Lib.hid (fun W => less_any x y W)
  have HLBA : Hid (∀ W : World, Calls Try.prog 19 #[.agg #[.int .i64 y.d, .int .u64 y.t, .int .i64 y.s, .int .i64 y.k, .int .i64 y.a0, .int .i64 y.a1, .int .i64 y.a2, .int .i64 y.a3, .int .i64 y.a4, .int .i64 y.a5], .agg #[.int .i64 x.d, .int .u64 x.t, .int .i64 x.s, .int .i64 x.k, .int .i64 x.a0, .int .i64 x.a1, .int .i64 x.a2, .int .i64 x.a3, .int .i64 x.a4, .int .i64 x.a5]] W fun e w' => e = .returned (.bool (lessP y x)) ∧ Below W.heap.size W w') := Lib.hid (fun W => less_any y x W)
  refine wp_region_later (by kernel_rfl) (by kernel_rfl) ?_
  repeat (go_big_quiet_step (first | (go_at_call 19; first | with_reducible exact later_call (HLAB.out _) | with_reducible exact later_call (HLBA.out _))))
  refine wpQuiet_nil ?_
  rintro w2 ⟨u, rfl⟩
  have hrx2 : u.val.heap[w.heap.size]? = _ := (u.prop.block _ l0).trans hrx
  have hry2 : u.val.heap[w.heap.size + 1]? = _ := (u.prop.block _ l1).trans hry
  have hrz2 : u.val.heap[w.heap.size + 2]? = _ := (u.prop.block _ l2).trans hrz
  have HB2 := Lib.hid (hb.trans (u.prop.mono hb.size))
  clear hrx hry hrz hcx hcy hcz hb l0 l1 l2
  generalize u.val = W2 at *
  have l0 := block_lt hrx2
  have l1 := block_lt hry2
  have l2 := block_lt hrz2
  have hcx := fun j => cell_of_row W2 _ j _ _ _ hrx2
  have hcy := fun j => cell_of_row W2 _ j _ _ _ hry2
  have hcz := fun j => cell_of_row W2 _ j _ _ _ hrz2
  have hxx := less_irr x
  cases h1 : lessP x y
  · cases h2 : lessP y x
    · have HRAB : Hid (∀ W : World, Calls Try.prog 20 #[.agg #[.int .i64 x.d, .int .u64 x.t, .int .i64 x.s, .int .i64 x.k, .int .i64 x.a0, .int .i64 x.a1, .int .i64 x.a2, .int .i64 x.a3, .int .i64 x.a4, .int .i64 x.a5], .agg #[.int .i64 y.d, .int .u64 y.t, .int .i64 y.s, .int .i64 y.k, .int .i64 y.a0, .int .i64 y.a1, .int .i64 y.a2, .int .i64 y.a3, .int .i64 y.a4, .int .i64 y.a5]] W fun e w' => e = .returned (.bool false) ∧ Below W.heap.size W w') := Lib.hid (fun W => by have h := ahead_any x y W; rw [h1] at h; exact h)
      have HRBA : Hid (∀ W : World, Calls Try.prog 20 #[.agg #[.int .i64 y.d, .int .u64 y.t, .int .i64 y.s, .int .i64 y.k, .int .i64 y.a0, .int .i64 y.a1, .int .i64 y.a2, .int .i64 y.a3, .int .i64 y.a4, .int .i64 y.a5], .agg #[.int .i64 x.d, .int .u64 x.t, .int .i64 x.s, .int .i64 x.k, .int .i64 x.a0, .int .i64 x.a1, .int .i64 x.a2, .int .i64 x.a3, .int .i64 x.a4, .int .i64 x.a5]] W fun e w' => e = .returned (.bool false) ∧ Below W.heap.size W w') := Lib.hid (fun W => by have h := ahead_any y x W; rw [h2] at h; exact h)
      have HLAA : Hid (∀ W : World, Calls Try.prog 19 #[.agg #[.int .i64 x.d, .int .u64 x.t, .int .i64 x.s, .int .i64 x.k, .int .i64 x.a0, .int .i64 x.a1, .int .i64 x.a2, .int .i64 x.a3, .int .i64 x.a4, .int .i64 x.a5], .agg #[.int .i64 x.d, .int .u64 x.t, .int .i64 x.s, .int .i64 x.k, .int .i64 x.a0, .int .i64 x.a1, .int .i64 x.a2, .int .i64 x.a3, .int .i64 x.a4, .int .i64 x.a5]] W fun e w' => e = .returned (.bool false) ∧ Below W.heap.size W w') := Lib.hid (fun W => by have h := less_any x x W; rw [hxx] at h; exact h)
      go_wp2_with fail
      refine wp_region_later (by kernel_rfl) (by kernel_rfl) ?_
      repeat (go_big_quiet_step (first | (go_at_call 20; first | with_reducible exact later_call (HRAB.out _) | with_reducible exact later_call (HRBA.out _)) | (go_at_call 19; with_reducible exact later_call (HLAA.out _)) | (go_at_call 21; with_reducible exact later_call (HSM.out _))))
      refine wpQuiet_nil ?_
      rintro w3 ⟨u3, rfl⟩
      have hrx3 : u3.val.heap[w.heap.size]? = _ := (u3.prop.block _ l0).trans hrx2
      have hry3 : u3.val.heap[w.heap.size + 1]? = _ := (u3.prop.block _ l1).trans hry2
      have hrz3 : u3.val.heap[w.heap.size + 2]? = _ := (u3.prop.block _ l2).trans hrz2
      have HB3 := Lib.hid (HB2.out.trans (u3.prop.mono HB2.out.size))
      generalize u3.val = W3 at *
      clear hcx hcy hcz hrx2 hry2 hrz2 l0 l1 l2
      have l0 := block_lt hrx3
      have l1 := block_lt hry3
      have l2 := block_lt hrz3
      have hcx := fun j => cell_of_row W3 _ j _ _ _ hrx3
      have hcy := fun j => cell_of_row W3 _ j _ _ _ hry3
      have hcz := fun j => cell_of_row W3 _ j _ _ _ hrz3
      cases hmx : Post.may x.d x.t x.s x.k [x.a0, x.a1, x.a2, x.a3, x.a4, x.a5]
      · rw [hmx] at HMX
        go_wp2_with fail
        refine (HMX.out _).mono ?_
        rintro e w5 ⟨rfl, hb5⟩
        have HB5 := Lib.hid (HB3.out.trans (hb5.mono HB3.out.size))
        clear hb5 hcx hcy hcz
        go_wp2_with fail
        refine (known14_any _).mono ?_
        rintro e w6 ⟨rfl, hb6⟩
        have HF := Lib.hid (HB5.out.trans (hb6.mono HB5.out.size))
        clear hb6
        go_wp2
        go_ret
        exact ⟨rfl, HF.out⟩
      · rw [hmx] at HMX
        have HKX := Lib.hid (fun W => pKeyP_any x hxt hmx W)
        have hsx := (may_nat hmx).2.1
        clear hmx
        go_wp2_with fail
        refine (HMX.out _).mono ?_
        rintro e w5 ⟨rfl, hb5⟩
        have hrx5 : w5.heap[w.heap.size]? = _ := (hb5.block _ l0).trans hrx3
        have hry5 : w5.heap[w.heap.size + 1]? = _ := (hb5.block _ l1).trans hry3
        have hrz5 : w5.heap[w.heap.size + 2]? = _ := (hb5.block _ l2).trans hrz3
        have HB5 := Lib.hid (HB3.out.trans (hb5.mono HB3.out.size))
        clear hb5
        clear hcx hcy hcz hrx3 hry3 hrz3 l0 l1 l2
        have l0 := block_lt hrx5
        have l1 := block_lt hry5
        have l2 := block_lt hrz5
        have hcx := fun j => cell_of_row w5 _ j _ _ _ hrx5
        have hcy := fun j => cell_of_row w5 _ j _ _ _ hry5
        have hcz := fun j => cell_of_row w5 _ j _ _ _ hrz5
        cases hmy : Post.may y.d y.t y.s y.k [y.a0, y.a1, y.a2, y.a3, y.a4, y.a5]
        · rw [hmy] at HMY
          go_wp2_with fail
          refine (HMY.out _).mono ?_
          rintro e w6 ⟨rfl, hb6⟩
          have HB6 := Lib.hid (HB5.out.trans (hb6.mono HB5.out.size))
          clear hb6 hcx hcy hcz
          go_wp2_with fail
          refine (known14_any _).mono ?_
          rintro e w7 ⟨rfl, hb7⟩
          have HF := Lib.hid (HB6.out.trans (hb7.mono HB6.out.size))
          clear hb7
          go_wp2
          go_ret
          exact ⟨rfl, HF.out⟩
        · rw [hmy] at HMY
          have HKY := Lib.hid (fun W => pKeyP_any y hyt hmy W)
          have hsy := (may_nat hmy).2.1
          clear hmy
          have hkl := keyP_less hxt hyt hsx hsy
          rw [h1, h2] at hkl
          go_wp2_with fail
          refine (HMY.out _).mono ?_
          rintro e w6 ⟨rfl, hb6⟩
          have hrx6 : w6.heap[w.heap.size]? = _ := (hb6.block _ l0).trans hrx5
          have hry6 : w6.heap[w.heap.size + 1]? = _ := (hb6.block _ l1).trans hry5
          have hrz6 : w6.heap[w.heap.size + 2]? = _ := (hb6.block _ l2).trans hrz5
          have HB6 := Lib.hid (HB5.out.trans (hb6.mono HB5.out.size))
          clear hb6
          clear hcx hcy hcz hrx5 hry5 hrz5 l0 l1 l2
          have l0 := block_lt hrx6
          have l1 := block_lt hry6
          have l2 := block_lt hrz6
          have hcx := fun j => cell_of_row w6 _ j _ _ _ hrx6
          have hcy := fun j => cell_of_row w6 _ j _ _ _ hry6
          have hcz := fun j => cell_of_row w6 _ j _ _ _ hrz6
          go_wp2_with fail
          refine (HKX.out _).mono ?_
          rintro e w7 ⟨ux, rfl, hbx, hb7⟩
          have hrx7 : w7.heap[w.heap.size]? = _ := (hb7.block _ l0).trans hrx6
          have hry7 : w7.heap[w.heap.size + 1]? = _ := (hb7.block _ l1).trans hry6
          have hrz7 : w7.heap[w.heap.size + 2]? = _ := (hb7.block _ l2).trans hrz6
          have HB7 := Lib.hid (HB6.out.trans (hb7.mono HB6.out.size))
          have HBX := Lib.hid hbx
          obtain ⟨qx, cx, rfl, -, -, -⟩ := hbx
          clear hb7
          clear hcx hcy hcz hrx6 hry6 hrz6 l0 l1 l2
          have l0 := block_lt hrx7
          have l1 := block_lt hry7
          have l2 := block_lt hrz7
          have hcx := fun j => cell_of_row w7 _ j _ _ _ hrx7
          have hcy := fun j => cell_of_row w7 _ j _ _ _ hry7
          have hcz := fun j => cell_of_row w7 _ j _ _ _ hrz7
          go_wp2_with fail
          refine (HKY.out _).mono ?_
          rintro e w8 ⟨uy, rfl, hby, hb8⟩
          have HB8 := Lib.hid (HB7.out.trans (hb8.mono HB7.out.size))
          have hkx : ∀ u : Later w8, (convert 45 9 (.slice qx (keyP x).length cx)).run Try.prog u.val = .ok (.string ⟨(keyP x).toArray⟩) u.val := fun u => ((HBX.out.below hb8).below u.prop).to_string
          have HBY := Lib.hid hby
          obtain ⟨qy, cy, rfl, -, -, -⟩ := hby
          have hky : ∀ u : Later w8, (convert 45 9 (.slice qy (keyP y).length cy)).run Try.prog u.val = .ok (.string ⟨(keyP y).toArray⟩) u.val := fun u => (HBY.out.below u.prop).to_string
          have hlt : Op.bytesLess (⟨(keyP x).toArray⟩ : ByteArray).toList (⟨(keyP y).toArray⟩ : ByteArray).toList = false := by rw [ByteArray.toList_eq, ByteArray.toList_eq]; exact hkl.1
          have heq : ((⟨(keyP x).toArray⟩ : ByteArray).toList == (⟨(keyP y).toArray⟩ : ByteArray).toList) = true := by rw [ByteArray.toList_eq, ByteArray.toList_eq]; exact hkl.2
          clear hkl hb8 hcx hcy hcz hrx7 hry7 hrz7 l0 l1 l2
          generalize (⟨(keyP x).toArray⟩ : ByteArray) = S1 at *
          generalize (⟨(keyP y).toArray⟩ : ByteArray) = S2 at *
          generalize (keyP x).length = nx at *
          generalize (keyP y).length = ny at *
          have g1 := hkx ⟨w8, Below.refl _ _⟩
          have g2 := hkx ⟨w8.drew, (Below.refl _ _).drew⟩
          have g3 := hky ⟨w8, Below.refl _ _⟩
          have g4 := hky ⟨w8.drew, (Below.refl _ _).drew⟩
          simp only at g1 g2 g3 g4
          clear hkx hky
          go_wp2_with fail
          refine (known14_any _).mono ?_
          rintro e w9 ⟨rfl, hb9⟩
          have HF : Hid (Below w.heap.size w w9) := Lib.hid (by first | exact HB8.out.trans (hb9.mono HB8.out.size) | exact HB8.out.drew.trans (hb9.mono HB8.out.size))
          clear hb9
          go_wp2
          go_ret
          exact ⟨rfl, HF.out⟩
    · have HRAB : Hid (∀ W : World, Calls Try.prog 20 #[.agg #[.int .i64 x.d, .int .u64 x.t, .int .i64 x.s, .int .i64 x.k, .int .i64 x.a0, .int .i64 x.a1, .int .i64 x.a2, .int .i64 x.a3, .int .i64 x.a4, .int .i64 x.a5], .agg #[.int .i64 y.d, .int .u64 y.t, .int .i64 y.s, .int .i64 y.k, .int .i64 y.a0, .int .i64 y.a1, .int .i64 y.a2, .int .i64 y.a3, .int .i64 y.a4, .int .i64 y.a5]] W fun e w' => e = .returned (.bool false) ∧ Below W.heap.size W w') := Lib.hid (fun W => by have h := ahead_any x y W; rw [h1] at h; exact h)
      have HRBA : Hid (∀ W : World, Calls Try.prog 20 #[.agg #[.int .i64 y.d, .int .u64 y.t, .int .i64 y.s, .int .i64 y.k, .int .i64 y.a0, .int .i64 y.a1, .int .i64 y.a2, .int .i64 y.a3, .int .i64 y.a4, .int .i64 y.a5], .agg #[.int .i64 x.d, .int .u64 x.t, .int .i64 x.s, .int .i64 x.k, .int .i64 x.a0, .int .i64 x.a1, .int .i64 x.a2, .int .i64 x.a3, .int .i64 x.a4, .int .i64 x.a5]] W fun e w' => e = .returned (.bool true) ∧ Below W.heap.size W w') := Lib.hid (fun W => by have h := ahead_any y x W; rw [h2] at h; exact h)
      have HLAA : Hid (∀ W : World, Calls Try.prog 19 #[.agg #[.int .i64 x.d, .int .u64 x.t, .int .i64 x.s, .int .i64 x.k, .int .i64 x.a0, .int .i64 x.a1, .int .i64 x.a2, .int .i64 x.a3, .int .i64 x.a4, .int .i64 x.a5], .agg #[.int .i64 x.d, .int .u64 x.t, .int .i64 x.s, .int .i64 x.k, .int .i64 x.a0, .int .i64 x.a1, .int .i64 x.a2, .int .i64 x.a3, .int .i64 x.a4, .int .i64 x.a5]] W fun e w' => e = .returned (.bool false) ∧ Below W.heap.size W w') := Lib.hid (fun W => by have h := less_any x x W; rw [hxx] at h; exact h)
      go_wp2_with fail
      refine wp_region_later (by kernel_rfl) (by kernel_rfl) ?_
      repeat (go_big_quiet_step (first | (go_at_call 20; first | with_reducible exact later_call (HRAB.out _) | with_reducible exact later_call (HRBA.out _)) | (go_at_call 19; with_reducible exact later_call (HLAA.out _)) | (go_at_call 21; with_reducible exact later_call (HSM.out _))))
      refine wpQuiet_nil ?_
      rintro w3 ⟨u3, rfl⟩
      have hrx3 : u3.val.heap[w.heap.size]? = _ := (u3.prop.block _ l0).trans hrx2
      have hry3 : u3.val.heap[w.heap.size + 1]? = _ := (u3.prop.block _ l1).trans hry2
      have hrz3 : u3.val.heap[w.heap.size + 2]? = _ := (u3.prop.block _ l2).trans hrz2
      have HB3 := Lib.hid (HB2.out.trans (u3.prop.mono HB2.out.size))
      generalize u3.val = W3 at *
      clear hcx hcy hcz hrx2 hry2 hrz2 l0 l1 l2
      have l0 := block_lt hrx3
      have l1 := block_lt hry3
      have l2 := block_lt hrz3
      have hcx := fun j => cell_of_row W3 _ j _ _ _ hrx3
      have hcy := fun j => cell_of_row W3 _ j _ _ _ hry3
      have hcz := fun j => cell_of_row W3 _ j _ _ _ hrz3
      cases hmx : Post.may x.d x.t x.s x.k [x.a0, x.a1, x.a2, x.a3, x.a4, x.a5]
      · rw [hmx] at HMX
        go_wp2_with fail
        refine (HMX.out _).mono ?_
        rintro e w5 ⟨rfl, hb5⟩
        have HB5 := Lib.hid (HB3.out.trans (hb5.mono HB3.out.size))
        clear hb5 hcx hcy hcz
        go_wp2_with fail
        refine (known14_any _).mono ?_
        rintro e w6 ⟨rfl, hb6⟩
        have HF := Lib.hid (HB5.out.trans (hb6.mono HB5.out.size))
        clear hb6
        go_wp2
        go_ret
        exact ⟨rfl, HF.out⟩
      · rw [hmx] at HMX
        have HKX := Lib.hid (fun W => pKeyP_any x hxt hmx W)
        have hsx := (may_nat hmx).2.1
        clear hmx
        go_wp2_with fail
        refine (HMX.out _).mono ?_
        rintro e w5 ⟨rfl, hb5⟩
        have hrx5 : w5.heap[w.heap.size]? = _ := (hb5.block _ l0).trans hrx3
        have hry5 : w5.heap[w.heap.size + 1]? = _ := (hb5.block _ l1).trans hry3
        have hrz5 : w5.heap[w.heap.size + 2]? = _ := (hb5.block _ l2).trans hrz3
        have HB5 := Lib.hid (HB3.out.trans (hb5.mono HB3.out.size))
        clear hb5
        clear hcx hcy hcz hrx3 hry3 hrz3 l0 l1 l2
        have l0 := block_lt hrx5
        have l1 := block_lt hry5
        have l2 := block_lt hrz5
        have hcx := fun j => cell_of_row w5 _ j _ _ _ hrx5
        have hcy := fun j => cell_of_row w5 _ j _ _ _ hry5
        have hcz := fun j => cell_of_row w5 _ j _ _ _ hrz5
        cases hmy : Post.may y.d y.t y.s y.k [y.a0, y.a1, y.a2, y.a3, y.a4, y.a5]
        · rw [hmy] at HMY
          go_wp2_with fail
          refine (HMY.out _).mono ?_
          rintro e w6 ⟨rfl, hb6⟩
          have HB6 := Lib.hid (HB5.out.trans (hb6.mono HB5.out.size))
          clear hb6 hcx hcy hcz
          go_wp2_with fail
          refine (known14_any _).mono ?_
          rintro e w7 ⟨rfl, hb7⟩
          have HF := Lib.hid (HB6.out.trans (hb7.mono HB6.out.size))
          clear hb7
          go_wp2
          go_ret
          exact ⟨rfl, HF.out⟩
        · rw [hmy] at HMY
          have HKY := Lib.hid (fun W => pKeyP_any y hyt hmy W)
          have hsy := (may_nat hmy).2.1
          clear hmy
          have hkl := keyP_less hxt hyt hsx hsy
          rw [h1, h2] at hkl
          go_wp2_with fail
          refine (HMY.out _).mono ?_
          rintro e w6 ⟨rfl, hb6⟩
          have hrx6 : w6.heap[w.heap.size]? = _ := (hb6.block _ l0).trans hrx5
          have hry6 : w6.heap[w.heap.size + 1]? = _ := (hb6.block _ l1).trans hry5
          have hrz6 : w6.heap[w.heap.size + 2]? = _ := (hb6.block _ l2).trans hrz5
          have HB6 := Lib.hid (HB5.out.trans (hb6.mono HB5.out.size))
          clear hb6
          clear hcx hcy hcz hrx5 hry5 hrz5 l0 l1 l2
          have l0 := block_lt hrx6
          have l1 := block_lt hry6
          have l2 := block_lt hrz6
          have hcx := fun j => cell_of_row w6 _ j _ _ _ hrx6
          have hcy := fun j => cell_of_row w6 _ j _ _ _ hry6
          have hcz := fun j => cell_of_row w6 _ j _ _ _ hrz6
          go_wp2_with fail
          refine (HKX.out _).mono ?_
          rintro e w7 ⟨ux, rfl, hbx, hb7⟩
          have hrx7 : w7.heap[w.heap.size]? = _ := (hb7.block _ l0).trans hrx6
          have hry7 : w7.heap[w.heap.size + 1]? = _ := (hb7.block _ l1).trans hry6
          have hrz7 : w7.heap[w.heap.size + 2]? = _ := (hb7.block _ l2).trans hrz6
          have HB7 := Lib.hid (HB6.out.trans (hb7.mono HB6.out.size))
          have HBX := Lib.hid hbx
          obtain ⟨qx, cx, rfl, -, -, -⟩ := hbx
          clear hb7
          clear hcx hcy hcz hrx6 hry6 hrz6 l0 l1 l2
          have l0 := block_lt hrx7
          have l1 := block_lt hry7
          have l2 := block_lt hrz7
          have hcx := fun j => cell_of_row w7 _ j _ _ _ hrx7
          have hcy := fun j => cell_of_row w7 _ j _ _ _ hry7
          have hcz := fun j => cell_of_row w7 _ j _ _ _ hrz7
          go_wp2_with fail
          refine (HKY.out _).mono ?_
          rintro e w8 ⟨uy, rfl, hby, hb8⟩
          have HB8 := Lib.hid (HB7.out.trans (hb8.mono HB7.out.size))
          have hkx : ∀ u : Later w8, (convert 45 9 (.slice qx (keyP x).length cx)).run Try.prog u.val = .ok (.string ⟨(keyP x).toArray⟩) u.val := fun u => ((HBX.out.below hb8).below u.prop).to_string
          have HBY := Lib.hid hby
          obtain ⟨qy, cy, rfl, -, -, -⟩ := hby
          have hky : ∀ u : Later w8, (convert 45 9 (.slice qy (keyP y).length cy)).run Try.prog u.val = .ok (.string ⟨(keyP y).toArray⟩) u.val := fun u => (HBY.out.below u.prop).to_string
          have hlt : Op.bytesLess (⟨(keyP x).toArray⟩ : ByteArray).toList (⟨(keyP y).toArray⟩ : ByteArray).toList = false := by rw [ByteArray.toList_eq, ByteArray.toList_eq]; exact hkl.1
          have heq : ((⟨(keyP x).toArray⟩ : ByteArray).toList == (⟨(keyP y).toArray⟩ : ByteArray).toList) = false := by rw [ByteArray.toList_eq, ByteArray.toList_eq]; exact hkl.2
          clear hkl hb8 hcx hcy hcz hrx7 hry7 hrz7 l0 l1 l2
          generalize (⟨(keyP x).toArray⟩ : ByteArray) = S1 at *
          generalize (⟨(keyP y).toArray⟩ : ByteArray) = S2 at *
          generalize (keyP x).length = nx at *
          generalize (keyP y).length = ny at *
          have g1 := hkx ⟨w8, Below.refl _ _⟩
          have g2 := hkx ⟨w8.drew, (Below.refl _ _).drew⟩
          have g3 := hky ⟨w8, Below.refl _ _⟩
          have g4 := hky ⟨w8.drew, (Below.refl _ _).drew⟩
          simp only at g1 g2 g3 g4
          clear hkx hky
          go_wp2_with fail
          refine (known14_any _).mono ?_
          rintro e w9 ⟨rfl, hb9⟩
          have HF : Hid (Below w.heap.size w w9) := Lib.hid (by first | exact HB8.out.trans (hb9.mono HB8.out.size) | exact HB8.out.drew.trans (hb9.mono HB8.out.size))
          clear hb9
          go_wp2
          go_ret
          exact ⟨rfl, HF.out⟩
  · have h2 := less_asym h1
    have HRAB : Hid (∀ W : World, Calls Try.prog 20 #[.agg #[.int .i64 x.d, .int .u64 x.t, .int .i64 x.s, .int .i64 x.k, .int .i64 x.a0, .int .i64 x.a1, .int .i64 x.a2, .int .i64 x.a3, .int .i64 x.a4, .int .i64 x.a5], .agg #[.int .i64 y.d, .int .u64 y.t, .int .i64 y.s, .int .i64 y.k, .int .i64 y.a0, .int .i64 y.a1, .int .i64 y.a2, .int .i64 y.a3, .int .i64 y.a4, .int .i64 y.a5]] W fun e w' => e = .returned (.bool true) ∧ Below W.heap.size W w') := Lib.hid (fun W => by have h := ahead_any x y W; rw [h1] at h; exact h)
    have HRBA : Hid (∀ W : World, Calls Try.prog 20 #[.agg #[.int .i64 y.d, .int .u64 y.t, .int .i64 y.s, .int .i64 y.k, .int .i64 y.a0, .int .i64 y.a1, .int .i64 y.a2, .int .i64 y.a3, .int .i64 y.a4, .int .i64 y.a5], .agg #[.int .i64 x.d, .int .u64 x.t, .int .i64 x.s, .int .i64 x.k, .int .i64 x.a0, .int .i64 x.a1, .int .i64 x.a2, .int .i64 x.a3, .int .i64 x.a4, .int .i64 x.a5]] W fun e w' => e = .returned (.bool false) ∧ Below W.heap.size W w') := Lib.hid (fun W => by have h := ahead_any y x W; rw [h2] at h; exact h)
    have HLAA : Hid (∀ W : World, Calls Try.prog 19 #[.agg #[.int .i64 x.d, .int .u64 x.t, .int .i64 x.s, .int .i64 x.k, .int .i64 x.a0, .int .i64 x.a1, .int .i64 x.a2, .int .i64 x.a3, .int .i64 x.a4, .int .i64 x.a5], .agg #[.int .i64 x.d, .int .u64 x.t, .int .i64 x.s, .int .i64 x.k, .int .i64 x.a0, .int .i64 x.a1, .int .i64 x.a2, .int .i64 x.a3, .int .i64 x.a4, .int .i64 x.a5]] W fun e w' => e = .returned (.bool false) ∧ Below W.heap.size W w') := Lib.hid (fun W => by have h := less_any x x W; rw [hxx] at h; exact h)
    go_wp2_with fail
    refine wp_region_later (by kernel_rfl) (by kernel_rfl) ?_
    repeat (go_big_quiet_step (first | (go_at_call 20; first | with_reducible exact later_call (HRAB.out _) | with_reducible exact later_call (HRBA.out _)) | (go_at_call 19; with_reducible exact later_call (HLAA.out _)) | (go_at_call 21; with_reducible exact later_call (HSM.out _))))
    refine wpQuiet_nil ?_
    rintro w3 ⟨u3, rfl⟩
    have hrx3 : u3.val.heap[w.heap.size]? = _ := (u3.prop.block _ l0).trans hrx2
    have hry3 : u3.val.heap[w.heap.size + 1]? = _ := (u3.prop.block _ l1).trans hry2
    have hrz3 : u3.val.heap[w.heap.size + 2]? = _ := (u3.prop.block _ l2).trans hrz2
    have HB3 := Lib.hid (HB2.out.trans (u3.prop.mono HB2.out.size))
    generalize u3.val = W3 at *
    clear hcx hcy hcz hrx2 hry2 hrz2 l0 l1 l2
    have l0 := block_lt hrx3
    have l1 := block_lt hry3
    have l2 := block_lt hrz3
    have hcx := fun j => cell_of_row W3 _ j _ _ _ hrx3
    have hcy := fun j => cell_of_row W3 _ j _ _ _ hry3
    have hcz := fun j => cell_of_row W3 _ j _ _ _ hrz3
    cases h3 : lessP y z
    · have HLBC : Hid (∀ W : World, Calls Try.prog 19 #[.agg #[.int .i64 y.d, .int .u64 y.t, .int .i64 y.s, .int .i64 y.k, .int .i64 y.a0, .int .i64 y.a1, .int .i64 y.a2, .int .i64 y.a3, .int .i64 y.a4, .int .i64 y.a5], .agg #[.int .i64 z.d, .int .u64 z.t, .int .i64 z.s, .int .i64 z.k, .int .i64 z.a0, .int .i64 z.a1, .int .i64 z.a2, .int .i64 z.a3, .int .i64 z.a4, .int .i64 z.a5]] W fun e w' => e = .returned (.bool false) ∧ Below W.heap.size W w') := Lib.hid (fun W => by have h := less_any y z W; rw [h3] at h; exact h)
      go_wp2_with fail
      refine (HLBC.out _).mono ?_
      rintro e W4 ⟨rfl, hb0⟩
      have hrx4 : W4.heap[w.heap.size]? = _ := (hb0.block _ l0).trans hrx3
      have hry4 : W4.heap[w.heap.size + 1]? = _ := (hb0.block _ l1).trans hry3
      have hrz4 : W4.heap[w.heap.size + 2]? = _ := (hb0.block _ l2).trans hrz3
      have HB4 := Lib.hid (HB3.out.trans (hb0.mono HB3.out.size))
      clear hb0
      clear hcx hcy hcz hrx3 hry3 hrz3 l0 l1 l2
      have l0 := block_lt hrx4
      have l1 := block_lt hry4
      have l2 := block_lt hrz4
      have hcx := fun j => cell_of_row W4 _ j _ _ _ hrx4
      have hcy := fun j => cell_of_row W4 _ j _ _ _ hry4
      have hcz := fun j => cell_of_row W4 _ j _ _ _ hrz4
      cases hmx : Post.may x.d x.t x.s x.k [x.a0, x.a1, x.a2, x.a3, x.a4, x.a5]
      · rw [hmx] at HMX
        go_wp2_with fail
        refine (HMX.out _).mono ?_
        rintro e w5 ⟨rfl, hb5⟩
        have HB5 := Lib.hid (HB4.out.trans (hb5.mono HB4.out.size))
        clear hb5 hcx hcy hcz
        go_wp2_with fail
        refine (known14_any _).mono ?_
        rintro e w6 ⟨rfl, hb6⟩
        have HF := Lib.hid (HB5.out.trans (hb6.mono HB5.out.size))
        clear hb6
        go_wp2
        go_ret
        exact ⟨rfl, HF.out⟩
      · rw [hmx] at HMX
        have HKX := Lib.hid (fun W => pKeyP_any x hxt hmx W)
        have hsx := (may_nat hmx).2.1
        clear hmx
        go_wp2_with fail
        refine (HMX.out _).mono ?_
        rintro e w5 ⟨rfl, hb5⟩
        have hrx5 : w5.heap[w.heap.size]? = _ := (hb5.block _ l0).trans hrx4
        have hry5 : w5.heap[w.heap.size + 1]? = _ := (hb5.block _ l1).trans hry4
        have hrz5 : w5.heap[w.heap.size + 2]? = _ := (hb5.block _ l2).trans hrz4
        have HB5 := Lib.hid (HB4.out.trans (hb5.mono HB4.out.size))
        clear hb5
        clear hcx hcy hcz hrx4 hry4 hrz4 l0 l1 l2
        have l0 := block_lt hrx5
        have l1 := block_lt hry5
        have l2 := block_lt hrz5
        have hcx := fun j => cell_of_row w5 _ j _ _ _ hrx5
        have hcy := fun j => cell_of_row w5 _ j _ _ _ hry5
        have hcz := fun j => cell_of_row w5 _ j _ _ _ hrz5
        cases hmy : Post.may y.d y.t y.s y.k [y.a0, y.a1, y.a2, y.a3, y.a4, y.a5]
        · rw [hmy] at HMY
          go_wp2_with fail
          refine (HMY.out _).mono ?_
          rintro e w6 ⟨rfl, hb6⟩
          have HB6 := Lib.hid (HB5.out.trans (hb6.mono HB5.out.size))
          clear hb6 hcx hcy hcz
          go_wp2_with fail
          refine (known14_any _).mono ?_
          rintro e w7 ⟨rfl, hb7⟩
          have HF := Lib.hid (HB6.out.trans (hb7.mono HB6.out.size))
          clear hb7
          go_wp2
          go_ret
          exact ⟨rfl, HF.out⟩
        · rw [hmy] at HMY
          have HKY := Lib.hid (fun W => pKeyP_any y hyt hmy W)
          have hsy := (may_nat hmy).2.1
          clear hmy
          have hkl := keyP_less hxt hyt hsx hsy
          rw [h1, h2] at hkl
          go_wp2_with fail
          refine (HMY.out _).mono ?_
          rintro e w6 ⟨rfl, hb6⟩
          have hrx6 : w6.heap[w.heap.size]? = _ := (hb6.block _ l0).trans hrx5
          have hry6 : w6.heap[w.heap.size + 1]? = _ := (hb6.block _ l1).trans hry5
          have hrz6 : w6.heap[w.heap.size + 2]? = _ := (hb6.block _ l2).trans hrz5
          have HB6 := Lib.hid (HB5.out.trans (hb6.mono HB5.out.size))
          clear hb6
          clear hcx hcy hcz hrx5 hry5 hrz5 l0 l1 l2
          have l0 := block_lt hrx6
          have l1 := block_lt hry6
          have l2 := block_lt hrz6
          have hcx := fun j => cell_of_row w6 _ j _ _ _ hrx6
          have hcy := fun j => cell_of_row w6 _ j _ _ _ hry6
          have hcz := fun j => cell_of_row w6 _ j _ _ _ hrz6
          go_wp2_with fail
          refine (HKX.out _).mono ?_
          rintro e w7 ⟨ux, rfl, hbx, hb7⟩
          have hrx7 : w7.heap[w.heap.size]? = _ := (hb7.block _ l0).trans hrx6
          have hry7 : w7.heap[w.heap.size + 1]? = _ := (hb7.block _ l1).trans hry6
          have hrz7 : w7.heap[w.heap.size + 2]? = _ := (hb7.block _ l2).trans hrz6
          have HB7 := Lib.hid (HB6.out.trans (hb7.mono HB6.out.size))
          have HBX := Lib.hid hbx
          obtain ⟨qx, cx, rfl, -, -, -⟩ := hbx
          clear hb7
          clear hcx hcy hcz hrx6 hry6 hrz6 l0 l1 l2
          have l0 := block_lt hrx7
          have l1 := block_lt hry7
          have l2 := block_lt hrz7
          have hcx := fun j => cell_of_row w7 _ j _ _ _ hrx7
          have hcy := fun j => cell_of_row w7 _ j _ _ _ hry7
          have hcz := fun j => cell_of_row w7 _ j _ _ _ hrz7
          go_wp2_with fail
          refine (HKY.out _).mono ?_
          rintro e w8 ⟨uy, rfl, hby, hb8⟩
          have HB8 := Lib.hid (HB7.out.trans (hb8.mono HB7.out.size))
          have hkx : ∀ u : Later w8, (convert 45 9 (.slice qx (keyP x).length cx)).run Try.prog u.val = .ok (.string ⟨(keyP x).toArray⟩) u.val := fun u => ((HBX.out.below hb8).below u.prop).to_string
          have HBY := Lib.hid hby
          obtain ⟨qy, cy, rfl, -, -, -⟩ := hby
          have hky : ∀ u : Later w8, (convert 45 9 (.slice qy (keyP y).length cy)).run Try.prog u.val = .ok (.string ⟨(keyP y).toArray⟩) u.val := fun u => (HBY.out.below u.prop).to_string
          have hlt : Op.bytesLess (⟨(keyP x).toArray⟩ : ByteArray).toList (⟨(keyP y).toArray⟩ : ByteArray).toList = true := by rw [ByteArray.toList_eq, ByteArray.toList_eq]; exact hkl.1
          have heq : ((⟨(keyP x).toArray⟩ : ByteArray).toList == (⟨(keyP y).toArray⟩ : ByteArray).toList) = false := by rw [ByteArray.toList_eq, ByteArray.toList_eq]; exact hkl.2
          clear hkl hb8 hcx hcy hcz hrx7 hry7 hrz7 l0 l1 l2
          generalize (⟨(keyP x).toArray⟩ : ByteArray) = S1 at *
          generalize (⟨(keyP y).toArray⟩ : ByteArray) = S2 at *
          generalize (keyP x).length = nx at *
          generalize (keyP y).length = ny at *
          have g1 := hkx ⟨w8, Below.refl _ _⟩
          have g2 := hkx ⟨w8.drew, (Below.refl _ _).drew⟩
          have g3 := hky ⟨w8, Below.refl _ _⟩
          have g4 := hky ⟨w8.drew, (Below.refl _ _).drew⟩
          simp only at g1 g2 g3 g4
          clear hkx hky
          go_wp2_with fail
          refine (known14_any _).mono ?_
          rintro e w9 ⟨rfl, hb9⟩
          have HF : Hid (Below w.heap.size w w9) := Lib.hid (by first | exact HB8.out.trans (hb9.mono HB8.out.size) | exact HB8.out.drew.trans (hb9.mono HB8.out.size))
          clear hb9
          go_wp2
          go_ret
          exact ⟨rfl, HF.out⟩
    · have HLBC : Hid (∀ W : World, Calls Try.prog 19 #[.agg #[.int .i64 y.d, .int .u64 y.t, .int .i64 y.s, .int .i64 y.k, .int .i64 y.a0, .int .i64 y.a1, .int .i64 y.a2, .int .i64 y.a3, .int .i64 y.a4, .int .i64 y.a5], .agg #[.int .i64 z.d, .int .u64 z.t, .int .i64 z.s, .int .i64 z.k, .int .i64 z.a0, .int .i64 z.a1, .int .i64 z.a2, .int .i64 z.a3, .int .i64 z.a4, .int .i64 z.a5]] W fun e w' => e = .returned (.bool true) ∧ Below W.heap.size W w') := Lib.hid (fun W => by have h := less_any y z W; rw [h3] at h; exact h)
      have h4 := less_trans h1 h3
      have HLAC : Hid (∀ W : World, Calls Try.prog 19 #[.agg #[.int .i64 x.d, .int .u64 x.t, .int .i64 x.s, .int .i64 x.k, .int .i64 x.a0, .int .i64 x.a1, .int .i64 x.a2, .int .i64 x.a3, .int .i64 x.a4, .int .i64 x.a5], .agg #[.int .i64 z.d, .int .u64 z.t, .int .i64 z.s, .int .i64 z.k, .int .i64 z.a0, .int .i64 z.a1, .int .i64 z.a2, .int .i64 z.a3, .int .i64 z.a4, .int .i64 z.a5]] W fun e w' => e = .returned (.bool true) ∧ Below W.heap.size W w') := Lib.hid (fun W => by have h := less_any x z W; rw [h4] at h; exact h)
      go_wp2_with fail
      refine (HLBC.out _).mono ?_
      rintro e W9 ⟨rfl, hb0⟩
      have hrx9 : W9.heap[w.heap.size]? = _ := (hb0.block _ l0).trans hrx3
      have hry9 : W9.heap[w.heap.size + 1]? = _ := (hb0.block _ l1).trans hry3
      have hrz9 : W9.heap[w.heap.size + 2]? = _ := (hb0.block _ l2).trans hrz3
      have HB9 := Lib.hid (HB3.out.trans (hb0.mono HB3.out.size))
      clear hb0
      clear hcx hcy hcz hrx3 hry3 hrz3 l0 l1 l2
      have l0 := block_lt hrx9
      have l1 := block_lt hry9
      have l2 := block_lt hrz9
      have hcx := fun j => cell_of_row W9 _ j _ _ _ hrx9
      have hcy := fun j => cell_of_row W9 _ j _ _ _ hry9
      have hcz := fun j => cell_of_row W9 _ j _ _ _ hrz9
      go_wp2_with fail
      refine (HLAC.out _).mono ?_
      rintro e W4 ⟨rfl, hb0⟩
      have hrx4 : W4.heap[w.heap.size]? = _ := (hb0.block _ l0).trans hrx9
      have hry4 : W4.heap[w.heap.size + 1]? = _ := (hb0.block _ l1).trans hry9
      have hrz4 : W4.heap[w.heap.size + 2]? = _ := (hb0.block _ l2).trans hrz9
      have HB4 := Lib.hid (HB9.out.trans (hb0.mono HB9.out.size))
      clear hb0
      clear hcx hcy hcz hrx9 hry9 hrz9 l0 l1 l2
      have l0 := block_lt hrx4
      have l1 := block_lt hry4
      have l2 := block_lt hrz4
      have hcx := fun j => cell_of_row W4 _ j _ _ _ hrx4
      have hcy := fun j => cell_of_row W4 _ j _ _ _ hry4
      have hcz := fun j => cell_of_row W4 _ j _ _ _ hrz4
      cases hmx : Post.may x.d x.t x.s x.k [x.a0, x.a1, x.a2, x.a3, x.a4, x.a5]
      · rw [hmx] at HMX
        go_wp2_with fail
        refine (HMX.out _).mono ?_
        rintro e w5 ⟨rfl, hb5⟩
        have HB5 := Lib.hid (HB4.out.trans (hb5.mono HB4.out.size))
        clear hb5 hcx hcy hcz
        go_wp2_with fail
        refine (known14_any _).mono ?_
        rintro e w6 ⟨rfl, hb6⟩
        have HF := Lib.hid (HB5.out.trans (hb6.mono HB5.out.size))
        clear hb6
        go_wp2
        go_ret
        exact ⟨rfl, HF.out⟩
      · rw [hmx] at HMX
        have HKX := Lib.hid (fun W => pKeyP_any x hxt hmx W)
        have hsx := (may_nat hmx).2.1
        clear hmx
        go_wp2_with fail
        refine (HMX.out _).mono ?_
        rintro e w5 ⟨rfl, hb5⟩
        have hrx5 : w5.heap[w.heap.size]? = _ := (hb5.block _ l0).trans hrx4
        have hry5 : w5.heap[w.heap.size + 1]? = _ := (hb5.block _ l1).trans hry4
        have hrz5 : w5.heap[w.heap.size + 2]? = _ := (hb5.block _ l2).trans hrz4
        have HB5 := Lib.hid (HB4.out.trans (hb5.mono HB4.out.size))
        clear hb5
        clear hcx hcy hcz hrx4 hry4 hrz4 l0 l1 l2
        have l0 := block_lt hrx5
        have l1 := block_lt hry5
        have l2 := block_lt hrz5
        have hcx := fun j => cell_of_row w5 _ j _ _ _ hrx5
        have hcy := fun j => cell_of_row w5 _ j _ _ _ hry5
        have hcz := fun j => cell_of_row w5 _ j _ _ _ hrz5
        cases hmy : Post.may y.d y.t y.s y.k [y.a0, y.a1, y.a2, y.a3, y.a4, y.a5]
        · rw [hmy] at HMY
          go_wp2_with fail
          refine (HMY.out _).mono ?_
          rintro e w6 ⟨rfl, hb6⟩
          have HB6 := Lib.hid (HB5.out.trans (hb6.mono HB5.out.size))
          clear hb6 hcx hcy hcz
          go_wp2_with fail
          refine (known14_any _).mono ?_
          rintro e w7 ⟨rfl, hb7⟩
          have HF := Lib.hid (HB6.out.trans (hb7.mono HB6.out.size))
          clear hb7
          go_wp2
          go_ret
          exact ⟨rfl, HF.out⟩
        · rw [hmy] at HMY
          have HKY := Lib.hid (fun W => pKeyP_any y hyt hmy W)
          have hsy := (may_nat hmy).2.1
          clear hmy
          have hkl := keyP_less hxt hyt hsx hsy
          rw [h1, h2] at hkl
          go_wp2_with fail
          refine (HMY.out _).mono ?_
          rintro e w6 ⟨rfl, hb6⟩
          have hrx6 : w6.heap[w.heap.size]? = _ := (hb6.block _ l0).trans hrx5
          have hry6 : w6.heap[w.heap.size + 1]? = _ := (hb6.block _ l1).trans hry5
          have hrz6 : w6.heap[w.heap.size + 2]? = _ := (hb6.block _ l2).trans hrz5
          have HB6 := Lib.hid (HB5.out.trans (hb6.mono HB5.out.size))
          clear hb6
          clear hcx hcy hcz hrx5 hry5 hrz5 l0 l1 l2
          have l0 := block_lt hrx6
          have l1 := block_lt hry6
          have l2 := block_lt hrz6
          have hcx := fun j => cell_of_row w6 _ j _ _ _ hrx6
          have hcy := fun j => cell_of_row w6 _ j _ _ _ hry6
          have hcz := fun j => cell_of_row w6 _ j _ _ _ hrz6
          go_wp2_with fail
          refine (HKX.out _).mono ?_
          rintro e w7 ⟨ux, rfl, hbx, hb7⟩
          have hrx7 : w7.heap[w.heap.size]? = _ := (hb7.block _ l0).trans hrx6
          have hry7 : w7.heap[w.heap.size + 1]? = _ := (hb7.block _ l1).trans hry6
          have hrz7 : w7.heap[w.heap.size + 2]? = _ := (hb7.block _ l2).trans hrz6
          have HB7 := Lib.hid (HB6.out.trans (hb7.mono HB6.out.size))
          have HBX := Lib.hid hbx
          obtain ⟨qx, cx, rfl, -, -, -⟩ := hbx
          clear hb7
          clear hcx hcy hcz hrx6 hry6 hrz6 l0 l1 l2
          have l0 := block_lt hrx7
          have l1 := block_lt hry7
          have l2 := block_lt hrz7
          have hcx := fun j => cell_of_row w7 _ j _ _ _ hrx7
          have hcy := fun j => cell_of_row w7 _ j _ _ _ hry7
          have hcz := fun j => cell_of_row w7 _ j _ _ _ hrz7
          go_wp2_with fail
          refine (HKY.out _).mono ?_
          rintro e w8 ⟨uy, rfl, hby, hb8⟩
          have HB8 := Lib.hid (HB7.out.trans (hb8.mono HB7.out.size))
          have hkx : ∀ u : Later w8, (convert 45 9 (.slice qx (keyP x).length cx)).run Try.prog u.val = .ok (.string ⟨(keyP x).toArray⟩) u.val := fun u => ((HBX.out.below hb8).below u.prop).to_string
          have HBY := Lib.hid hby
          obtain ⟨qy, cy, rfl, -, -, -⟩ := hby
          have hky : ∀ u : Later w8, (convert 45 9 (.slice qy (keyP y).length cy)).run Try.prog u.val = .ok (.string ⟨(keyP y).toArray⟩) u.val := fun u => (HBY.out.below u.prop).to_string
          have hlt : Op.bytesLess (⟨(keyP x).toArray⟩ : ByteArray).toList (⟨(keyP y).toArray⟩ : ByteArray).toList = true := by rw [ByteArray.toList_eq, ByteArray.toList_eq]; exact hkl.1
          have heq : ((⟨(keyP x).toArray⟩ : ByteArray).toList == (⟨(keyP y).toArray⟩ : ByteArray).toList) = false := by rw [ByteArray.toList_eq, ByteArray.toList_eq]; exact hkl.2
          clear hkl hb8 hcx hcy hcz hrx7 hry7 hrz7 l0 l1 l2
          generalize (⟨(keyP x).toArray⟩ : ByteArray) = S1 at *
          generalize (⟨(keyP y).toArray⟩ : ByteArray) = S2 at *
          generalize (keyP x).length = nx at *
          generalize (keyP y).length = ny at *
          have g1 := hkx ⟨w8, Below.refl _ _⟩
          have g2 := hkx ⟨w8.drew, (Below.refl _ _).drew⟩
          have g3 := hky ⟨w8, Below.refl _ _⟩
          have g4 := hky ⟨w8.drew, (Below.refl _ _).drew⟩
          simp only at g1 g2 g3 g4
          clear hkx hky
          go_wp2_with fail
          refine (known14_any _).mono ?_
          rintro e w9 ⟨rfl, hb9⟩
          have HF : Hid (Below w.heap.size w w9) := Lib.hid (by first | exact HB8.out.trans (hb9.mono HB8.out.size) | exact HB8.out.drew.trans (hb9.mono HB8.out.size))
          clear hb9
          go_wp2
          go_ret
          exact ⟨rfl, HF.out⟩

set_option maxRecDepth 100000 in
theorem lifted (os : Os) (started : os.Started) (H : Type) (enc : TypeId × Value → H) :
    ReturnsInHanded {} Try.checked os 7 .any (Rows.postingOrdersSpec.pre6 enc Try.prog Try.f7 Rows.postingOrdersRow.domain false) (Rows.postingOrdersSpec.post enc Try.prog Try.f7 false true false false) := by
  refine returnsInHanded_of_change (C := Try.checked) own started (by kernel_rfl) Try.func7
    (ChangeSpec.witness6 (enc := enc) (C := Try.checked) false ⟨#[], #[.agg #[.int .i64 0, .int .u64 0, .int .i64 0, .int .i64 0, .int .i64 0, .int .i64 0, .int .i64 0, .int .i64 0, .int .i64 0, .int .i64 0], .agg #[.int .i64 0, .int .u64 0, .int .i64 0, .int .i64 0, .int .i64 0, .int .i64 0, .int .i64 0, .int .i64 0, .int .i64 0, .int .i64 0], .agg #[.int .i64 0, .int .u64 0, .int .i64 0, .int .i64 0, .int .i64 0, .int .i64 0, .int .i64 0, .int .i64 0, .int .i64 0, .int .i64 0]], []⟩ 8 (by kernel_rfl) (by kernel_rfl) (by kernel_rfl) (by kernel_rfl)) ?_
  intro W base args ds gs before hval0 hW hcnd _
  have hval : ∀ (j : Nat) t v, Try.f7.params[j]? = some t → args[j]? = some v → Value.okWide Try.prog W .any base t v := hval0
  have hW' := hW
  obtain ⟨p, q, hA0, hV, rfl, hfz, hnd⟩ := hW
  have hA : DataW.TrodAll enc Try.prog W 0 (fun _ => true) true Try.f7.params.toList args.toList ds p := hA0
  rw [Try.params7] at hA hval
  obtain ⟨v0, vs0, d0, ds0, p0, q0, hargs, rfl, rfl, h0, r0⟩ := trodAll_cons hA
  obtain ⟨v1, vs1, d1, ds1, p1, q1, rfl, rfl, rfl, h1, r1⟩ := trodAll_cons r0
  obtain ⟨v2, vs2, d2, ds2, p2, q2, rfl, rfl, rfl, h2, r2⟩ := trodAll_cons r1
  obtain ⟨rfl, rfl, rfl⟩ := trodAll_nil r2
  obtain rfl : args = #[v0, v1, v2] := by cases args; simp_all
  obtain ⟨x, rfl, hx⟩ := open_postingO (hval 0 _ v0 rfl rfl) h0
  obtain ⟨y, rfl, hy⟩ := open_postingO (hval 1 _ v1 rfl rfl) h1
  obtain ⟨z, rfl, hz⟩ := open_postingO (hval 2 _ v2 rfl rfl) h2
  clear hA0 hval0
  refine (walk x y z hx hy hz W).mono fun e W' ⟨he, hg⟩ => ?_
  subst he
  exact ⟨_, rfl, post_law laidOut rfl hW' ⟨rfl, rfl, rfl⟩ (by kernel_rfl) hg Try.underlying4 rfl⟩

theorem proved : Rows.PostingOrdersSaid :=
  OpenClaim.holds_of_wide 7 Try.f7 rfl rfl rfl rfl rfl rfl rfl ⟨rfl, rfl, rfl, rfl, rfl⟩ rfl rfl rfl rfl rfl (by kernel_rfl) Try.func7 (by kernel_rfl)
    (of_decide_eq_true (by kernel_rfl)) (by unfold Func.isWrapper; first | (rw [if_pos (by decide +kernel)]; kernel_rfl) | (rw [if_neg (by decide +kernel)]; exact ⟨rfl, rfl⟩))
    (fun os started H enc _ => lifted os started H enc)
#print axioms proved
end Go.Proofs.Ythpcillamglmiaa.postingOrders
