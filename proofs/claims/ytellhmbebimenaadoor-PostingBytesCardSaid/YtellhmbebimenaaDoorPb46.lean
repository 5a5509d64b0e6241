/- PostingOrders returns true for every three postings, and leaves the memory that was there as it was. -/
import Derived.Test.YtellhmbebimenaaDoorPb41
import Derived.Test.YtellhmbebimenaaDoorPb45
import Derived.Test.YtellhmbebimenaaDoorPb10

set_option linter.unusedVariables false
set_option linter.unusedSimpArgs false
namespace Go.Proofs.YtellhmbebimenaaDoor
open Go.RowKit
theorem less_irr (x : Pst) : lessP x x = false := by unfold lessP; simp
theorem less_asym {x y : Pst} (h : lessP x y = true) : lessP y x = false := by
  unfold lessP at *
  simp only [Bool.or_eq_true, Bool.and_eq_true, decide_eq_true_eq] at h
  rw [Bool.or_eq_false_iff, Bool.and_eq_false_iff]
  simp only [decide_eq_false_iff_not]
  omega
theorem less_trans {x y z : Pst} (h : lessP x y = true) (h2 : lessP y z = true) : lessP x z = true := by
  unfold lessP at *
  simp only [Bool.or_eq_true, Bool.and_eq_true, decide_eq_true_eq] at *
  omega
theorem less_same (x y : Pst) : (decide (x.t = y.t) && decide (x.s = y.s)) = (!lessP x y && !lessP y x) := by
  unfold lessP
  rw [Bool.eq_iff_iff]
  simp
  omega

set_option maxHeartbeats 400000 in
theorem same_any (x y : Pst) (q : Bool) (hq : ∀ W : World, (binOp .eql 49 (.agg x.arr) (.agg y.arr)).run Tryd.prog W = .ok (.bool q) W) (w : World) : Calls Tryd.prog 28 #[.agg x.arr, .agg y.arr] w fun e w' => e = .returned (.bool q) ∧ Below w.heap.size w w' := by
  have hG := guardPst'
  have HB0 := Lib.hid (fun o o' => ((Below.refl w.heap.size w).alloc (Nat.le_refl _) o).alloc (by simp) o')
  obtain ⟨d, t, s, k, a0, a1, a2, a3, a4, a5⟩ := x
  obtain ⟨d', t', s', k', b0, b1, b2, b3, b4, b5⟩ := y
  unfold Pst.arr at *
  simp only at hq ⊢
  go_enter Tryd.func28, Tryd.ntmps28
  go_wp2
  go_ret
  exact ⟨rfl, HB0.out _ _⟩

def keyP (x : Pst) : List UInt8 := Wire.be x.t.toNat 8 ++ Wire.be x.s.toNat 2
theorem may_nat {x : Pst} (hm : Post.may x.d x.t x.s x.k [x.a0, x.a1, x.a2, x.a3, x.a4, x.a5] = true) : (0 ≤ x.d ∧ x.d ≤ 1000000) ∧ (1 ≤ x.s ∧ x.s ≤ 200) ∧ (1 ≤ x.k ∧ x.k ≤ 5) := by
  rw [may_parts] at hm
  simp only [Bool.and_eq_true, decide_eq_true_eq] at hm
  omega
theorem pKeyP_any (x : Pst) (ht : 0 ≤ x.t ∧ x.t ≤ 18446744073709551615) (hm : Post.may x.d x.t x.s x.k [x.a0, x.a1, x.a2, x.a3, x.a4, x.a5] = true) (w : World) :
    Calls Tryd.prog 23 #[.agg #[.int .i64 x.d, .int .u64 x.t, .int .i64 x.s, .int .i64 x.k, .int .i64 x.a0, .int .i64 x.a1, .int .i64 x.a2, .int .i64 x.a3, .int .i64 x.a4, .int .i64 x.a5]] w fun e w' => ∃ u, e = .returned (.tuple #[u, .int .i64 0]) ∧ BS w' u (keyP x) ∧ Below w.heap.size w w' := by
  obtain ⟨⟨d0, d1⟩, ⟨s0, s1⟩, ⟨k0, k1⟩⟩ := may_nat hm
  obtain ⟨d, t, s, k, a0, a1, a2, a3, a4, a5⟩ := x
  simp only at *
  obtain ⟨D, rfl⟩ := Int.eq_ofNat_of_zero_le d0
  obtain ⟨T, rfl⟩ := Int.eq_ofNat_of_zero_le ht.1
  obtain ⟨S, rfl⟩ := Int.eq_ofNat_of_zero_le (show 0 ≤ s by omega)
  obtain ⟨K, rfl⟩ := Int.eq_ofNat_of_zero_le (show 0 ≤ k by omega)
  have := pKey_any T S D K a0 a1 a2 a3 a4 a5 (by omega) (by omega) (by omega) (by omega) w hm
  exact this
theorem keyP_less {x y : Pst} (hx : 0 ≤ x.t ∧ x.t ≤ 18446744073709551615) (hy : 0 ≤ y.t ∧ y.t ≤ 18446744073709551615) (sx : 1 ≤ x.s ∧ x.s ≤ 200) (sy : 1 ≤ y.s ∧ y.s ≤ 200) :
    Op.bytesLess (keyP x) (keyP y) = lessP x y ∧ (keyP x == keyP y) = (!lessP x y && !lessP y x) := by
  have e1 : ((x.t.toNat : Nat) : Int) = x.t := Int.toNat_of_nonneg hx.1
  have e2 : ((y.t.toNat : Nat) : Int) = y.t := Int.toNat_of_nonneg hy.1
  have e3 : ((x.s.toNat : Nat) : Int) = x.s := Int.toNat_of_nonneg (by omega)
  have e4 : ((y.s.toNat : Nat) : Int) = y.s := Int.toNat_of_nonneg (by omega)
  have h1 := Wire.key_less (T := x.t.toNat) (S := x.s.toNat) (T' := y.t.toNat) (S' := y.s.toNat) (by omega) (by omega) (by omega) (by omega)
  have h2 := Wire.key_same (T := x.t.toNat) (S := x.s.toNat) (T' := y.t.toNat) (S' := y.s.toNat) (by omega) (by omega) (by omega) (by omega)
  rw [e1, e2, e3, e4] at h1 h2
  exact ⟨h1, h2.trans (less_same x y)⟩
open Go.ChangeShapes Go.WideShapes Go.ChangeAt Go.Deep in
set_option maxRecDepth 10000 in
theorem open_postingO {H : Type} {enc : TypeId × Value → H} {W : World} {base : Nat} {r : Reach} {held : Bool} {spare : Nat → Bool} {b0 : Nat} {v : Value} {d : DataW H} {ps : List MemPlace} (hv : Value.okWide Tryd.prog W r b0 49 v)
    (h : DataW.Trod enc Tryd.prog W base spare held 49 v d ps) : ∃ x : Pst, v = .agg #[.int .i64 x.d, .int .u64 x.t, .int .i64 x.s, .int .i64 x.k, .int .i64 x.a0, .int .i64 x.a1, .int .i64 x.a2, .int .i64 x.a3, .int .i64 x.a4, .int .i64 x.a5] ∧ x.wf := by
  obtain ⟨cs, rfl, hsz⟩ := okWide_struct Tryd.underlying49 hv
  obtain ⟨fuel, hf⟩ := h
  obtain ⟨x, hx, hw⟩ := open_post hf
  refine ⟨x, ?_, hw⟩
  have : cs.toList = x.cells := hx
  obtain ⟨l⟩ := cs
  have hl : l = x.cells := this
  rw [hl]
  rfl
end Go.Proofs.YtellhmbebimenaaDoor
namespace Go.Proofs.YtellhmbebimenaaDoor.postingOrders
open Go.ChangeShapes Go.WideShapes Go.ChangeAt Go.RowKit

end Go.Proofs.YtellhmbebimenaaDoor.postingOrders
