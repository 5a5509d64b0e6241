/- Plain facts for PostingReads: a posting's 63 bytes, and what is read of any bytes. -/
import Derived.Test.YtellhmbebimenaaDoorPb11
import Derived.Test.YtellhmbebimenaaDoorPb39

set_option linter.unusedVariables false
set_option linter.unusedSimpArgs false
namespace Go.Proofs.YtellhmbebimenaaDoor
open Go.RowKit

theorem beVal_ofBe (l : List UInt8) : beVal l = Wire.ofBe l := by
  unfold beVal Wire.ofBe
  congr 1
  funext n b
  unfold Wire.bstep
  omega
/-- what is left of bytes behind a place -/
def stAt (b : List UInt8) (o : Nat) : Option (List UInt8) := if o ≤ b.length then some (b.drop o) else none
def vAt (b : List UInt8) (o k : Nat) : Nat := rNumV (stAt b o) (k : Int)
theorem stAt_zero (b : List UInt8) : stAt b 0 = some b := by unfold stAt; rw [if_pos (Nat.zero_le _)]; rfl
theorem stAt_num (b : List UInt8) (o k : Nat) (hk : k = 1 ∨ k = 2 ∨ k = 4 ∨ k = 8) : rNumS (stAt b o) (k : Int) = stAt b (o + k) := by
  have hs : rSize (k : Int) = true := by rcases hk with rfl | rfl | rfl | rfl <;> rfl
  unfold rNumS
  rw [if_pos hs]
  unfold stAt
  by_cases h : o ≤ b.length
  · rw [if_pos h]
    by_cases h2 : o + k ≤ b.length
    · rw [if_pos h2, (rTake_fit (l := b.drop o) (n := k) (by rw [List.length_drop]; omega)).2, List.drop_drop]
    · rw [if_neg h2]
      exact (rTake_bad (fun l e => by injection e with e; subst e; rw [List.length_drop]; omega)).2
  · rw [if_neg h, if_neg (by omega)]; rfl
theorem stAt_end (b : List UInt8) : stAt b 63 = some [] ↔ b.length = 63 := by
  unfold stAt
  by_cases h : 63 ≤ b.length
  · rw [if_pos h]
    simp only [Option.some.injEq, List.drop_eq_nil_iff]; omega
  · rw [if_neg h]
    constructor
    · intro h; cases h
    · intro h2; omega
theorem vAt_lt (b : List UInt8) (o k : Nat) : vAt b o k < 256 ^ k := rNumV_lt _ k
theorem vAt_num {b : List UInt8} {o : Nat} (k : Nat) (h : o ≤ b.length) : numV (b.drop o) (k : Int) = vAt b o k := by
  unfold vAt stAt
  rw [if_pos h, (rNum_t _ _).2]
theorem be_vAt {b : List UInt8} {o k : Nat} (hk : k = 1 ∨ k = 2 ∨ k = 4 ∨ k = 8) (h : o + k ≤ b.length) : Wire.be (vAt b o k) k = (b.drop o).take k := by
  have hs : rSize (k : Int) = true := by rcases hk with rfl | rfl | rfl | rfl <;> rfl
  have hl : ((b.drop o).take k).length = k := by rw [List.length_take, List.length_drop]; omega
  unfold vAt rNumV stAt
  rw [if_pos hs, if_pos (by omega)]
  unfold rBy
  rw [(rTake_fit (l := b.drop o) (n := k) (by rw [List.length_drop]; omega)).1]
  show Wire.be (beVal ((b.drop o).take k)) k = _
  have := Wire.be_ofBe ((b.drop o).take k)
  rwa [hl, ← beVal_ofBe] at this
theorem cut_step (b : List UInt8) (o k : Nat) : (b.drop o).take k ++ b.drop (o + k) = b.drop o := by
  rw [← List.drop_drop, List.take_append_drop]
def pOf (b : List UInt8) : Pst := ⟨vAt b 10 4, vAt b 0 8, vAt b 8 2, vAt b 14 1, wrap64 (vAt b 15 8), wrap64 (vAt b 23 8), wrap64 (vAt b 31 8), wrap64 (vAt b 39 8), wrap64 (vAt b 47 8), wrap64 (vAt b 55 8)⟩
def zeroP : Pst := ⟨0, 0, 0, 0, 0, 0, 0, 0, 0, 0⟩
def encH (p : Pst) : List UInt8 := ((Wire.be (u64 p.t) 8 ++ Wire.be (u64 p.s) 2) ++ Wire.be (u64 p.d) 4) ++ Wire.be (u64 p.k) 1
def encA (am : List Int) : List UInt8 := am.flatMap fun a => Wire.be (u64 a) 8
def encP (p : Pst) : List UInt8 := encH p ++ encA p.am
theorem u64_wrap (N : Nat) (h : N < 18446744073709551616) : u64 (wrap64 (N : Int)) = N := by unfold u64 wrap64; omega
theorem u64_of (N : Nat) (h : N < 18446744073709551616) : u64 (N : Int) = N := by unfold u64; omega
theorem encP_of {b : List UInt8} (h : b.length = 63) : encP (pOf b) = b := by
  have l := fun o k => vAt_lt b o k
  unfold encP encH encA Pst.am pOf
  simp only [List.flatMap_cons, List.flatMap_nil, List.append_nil]
  rw [u64_of _ (Nat.lt_of_lt_of_le (l 0 8) (by decide)), u64_of _ (Nat.lt_of_lt_of_le (l 8 2) (by decide)), u64_of _ (Nat.lt_of_lt_of_le (l 10 4) (by decide)), u64_of _ (Nat.lt_of_lt_of_le (l 14 1) (by decide))]
  rw [u64_wrap _ (Nat.lt_of_lt_of_le (l 15 8) (by decide)), u64_wrap _ (Nat.lt_of_lt_of_le (l 23 8) (by decide)), u64_wrap _ (Nat.lt_of_lt_of_le (l 31 8) (by decide)), u64_wrap _ (Nat.lt_of_lt_of_le (l 39 8) (by decide)), u64_wrap _ (Nat.lt_of_lt_of_le (l 47 8) (by decide)), u64_wrap _ (Nat.lt_of_lt_of_le (l 55 8) (by decide))]
  rw [be_vAt (by decide) (by omega), be_vAt (by decide) (by omega), be_vAt (by decide) (by omega), be_vAt (by decide) (by omega), be_vAt (by decide) (by omega), be_vAt (by decide) (by omega), be_vAt (by decide) (by omega), be_vAt (by decide) (by omega), be_vAt (by decide) (by omega), be_vAt (by decide) (by omega)]
  have e : b.drop 63 = [] := List.drop_of_length_le (by omega)
  have s9 := cut_step b 55 8
  rw [show 55 + 8 = 63 from rfl, e, List.append_nil] at s9
  simp only [List.append_assoc]
  rw [s9, cut_step b 47 8, cut_step b 39 8, cut_step b 31 8, cut_step b 23 8, cut_step b 15 8, cut_step b 14 1, cut_step b 10 4, cut_step b 8 2, cut_step b 0 8]
  rfl
end Go.Proofs.YtellhmbebimenaaDoor
