/- Contracts of package wire's Reader: Number of any size, Int, Flag, Blob, Text, Count. -/
import Derived.Test.YtellhmbebimenaaDoorPb32

set_option linter.unusedVariables false
set_option linter.unusedSimpArgs false
namespace Go.Proofs.YtellhmbebimenaaDoor
open Go.RowKit

theorem own_mono {w : World} {base base' : Nat} {e : TypeId} {n : Nat} {v : Value} {xs : List Value} (h : w.ownsRow base e 1 v n xs) (hb : base' ≤ base) : w.ownsRow base' e 1 v n xs := by
  obtain ⟨hl, hor⟩ := h
  refine ⟨hl, ?_⟩
  rcases hor with h | ⟨g', cap', cur, e, hg, h4⟩
  · exact .inl h
  · exact .inr ⟨g', cap', cur, e, Nat.le_trans hb hg, h4⟩
theorem rnumber_any (base br : Nat) (st : Option (List UInt8)) (size : Int) (w : World) (h : IsR w base br st) :
    Calls Tryd.prog 54 #[.pointer (some ⟨br, 0, none⟩), .int .i64 size] w fun e w' => e = .returned (.int .u64 (rNumV st size : Int)) ∧ RStep w w' base br (rNumS st size) := by
  by_cases hs : rSize size = true
  · have h2 : ∃ k : Nat, (k = 1 ∨ k = 2 ∨ k = 4 ∨ k = 8) ∧ size = (k : Int) := by
      unfold rSize at hs
      simp only [Bool.or_eq_true, beq_iff_eq] at hs
      exact ⟨size.toNat, by omega, by omega⟩
    obtain ⟨k, hk, rfl⟩ := h2
    refine (rnumber_fit base br st k hk w h).mono ?_
    rintro e w' ⟨rfl, hr⟩
    unfold rNumV rNumS
    rw [if_pos hs, if_pos hs]
    exact ⟨rfl, hr⟩
  · refine (rnumber_bad base br st size (by simpa using hs) w h).mono ?_
    rintro e w' ⟨rfl, hr⟩
    unfold rNumV rNumS
    rw [if_neg hs, if_neg hs]
    exact ⟨rfl, hr⟩
theorem rNumV_lt (st : Option (List UInt8)) (k : Nat) : rNumV st (k : Int) < 256 ^ k := by
  unfold rNumV
  split
  · have h1 := beVal_lt _ (rBy st (k : Int)) rfl
    exact Nat.lt_of_lt_of_le h1 (Nat.pow_le_pow_right (by decide) (rBy_le st k))
  · exact Nat.pow_pos (by decide)

set_option maxRecDepth 4000 in
set_option maxHeartbeats 1000000 in
theorem rtake_any (base br : Nat) (st : Option (List UInt8)) (size : Int) (w : World) (h : IsR w base br st) :
    Calls Tryd.prog 124 #[.func (.func 54) #[.pointer (some ⟨br, 0, none⟩)] #[], .int .i64 size] w fun e w' => e = .returned (.int .u64 (rNumV st size : Int)) ∧ RStep w w' base br (rNumS st size) := by
  have HNU := Lib.hid (rnumber_any base br st size w h)
  generalize rNumV st size = V at *
  go_enter Tryd.func124, Tryd.ntmps124
  go_wp2_with fail
  refine HNU.out.mono ?_
  rintro e w1 ⟨rfl, hr⟩
  have HR := Lib.hid hr; clear hr
  go_wp2
  go_ret
  exact ⟨rfl, HR.out⟩

set_option maxRecDepth 4000 in
set_option maxHeartbeats 1000000 in
theorem rint_any (base br : Nat) (st : Option (List UInt8)) (w : World) (h : IsR w base br st) :
    Calls Tryd.prog 77 #[.pointer (some ⟨br, 0, none⟩)] w fun e w' => e = .returned (.int .i64 (wrap64 (rNumV st 8 : Int))) ∧ RStep w w' base br (rNumS st 8) := by
  have HNU := Lib.hid (rtake_any base br st 8 w h)
  have hlt := rNumV_lt st 8
  change rNumV st 8 < 18446744073709551616 at hlt
  generalize rNumV st 8 = V at *
  go_enter Tryd.func77, Tryd.ntmps77
  go_wp2_with fail
  refine HNU.out.mono ?_
  rintro e w1 ⟨rfl, hr⟩
  have HR := Lib.hid hr; clear hr
  go_wp2
  go_ret
  exact ⟨rfl, HR.out⟩

/-- what Blob tells, and leaves -/
def rBlobV (st : Option (List UInt8)) : List UInt8 := if rNumV st 4 > 16777216 then [] else rBy (rNumS st 4) (rNumV st 4 : Nat)
def rBlobS (st : Option (List UInt8)) : Option (List UInt8) := if rNumV st 4 > 16777216 then none else rRest (rNumS st 4) (rNumV st 4 : Nat)

end Go.Proofs.YtellhmbebimenaaDoor
