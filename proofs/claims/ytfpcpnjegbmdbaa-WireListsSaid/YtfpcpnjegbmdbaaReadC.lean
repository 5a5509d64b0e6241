/- Contracts of package wire's Reader: Number of any size, Int, Flag, Blob, Text, Count. -/
import Derived.Test.YtfpcpnjegbmdbaaReadB
set_option linter.unusedVariables false
set_option linter.unusedSimpArgs false
namespace Go.Proofs.Ytfpcpnjegbmdbaa
open Go.RowKit

theorem own_mono {w : World} {base base' : Nat} {e : TypeId} {n : Nat} {v : Value} {xs : List Value} (h : w.ownsRow base e 1 v n xs) (hb : base' ≤ base) : w.ownsRow base' e 1 v n xs := by
  obtain ⟨hl, hor⟩ := h
  refine ⟨hl, ?_⟩
  rcases hor with h | ⟨g', cap', cur, e, hg, h4⟩
  · exact .inl h
  · exact .inr ⟨g', cap', cur, e, Nat.le_trans hb hg, h4⟩
theorem rnumber_any (base br : Nat) (st : Option (List UInt8)) (size : Int) (w : World) (h : IsR w base br st) :
    Calls Try.prog 43 #[.pointer (some ⟨br, 0, none⟩), .int .i64 size] w fun e w' => e = .returned (.int .u64 (rNumV st size : Int)) ∧ RStep w w' base br (rNumS st size) := by
  by_cases hs : rSize size = true
  · have h2 : ∃ k : Nat, (k = 1 ∨ k = 2 ∨ k = 4 ∨ k = 8) ∧ size = (k : Int) := by
      unfold rSize at hs
      simp only [Bool.or_eq_true, beq_iff_eq] at hs
      exact ⟨size.toNat, by omega, by omega⟩
    obtain ⟨k, hk, rfl⟩ := h2
    refine (rnumber_fit base br st k hk w h).mono ?_
    rintro e w' ⟨rfl, hr⟩
    unfold rNumV rNumS
    rw [if_pos hs, if_pos hs]
    exact ⟨rfl, hr⟩
  · refine (rnumber_bad base br st size (by simpa using hs) w h).mono ?_
    rintro e w' ⟨rfl, hr⟩
    unfold rNumV rNumS
    rw [if_neg hs, if_neg hs]
    exact ⟨rfl, hr⟩
theorem rNumV_lt (st : Option (List UInt8)) (k : Nat) : rNumV st (k : Int) < 256 ^ k := by
  unfold rNumV
  split
  · have h1 := beVal_lt _ (rBy st (k : Int)) rfl
    exact Nat.lt_of_lt_of_le h1 (Nat.pow_le_pow_right (by decide) (rBy_le st k))
  · exact Nat.pow_pos (by decide)

set_option maxRecDepth 4000 in
set_option maxHeartbeats 1000000 in
theorem rcount_any (base br : Nat) (st : Option (List UInt8)) (w : World) (h : IsR w base br st) :
    Calls Try.prog 41 #[.pointer (some ⟨br, 0, none⟩)] w fun e w' => e = .returned (.int .i64 (rNumV st 2 : Int)) ∧ RStep w w' base br (rNumS st 2) := by
  have HNU := Lib.hid (rnumber_any base br st 2 w h)
  have hlt := rNumV_lt st 2
  change rNumV st 2 < 65536 at hlt
  generalize rNumV st 2 = V at *
  go_enter Try.func41, Try.ntmps41
  go_wp2_with fail
  refine HNU.out.mono ?_
  rintro e w1 ⟨rfl, hr⟩
  have HR := Lib.hid hr; clear hr
  go_wp2
  go_ret
  exact ⟨rfl, HR.out⟩

set_option maxRecDepth 4000 in
set_option maxHeartbeats 1000000 in
theorem rflag_any (base br : Nat) (st : Option (List UInt8)) (w : World) (h : IsR w base br st) :
    Calls Try.prog 44 #[.pointer (some ⟨br, 0, none⟩)] w fun e w' => e = .returned (.bool (rNumV st 1 == 1)) ∧ RStep w w' base br (if rNumV st 1 > 1 then none else rNumS st 1) := by
  have HNU := Lib.hid (rnumber_any base br st 1 w h)
  have hlt := rNumV_lt st 1
  change rNumV st 1 < 256 at hlt
  generalize rNumV st 1 = V at *
  rcases (by omega : V = 0 ∨ V = 1 ∨ 1 < V) with rfl | rfl | hV
  · go_enter Try.func44, Try.ntmps44
    go_wp2_with fail
    refine HNU.out.mono ?_
    rintro e w1 ⟨rfl, hr⟩
    have HR := Lib.hid hr; clear hr
    go_wp2
    go_ret
    exact ⟨rfl, HR.out⟩
  · go_enter Try.func44, Try.ntmps44
    go_wp2_with fail
    refine HNU.out.mono ?_
    rintro e w1 ⟨rfl, hr⟩
    have HR := Lib.hid hr; clear hr
    go_wp2
    go_ret
    exact ⟨rfl, HR.out⟩
  · rw [if_pos hV, show (V == 1) = ((V : Int) == 1) from by rw [Bool.eq_iff_iff]; simp; omega]
    go_enter Try.func44, Try.ntmps44
    go_wp2_with fail
    refine HNU.out.mono ?_
    rintro e w1 ⟨rfl, hr⟩
    have HF := Lib.hid (rfail_any base br _ w1 hr.1)
    have HR := Lib.hid hr; clear hr
    go_wp2_with fail
    refine HF.out.mono ?_
    rintro e w2 ⟨rfl, hr⟩
    have HR2 := Lib.hid (HR.out.trans hr); clear hr
    go_wp2
    go_ret
    exact ⟨rfl, HR2.out⟩

set_option maxRecDepth 4000 in
set_option maxHeartbeats 1000000 in
theorem rtake_any (base br : Nat) (st : Option (List UInt8)) (size : Int) (w : World) (h : IsR w base br st) :
    Calls Try.prog 60 #[.func (.func 43) #[.pointer (some ⟨br, 0, none⟩)] #[], .int .i64 size] w fun e w' => e = .returned (.int .u64 (rNumV st size : Int)) ∧ RStep w w' base br (rNumS st size) := by
  have HNU := Lib.hid (rnumber_any base br st size w h)
  generalize rNumV st size = V at *
  go_enter Try.func60, Try.ntmps60
  go_wp2_with fail
  refine HNU.out.mono ?_
  rintro e w1 ⟨rfl, hr⟩
  have HR := Lib.hid hr; clear hr
  go_wp2
  go_ret
  exact ⟨rfl, HR.out⟩

set_option maxRecDepth 4000 in
set_option maxHeartbeats 1000000 in
theorem rint_any (base br : Nat) (st : Option (List UInt8)) (w : World) (h : IsR w base br st) :
    Calls Try.prog 42 #[.pointer (some ⟨br, 0, none⟩)] w fun e w' => e = .returned (.int .i64 (wrap64 (rNumV st 8 : Int))) ∧ RStep w w' base br (rNumS st 8) := by
  have HNU := Lib.hid (rtake_any base br st 8 w h)
  have hlt := rNumV_lt st 8
  change rNumV st 8 < 18446744073709551616 at hlt
  generalize rNumV st 8 = V at *
  go_enter Try.func42, Try.ntmps42
  go_wp2_with fail
  refine HNU.out.mono ?_
  rintro e w1 ⟨rfl, hr⟩
  have HR := Lib.hid hr; clear hr
  go_wp2
  go_ret
  exact ⟨rfl, HR.out⟩

/-- what Blob tells, and leaves -/
def rBlobV (st : Option (List UInt8)) : List UInt8 := if rNumV st 4 > 16777216 then [] else rBy (rNumS st 4) (rNumV st 4 : Nat)
def rBlobS (st : Option (List UInt8)) : Option (List UInt8) := if rNumV st 4 > 16777216 then none else rRest (rNumS st 4) (rNumV st 4 : Nat)

set_option maxRecDepth 4000 in
set_option maxHeartbeats 1000000 in
theorem rblob_any (base br : Nat) (st : Option (List UInt8)) (w : World) (h : IsR w base br st) :
    Calls Try.prog 46 #[.pointer (some ⟨br, 0, none⟩)] w fun e w' => ∃ v, e = .returned v ∧ w'.ownsRow w.heap.size 5 1 v (rBlobV st).length (bytesV (rBlobV st)) ∧ RStep w w' base br (rBlobS st) := by
  have HNU := Lib.hid (rtake_any base br st 4 w h)
  have hlt := rNumV_lt st 4
  change rNumV st 4 < 4294967296 at hlt
  by_cases hbig : rNumV st 4 > 16777216
  · have hV : rBlobV st = [] ∧ rBlobS st = none := ⟨if_pos hbig, if_pos hbig⟩
    rw [hV.1, hV.2]
    generalize rNumV st 4 = V at *
    clear hV
    go_enter Try.func46, Try.ntmps46
    go_wp2_with fail
    refine HNU.out.mono ?_
    rintro e w1 ⟨rfl, hr⟩
    have HF := Lib.hid (rfail_any base br _ w1 hr.1)
    have HR := Lib.hid hr; clear hr
    go_wp2_with fail
    refine HF.out.mono ?_
    rintro e w2 ⟨rfl, hr⟩
    have HR2 := Lib.hid (HR.out.trans hr); clear hr
    go_wp2
    go_ret
    exact ⟨_, rfl, World.ownsRow_nil _ _ _ _, HR2.out⟩
  · have HV : Hid (rBlobV st = rBy (rNumS st 4) (rNumV st 4 : Nat) ∧ rBlobS st = rRest (rNumS st 4) (rNumV st 4 : Nat)) := Lib.hid ⟨if_neg hbig, if_neg hbig⟩
    have hbs : w.heap.size = w.heap.size := rfl
    have HBS := Lib.hid h.lt
    generalize rNumV st 4 = V at *
    go_enter Try.func46, Try.ntmps46
    go_wp2_with fail
    refine HNU.out.mono ?_
    rintro e w1 ⟨rfl, hr⟩
    have HBY := Lib.hid (rbytes_any base br _ (V : Int) (by omega) w1 hr.1)
    have HR := Lib.hid hr; clear hr
    rw [← HV.out.1, ← HV.out.2] at HBY
    go_wp2_with fail
    refine HBY.out.mono ?_
    rintro e w2 ⟨v, rfl, hown, hr⟩
    have HOW := Lib.hid (own_mono hown HR.out.2.1.size)
    have HR2 := Lib.hid (HR.out.trans hr)
    clear hr hown
    obtain ⟨q, c, rfl⟩ := own_form HOW.out
    go_wp2
    go_ret
    exact ⟨_, rfl, HOW.out, HR2.out⟩

set_option maxRecDepth 4000 in
set_option maxHeartbeats 1000000 in
theorem rtext_any (base br : Nat) (st : Option (List UInt8)) (w : World) (h : IsR w base br st) :
    Calls Try.prog 45 #[.pointer (some ⟨br, 0, none⟩)] w fun e w' => e = .returned (.string ⟨(rBlobV st).toArray⟩) ∧ RStep w w' base br (rBlobS st) := by
  have HBL := Lib.hid (rblob_any base br st w h)
  go_enter Try.func45, Try.ntmps45
  go_wp2_with fail
  refine HBL.out.mono ?_
  rintro e w1 ⟨v, rfl, hown, hr⟩
  have f1 := (BS.of_own hown).to_string
  obtain ⟨q, c, rfl⟩ := own_form hown
  have HR := Lib.hid hr
  clear hr hown
  go_wp2
  go_ret
  exact ⟨rfl, HR.out⟩
end Go.Proofs.Ytfpcpnjegbmdbaa
