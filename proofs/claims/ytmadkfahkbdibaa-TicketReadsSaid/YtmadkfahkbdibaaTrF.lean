/- Contracts: the reference's small functions of chapter 13: Numbered, some, day, MayWith, mayCoupon. -/
import Derived.Test.YtmadkfahkbdibaaTrE
set_option linter.unusedVariables false
set_option linter.unusedSimpArgs false
namespace Go.Proofs.Ytmadkfahkbdibaa
open Go.RowKit

theorem rnumbered_any (n : Int) (hn : U64 n) (w : World) : Calls Try.prog 61 #[.int .u64 n] w fun e w' => e = .returned (.bool (Tkt.numB n)) ∧ Below w.heap.size w w' := by
  have HC := Lib.hid (rCheck_any n hn.1 hn.2 w)
  clear hn
  go_enter Try.func61, Try.ntmps61
  go_wp2_with (go_at_call 124; refine HC.out.mono ?_; rintro e w' ⟨rfl, hb⟩; have HB := Lib.hid hb; clear hb)
  go_ret
  exact ⟨ret_bool (by first | rfl | (unfold Tkt.numB; simp)), HB.out⟩
theorem rsome_any (n : Int) (w : World) : Calls Try.prog 65 #[.int .i64 n] w fun e w' => e = .returned (.bool (Tkt.someB n)) ∧ w = w' := by
  go_enter Try.func65, Try.ntmps65
  go_wp2
  all_goals
    go_ret
    refine ⟨ret_bool ?_, rfl⟩
    unfold Tkt.someB
    simp; omega
theorem rday_any (n : Int) (w : World) : Calls Try.prog 63 #[.int .i64 n] w fun e w' => e = .returned (.bool (Tkt.dayB n)) ∧ w = w' := by
  go_enter Try.func63, Try.ntmps63
  go_wp2
  all_goals
    go_ret
    refine ⟨ret_bool ?_, rfl⟩
    unfold Tkt.dayB
    simp; omega
set_option maxHeartbeats 1000000 in
theorem rmayWith_any (num s h : Int) (hnum : U64 num) (hh : U64 h) (w : World) : Calls Try.prog 53 #[.int .u64 num, .int .i64 s, .int .u64 h] w fun e w' => e = .returned (.bool (Tkt.withB num s h)) ∧ Below w.heap.size w w' := by
  have HP := Lib.hid (rParts_any num hnum.1 hnum.2 w)
  have HN := Lib.hid (rnumbered_any h hh w)
  have HCB : Hid (0 ≤ Num.carr num ∧ Num.carr num ≤ 9223372036854775806) := Lib.hid (by have h1 := hnum.1; have h2 := hnum.2; unfold Num.carr; split <;> omega)
  obtain ⟨h0, h1⟩ := hh
  clear hnum
  by_cases h9 : s = 9
  · subst h9
    have hw : Tkt.withB num 9 h = Tkt.holdB num h := by rw [Tkt.withB, if_pos rfl]
    rw [hw]
    have HFIN : Hid (Tkt.holdB num h = _) := Lib.hid (by unfold Tkt.holdB; rfl)
    obtain ⟨c, hc⟩ : ∃ c, Num.carr num = c := ⟨_, rfl⟩
    rw [hc] at HP HCB HFIN
    obtain ⟨c0, c1⟩ := HCB.out
    have hcw : IntKind.i64.wrap (c + 1) = c + 1 := by rw [IntKind.wrap_i64]; omega
    generalize Tkt.holdB num h = bv at *
    clear hw hc
    go_enter Try.func53, Try.ntmps53
    go_wp2_with (go_at_call 117; refine HP.out.mono ?_; rintro e w' ⟨rfl, hb⟩; have HB := Lib.hid hb; clear hb)
    all_goals
      go_ret
      refine ⟨ret_bool ?_, HB.out⟩
      rw [HFIN.out, Bool.eq_iff_iff]
      simp_all
      try omega
  · by_cases h5 : s = 5
    · subst h5
      have hw : Tkt.withB num 5 h = Tkt.othB num h := by rw [Tkt.withB, if_neg (by decide), if_pos rfl]
      rw [hw]
      have HFIN : Hid (Tkt.othB num h = _) := Lib.hid (by unfold Tkt.othB; rfl)
      generalize Tkt.othB num h = bv at *
      generalize Tkt.numB h = nb at *
      clear hw
      go_enter Try.func53, Try.ntmps53
      go_wp2_with (go_at_call 61; refine HN.out.mono ?_; rintro e w' ⟨rfl, hb⟩; have HB := Lib.hid hb; clear hb)
      all_goals
        go_ret
        refine ⟨ret_bool ?_, HB.out⟩
        rw [HFIN.out, Bool.eq_iff_iff]
        simp_all
    · have hw : Tkt.withB num s h = decide (h = 0) := by rw [Tkt.withB, if_neg h9, if_neg h5]
      rw [hw]
      have hb9 : (s == 9) = false := beq_eq_false_iff_ne.2 h9
      have hb5 : (s == 5) = false := beq_eq_false_iff_ne.2 h5
      clear hw h9 h5
      go_enter Try.func53, Try.ntmps53
      go_wp2_with fail
      all_goals
        go_ret
        refine ⟨ret_bool ?_, Below.refl _ _⟩
        rw [Bool.eq_iff_iff]
        simp
end Go.Proofs.Ytmadkfahkbdibaa
