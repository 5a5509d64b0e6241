/- Contract: may a coupon be (the reference's mayCoupon, 13). -/
import Derived.Test.YtmadkfahkbdibaaTrF
set_option linter.unusedVariables false
set_option linter.unusedSimpArgs false
namespace Go.Proofs.Ytmadkfahkbdibaa
open Go.RowKit

theorem cpn_neg {num : Int} {y : Cpn} (h : y.ho < 0) : Tkt.cpnB num y = false := by
  unfold Tkt.cpnB Tkt.holdB
  have h1 : decide (101 ≤ y.ho) = false := decide_eq_false (by omega)
  have h2 : decide (y.ho = 0) = false := decide_eq_false (by omega)
  rw [h1, h2]
  simp
set_option maxRecDepth 8000 in
set_option maxHeartbeats 4000000 in
theorem rmayCoupon_any (num : Int) (y : Cpn) (hnum : U64 num) (hw : y.wf) (w : World) : Calls Try.prog 64 #[.int .u64 num, .agg #[.int .i64 y.fl, .int .i64 y.dy, .int .i64 y.va, .int .i64 y.st, .int .i64 y.ho, .int .u64 y.nx]] w fun e w' => e = .returned (.bool (Tkt.cpnB num y)) ∧ Below w.heap.size w w' := by
  obtain ⟨fl, dy, va, st, ho, nx⟩ := y
  obtain ⟨-, -, -, -, ⟨w1, w2⟩, w3⟩ := hw
  simp only at *
  have HB := Lib.hid ((Below.refl w.heap.size w).alloc (Nat.le_refl _) (.cells #[.int .i64 fl, .int .i64 dy, .int .i64 va, .int .i64 st, .int .i64 ho, .int .u64 nx] 44 (0, 0)))
  have hc := fun j => cell_of_row _ w.heap.size j _ _ _ (new_rowW w (.cells #[.int .i64 fl, .int .i64 dy, .int .i64 va, .int .i64 st, .int .i64 ho, .int .u64 nx] 44 (0, 0)) _ rfl)
  have HD := Lib.hid (fun W => rday_any dy W)
  have HS := Lib.hid (fun W => rsome_any va W)
  by_cases hho : ho < 0
  · rw [cpn_neg hho]
    have HMY := Lib.hid (fun W => may12_any st W)
    have hhb : decide (ho < 0) = true := decide_eq_true hho
    generalize Tkt.dayB dy = d at *
    generalize Tkt.someB va = s at *
    generalize Tkt.stB st = sb at *
    go_enter Try.func64, Try.ntmps64
    go_wp2_with (first | (go_at_call 63; refine (HD.out _).mono ?_; rintro e w' ⟨rfl, rfl⟩) | (go_at_call 65; refine (HS.out _).mono ?_; rintro e w' ⟨rfl, rfl⟩) | (go_at_call 66; refine (HMY.out _).mono ?_; rintro e w' ⟨rfl, rfl⟩))
    all_goals
      go_ret
      exact ⟨rfl, HB.out⟩
  have hho2 : 0 ≤ ho := by omega
  have hhb : decide (ho < 0) = false := decide_eq_false hho
  have hwu : IntKind.u64.wrap ho = ho := by rw [IntKind.wrap_u64]; omega
  clear hho
  obtain ⟨qh, eh⟩ : ∃ q, (ho != 0) = q := ⟨_, rfl⟩
  obtain ⟨qn, en⟩ : ∃ q, (nx != 0) = q := ⟨_, rfl⟩
  by_cases h9 : st = 9
  · subst h9
    have HMY := Lib.hid (fun W => (show Tkt.stB 9 = true from rfl) ▸ may12_any 9 W)
    have HMW := Lib.hid (fun W => (show Tkt.withB num 9 ho = Tkt.holdB num ho from rfl) ▸ rmayWith_any num 9 ho hnum ⟨hho2, by omega⟩ W)
    have HFIN : Hid (Tkt.cpnB num ⟨fl, dy, va, 9, ho, nx⟩ = _) := Lib.hid (by unfold Tkt.cpnB; rfl)
    generalize Tkt.cpnB num ⟨fl, dy, va, 9, ho, nx⟩ = bv at *
    generalize Tkt.dayB dy = d at *
    generalize Tkt.someB va = s at *
    generalize Tkt.holdB num ho = hb9 at *
    have hsb : Tkt.stB 9 = true := rfl
    rw [hsb] at HFIN
    clear hsb
    go_enter Try.func64, Try.ntmps64
    go_wp2_with (first | (go_at_call 63; refine (HD.out _).mono ?_; rintro e w' ⟨rfl, rfl⟩) | (go_at_call 65; refine (HS.out _).mono ?_; rintro e w' ⟨rfl, rfl⟩) | (go_at_call 66; refine (HMY.out _).mono ?_; rintro e w' ⟨rfl, rfl⟩) | (go_at_call 53; refine (HMW.out _).mono ?_; rintro e wm ⟨rfl, hb⟩; have HB := Lib.hid (Below.trans ((Below.refl w.heap.size w).alloc (Nat.le_refl _) _) (hb.mono (by simp))); clear hb))
    all_goals
      go_ret
      refine ⟨ret_bool ?_, by first | exact HB.out | exact (Below.refl _ _).alloc (Nat.le_refl _) _⟩
      rw [HFIN.out, Bool.eq_iff_iff]
      clear HFIN HB HD HS HMY hc HMW
      simp_all
      try omega
  by_cases h5 : st = 5
  · subst h5
    have HMY := Lib.hid (fun W => (show Tkt.stB 5 = true from rfl) ▸ may12_any 5 W)
    have HMW := Lib.hid (fun W => (show Tkt.withB num 5 nx = Tkt.othB num nx from rfl) ▸ rmayWith_any num 5 nx hnum w3 W)
    have HFIN : Hid (Tkt.cpnB num ⟨fl, dy, va, 5, ho, nx⟩ = _) := Lib.hid (by unfold Tkt.cpnB; rfl)
    generalize Tkt.cpnB num ⟨fl, dy, va, 5, ho, nx⟩ = bv at *
    generalize Tkt.dayB dy = d at *
    generalize Tkt.someB va = s at *
    generalize Tkt.othB num nx = ob at *
    have hsb : Tkt.stB 5 = true := rfl
    rw [hsb] at HFIN
    clear hsb h9
    go_enter Try.func64, Try.ntmps64
    go_wp2_with (first | (go_at_call 63; refine (HD.out _).mono ?_; rintro e w' ⟨rfl, rfl⟩) | (go_at_call 65; refine (HS.out _).mono ?_; rintro e w' ⟨rfl, rfl⟩) | (go_at_call 66; refine (HMY.out _).mono ?_; rintro e w' ⟨rfl, rfl⟩) | (go_at_call 53; refine (HMW.out _).mono ?_; rintro e wm ⟨rfl, hb⟩; have HB := Lib.hid (Below.trans ((Below.refl w.heap.size w).alloc (Nat.le_refl _) _) (hb.mono (by simp))); clear hb))
    all_goals
      go_ret
      refine ⟨ret_bool ?_, by first | exact HB.out | exact (Below.refl _ _).alloc (Nat.le_refl _) _⟩
      rw [HFIN.out, Bool.eq_iff_iff]
      clear HFIN HB HD HS HMY hc HMW
      simp_all
      try omega
  · have HMY := Lib.hid (fun W => may12_any st W)
    have hwv : Tkt.withB num st nx = decide (nx = 0) := by rw [Tkt.withB, if_neg h9, if_neg h5]
    have hb9 : (st == 9) = false := beq_eq_false_iff_ne.2 h9
    have hb5 : (st == 5) = false := beq_eq_false_iff_ne.2 h5
    have hn9 : (st != 9) = true := by rw [bne, hb9]; rfl
    have hn5 : (st != 5) = true := by rw [bne, hb5]; rfl
    have HMW := Lib.hid (fun W => hwv ▸ rmayWith_any num st nx hnum w3 W)
    have HFIN : Hid (Tkt.cpnB num ⟨fl, dy, va, st, ho, nx⟩ = _) := Lib.hid (by unfold Tkt.cpnB; rfl)
    rw [if_neg h9, if_neg h5] at HFIN
    generalize Tkt.cpnB num ⟨fl, dy, va, st, ho, nx⟩ = bv at *
    generalize Tkt.dayB dy = d at *
    generalize Tkt.someB va = s at *
    generalize Tkt.stB st = sb at *
    clear hwv h9 h5
    go_enter Try.func64, Try.ntmps64
    go_wp2_with (first | (go_at_call 63; refine (HD.out _).mono ?_; rintro e w' ⟨rfl, rfl⟩) | (go_at_call 65; refine (HS.out _).mono ?_; rintro e w' ⟨rfl, rfl⟩) | (go_at_call 66; refine (HMY.out _).mono ?_; rintro e w' ⟨rfl, rfl⟩) | (go_at_call 53; refine (HMW.out _).mono ?_; rintro e wm ⟨rfl, hb⟩; have HB := Lib.hid (Below.trans ((Below.refl w.heap.size w).alloc (Nat.le_refl _) _) (hb.mono (by simp))); clear hb))
    all_goals
      go_ret
      refine ⟨ret_bool ?_, by first | exact HB.out | exact (Below.refl _ _).alloc (Nat.le_refl _) _⟩
      rw [HFIN.out, Bool.eq_iff_iff]
      clear HFIN HB HD HS HMY hc HMW
      simp_all
      try omega
end Go.Proofs.Ytmadkfahkbdibaa
