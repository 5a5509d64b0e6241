/- Contracts: mayHead, mayCoupon, mayTaxes of the ticket package. -/
import Derived.Test.YtmadkfahkbdibaaTkA
import Derived.Test.YtmadkfahkbdibaaNumB
import Derived.Test.YtmadkfahkbdibaaWirK
set_option linter.unusedVariables false
set_option linter.unusedSimpArgs false
namespace Go.Proofs.Ytmadkfahkbdibaa
open Go.RowKit

theorem statusMay_any (n : Int) (w : World) : Calls Try.prog 115 #[.int .i64 n] w fun e w' => e = .returned (.bool (Tkt.stB n)) ∧ w = w' := by
  go_enter Try.func115, Try.ntmps115
  go_wp2
  all_goals
    go_ret
    refine ⟨ret_bool ?_, rfl⟩
    unfold Tkt.stB
    simp; omega

theorem bits_any (n : Int) (w : World) : Calls Try.prog 116 #[.int .i64 n] w fun e w' => e = .returned (.int .i64 (Tkt.bitsI n)) ∧ w = w' := by
  go_enter Try.func116, Try.ntmps116
  go_wp2
  all_goals
    go_ret
    refine ⟨ret_int ?_, rfl⟩
    unfold Tkt.bitsI
    simp_all

set_option maxRecDepth 10000 in
set_option maxHeartbeats 4000000 in
theorem mayHead_any (t : Tk) (c x h : Sl) (hw : t.wf) (w : World) : Calls Try.prog 55 #[.agg #[.int .u64 t.num, .string t.loc, .int .i64 t.iss, .slice c.p c.n c.c, .slice x.p x.n x.c, .int .u64 t.prev, .int .u64 t.org, .int .u64 t.fst, .int .i64 t.vou, .int .i64 t.posts, .slice h.p h.n h.c]] w fun e w' => e = .returned (.bool (Tkt.headB t)) ∧ Below w.heap.size w w' := by
  obtain ⟨w1, w2, w3, -, -, w4, w5, w6, w7, w8, -⟩ := hw
  have HL : Hid (t.loc.size ≤ maxLen) := Lib.hid w2
  have HB := Lib.hid ((Below.refl w.heap.size w).alloc (Nat.le_refl _) (.cells #[.int .u64 t.num, .string t.loc, .int .i64 t.iss, .slice c.p c.n c.c, .slice x.p x.n x.c, .int .u64 t.prev, .int .u64 t.org, .int .u64 t.fst, .int .i64 t.vou, .int .i64 t.posts, .slice h.p h.n h.c] 27 (0, 0)))
  have HR := Lib.hid (new_rowW w (.cells #[.int .u64 t.num, .string t.loc, .int .i64 t.iss, .slice c.p c.n c.c, .slice x.p x.n x.c, .int .u64 t.prev, .int .u64 t.org, .int .u64 t.fst, .int .i64 t.vou, .int .i64 t.posts, .slice h.p h.n h.c] 27 (0, 0)) _ rfl)
  have hc := fun j => cell_of_row _ w.heap.size j _ _ _ HR.out
  have HFIN : Hid (Tkt.headB t = _) := Lib.hid (by unfold Tkt.headB; rfl)
  have HO := Lib.hid (fun n hn W => other_any t c x h n hn W)
  have HLO := Lib.hid (fun W => locator_any t.loc W HL.out)
  have HN1 := Lib.hid (fun W => numbered_any t.num w1 W)
  have HN2 := Lib.hid (fun W => numbered_any t.fst w6 W)
  have HD := Lib.hid (fun W => tday_any t.iss W)
  have hz : Tkt.othB t.num 0 = false := by simp [Tkt.othB, Tkt.numB, Num.check]
  have HZ := Lib.hid hz
  clear w2 hz
  obtain ⟨num, loc, iss, cs, ts, prev, org, fst, vou, posts, hs⟩ := t
  simp only at *
  generalize Num.loc loc.data.toList = LB at *
  generalize Tkt.numB num = N1 at *
  generalize Tkt.numB fst = N2 at *
  generalize Tkt.dayB iss = D at *
  generalize ho : Tkt.othB num = othF at *
  clear ho
  by_cases hp : prev = 0
  · subst hp
    by_cases hq : org = num
    · subst hq
      go_enter Try.func55, Try.ntmps55
      go_wp2_with (first | (go_at_call 50; (first | (with_reducible refine (HZO.out _).mono ?_) | (with_reducible refine (HO.out _ w4 _).mono ?_) | (with_reducible refine (HO.out _ w5 _).mono ?_)); rintro e wn ⟨rfl, hbn⟩; have HB := Lib.hid (HB.out.trans (hbn.mono HB.out.size)); have HR := Lib.hid ((hbn.block _ (block_lt HR.out)).trans HR.out); have hc := fun j => cell_of_row _ w.heap.size j _ _ _ HR.out; clear hbn) | (go_at_call 112; (first | (with_reducible refine (HN1.out _).mono ?_) | (with_reducible refine (HN2.out _).mono ?_)); rintro e w' ⟨rfl, rfl⟩) | (go_at_call 77; refine (HLO.out _).mono ?_; rintro e wn ⟨rfl, hbn⟩; have HB := Lib.hid (HB.out.trans (hbn.mono HB.out.size)); have HR := Lib.hid ((hbn.block _ (block_lt HR.out)).trans HR.out); have hc := fun j => cell_of_row _ w.heap.size j _ _ _ HR.out; clear hbn) | (go_at_call 119; refine (HD.out _).mono ?_; rintro e w' ⟨rfl, rfl⟩))
      all_goals
      go_ret
      refine ⟨ret_bool ?_, HB.out⟩
      rw [HFIN.out, Bool.eq_iff_iff]
      simp_all
      try omega
    · have HZO := Lib.hid (fun W => HO.out 0 w4 W)
      rw [HZ.out] at HZO
      go_enter Try.func55, Try.ntmps55
      go_wp2_with (first | (go_at_call 50; (first | (with_reducible refine (HZO.out _).mono ?_) | (with_reducible refine (HO.out _ w4 _).mono ?_) | (with_reducible refine (HO.out _ w5 _).mono ?_)); rintro e wn ⟨rfl, hbn⟩; have HB := Lib.hid (HB.out.trans (hbn.mono HB.out.size)); have HR := Lib.hid ((hbn.block _ (block_lt HR.out)).trans HR.out); have hc := fun j => cell_of_row _ w.heap.size j _ _ _ HR.out; clear hbn) | (go_at_call 112; (first | (with_reducible refine (HN1.out _).mono ?_) | (with_reducible refine (HN2.out _).mono ?_)); rintro e w' ⟨rfl, rfl⟩) | (go_at_call 77; refine (HLO.out _).mono ?_; rintro e wn ⟨rfl, hbn⟩; have HB := Lib.hid (HB.out.trans (hbn.mono HB.out.size)); have HR := Lib.hid ((hbn.block _ (block_lt HR.out)).trans HR.out); have hc := fun j => cell_of_row _ w.heap.size j _ _ _ HR.out; clear hbn) | (go_at_call 119; refine (HD.out _).mono ?_; rintro e w' ⟨rfl, rfl⟩))
      all_goals
      go_ret
      refine ⟨ret_bool ?_, HB.out⟩
      rw [HFIN.out, Bool.eq_iff_iff]
      simp_all
      try omega
  · go_enter Try.func55, Try.ntmps55
    go_wp2_with (first | (go_at_call 50; (first | (with_reducible refine (HZO.out _).mono ?_) | (with_reducible refine (HO.out _ w4 _).mono ?_) | (with_reducible refine (HO.out _ w5 _).mono ?_)); rintro e wn ⟨rfl, hbn⟩; have HB := Lib.hid (HB.out.trans (hbn.mono HB.out.size)); have HR := Lib.hid ((hbn.block _ (block_lt HR.out)).trans HR.out); have hc := fun j => cell_of_row _ w.heap.size j _ _ _ HR.out; clear hbn) | (go_at_call 112; (first | (with_reducible refine (HN1.out _).mono ?_) | (with_reducible refine (HN2.out _).mono ?_)); rintro e w' ⟨rfl, rfl⟩) | (go_at_call 77; refine (HLO.out _).mono ?_; rintro e wn ⟨rfl, hbn⟩; have HB := Lib.hid (HB.out.trans (hbn.mono HB.out.size)); have HR := Lib.hid ((hbn.block _ (block_lt HR.out)).trans HR.out); have hc := fun j => cell_of_row _ w.heap.size j _ _ _ HR.out; clear hbn) | (go_at_call 119; refine (HD.out _).mono ?_; rintro e w' ⟨rfl, rfl⟩))
    all_goals
      go_ret
      refine ⟨ret_bool ?_, HB.out⟩
      rw [HFIN.out, Bool.eq_iff_iff]
      simp_all
      try omega

end Go.Proofs.Ytmadkfahkbdibaa
