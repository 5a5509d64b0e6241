/- Contract: mayCoupon of the ticket package. -/
import Derived.Test.YtbmphlpmipkpcaaGreatRsm17
import Derived.Deep.QuietTactic
import Derived.BigQuiet

set_option linter.unusedVariables false
set_option linter.unusedSimpArgs false
namespace Go.Proofs.YtbmphlpmipkpcaaGreat
open Go.RowKit

set_option maxRecDepth 10000 in
set_option maxHeartbeats 4000000 in
theorem mayCoupon_any (t : Tk) (c x h : Sl) (y : Cpn) (hw : y.wf) (hnum : U64 t.num) (w : World) : Calls Tryz.prog 163 #[.agg #[.int .u64 t.num, .string t.loc, .int .i64 t.iss, .slice c.p c.n c.c, .slice x.p x.n x.c, .int .u64 t.prev, .int .u64 t.org, .int .u64 t.fst, .int .i64 t.vou, .int .i64 t.posts, .slice h.p h.n h.c], .agg #[.int .i64 y.fl, .int .i64 y.dy, .int .i64 y.va, .int .i64 y.st, .int .i64 y.ho, .int .u64 y.nx]] w fun e w' => e = .returned (.bool (Tkt.cpnB t.num y)) ∧ Below w.heap.size w w' := by
  obtain ⟨w1, w2, w3, w4, w5, w6⟩ := hw
  have HB := Lib.hid (((Below.refl w.heap.size w).alloc (Nat.le_refl _) (.cells #[.int .u64 t.num, .string t.loc, .int .i64 t.iss, .slice c.p c.n c.c, .slice x.p x.n x.c, .int .u64 t.prev, .int .u64 t.org, .int .u64 t.fst, .int .i64 t.vou, .int .i64 t.posts, .slice h.p h.n h.c] 27 (0, 0))).alloc (by simp) (.cells #[.int .i64 y.fl, .int .i64 y.dy, .int .i64 y.va, .int .i64 y.st, .int .i64 y.ho, .int .u64 y.nx] 33 (0, 0)))
  have hsz : (w.alloc (.cells #[.int .u64 t.num, .string t.loc, .int .i64 t.iss, .slice c.p c.n c.c, .slice x.p x.n x.c, .int .u64 t.prev, .int .u64 t.org, .int .u64 t.fst, .int .i64 t.vou, .int .i64 t.posts, .slice h.p h.n h.c] 27 (0, 0))).heap.size = w.heap.size + 1 := by simp
  have HR := Lib.hid (new_rowW (w.alloc (.cells #[.int .u64 t.num, .string t.loc, .int .i64 t.iss, .slice c.p c.n c.c, .slice x.p x.n x.c, .int .u64 t.prev, .int .u64 t.org, .int .u64 t.fst, .int .i64 t.vou, .int .i64 t.posts, .slice h.p h.n h.c] 27 (0, 0))) (.cells #[.int .i64 y.fl, .int .i64 y.dy, .int .i64 y.va, .int .i64 y.st, .int .i64 y.ho, .int .u64 y.nx] 33 (0, 0)) _ hsz.symm)
  have HRT := Lib.hid (row_allocW (new_rowW w (.cells #[.int .u64 t.num, .string t.loc, .int .i64 t.iss, .slice c.p c.n c.c, .slice x.p x.n x.c, .int .u64 t.prev, .int .u64 t.org, .int .u64 t.fst, .int .i64 t.vou, .int .i64 t.posts, .slice h.p h.n h.c] 27 (0, 0)) _ rfl) (.cells #[.int .i64 y.fl, .int .i64 y.dy, .int .i64 y.va, .int .i64 y.st, .int .i64 y.ho, .int .u64 y.nx] 33 (0, 0)))
  have hc := fun j => cell_of_row _ (w.heap.size + 1) j _ _ _ HR.out
  have hct := fun j => cell_of_row _ w.heap.size j _ _ _ HRT.out
  clear hsz
  have HFIN : Hid (Tkt.cpnB t.num y = _) := Lib.hid (by unfold Tkt.cpnB; rfl)
  have HO := Lib.hid (fun W => other_any t c x h y.nx w6 W)
  have HH := Lib.hid (fun n hn W => holder_any t c x h n hn hnum W)
  have HD := Lib.hid (fun W => tday_any y.dy W)
  have HS := Lib.hid (fun W => tsome_any y.va W)
  have HM := Lib.hid (fun W => statusMay_any y.st W)
  obtain ⟨fl, dy, va, st, ho, nx⟩ := y
  obtain ⟨num, loc, iss, cs, ts, prev, org, fst, vou, posts, hs⟩ := t
  simp only at *
  generalize Tkt.dayB dy = D at *
  generalize Tkt.someB va = S at *
  generalize Tkt.othB num nx = O at *
  unfold I64 at w1 w2 w3 w4 w5
  by_cases h9 : st = 9
  · subst h9
    have HST : Hid (Tkt.stB 9 = true) := Lib.hid rfl
    rw [HST.out] at HM HFIN
    by_cases hho : 0 < ho
    · have hwr : IntKind.u64.wrap ho = ho := by rw [IntKind.wrap_u64]; omega
      have HHO := Lib.hid (fun W => HH.out ho ⟨by omega, by omega⟩ W)
      clear HH
      generalize Tkt.holdB num ho = Hq at *
      go_enter Tryz.func163, Tryz.ntmps163
      go_wp2_with fail
      go_quiet (fail)
      have HB := Lib.hid (bdrewN HB.out nq)
      have HR := Lib.hid (row_drewN HR.out nq)
      have HRT := Lib.hid (row_drewN HRT.out nq)
      go_wp2_with (first | (go_at_call 199; refine (HO.out _).mono ?_; rintro e wn ⟨rfl, hbn⟩; have HB := Lib.hid (HB.out.trans (hbn.mono HB.out.size)); have HR := Lib.hid ((hbn.block _ (block_lt HR.out)).trans HR.out); have HRT := Lib.hid ((hbn.block _ (block_lt HRT.out)).trans HRT.out); have hc := fun j => cell_of_row _ (w.heap.size + 1) j _ _ _ HR.out; have hct := fun j => cell_of_row _ w.heap.size j _ _ _ HRT.out; clear hbn) | (go_at_call 204; refine (HHO.out _).mono ?_; rintro e wn ⟨rfl, hbn⟩; have HB := Lib.hid (HB.out.trans (hbn.mono HB.out.size)); have HR := Lib.hid ((hbn.block _ (block_lt HR.out)).trans HR.out); have HRT := Lib.hid ((hbn.block _ (block_lt HRT.out)).trans HRT.out); have hc := fun j => cell_of_row _ (w.heap.size + 1) j _ _ _ HR.out; have hct := fun j => cell_of_row _ w.heap.size j _ _ _ HRT.out; clear hbn) | (go_at_call 201; refine (HD.out _).mono ?_; rintro e w' ⟨rfl, rfl⟩) | (go_at_call 202; refine (HS.out _).mono ?_; rintro e w' ⟨rfl, rfl⟩) | (go_at_call 205; refine (HM.out _).mono ?_; rintro e w' ⟨rfl, rfl⟩))
      all_goals
            go_ret
            refine ⟨ret_bool ?_, HB.out⟩
            rw [HFIN.out, Bool.eq_iff_iff]
            simp_all
            try omega
    · have HHO : Hid (Tkt.holdB num ho = false) := Lib.hid (by unfold Tkt.holdB; simp; omega)
      rw [HHO.out] at HFIN
      go_enter Tryz.func163, Tryz.ntmps163
      go_wp2_with fail
      go_quiet (fail)
      have HB := Lib.hid (bdrewN HB.out nq)
      have HR := Lib.hid (row_drewN HR.out nq)
      have HRT := Lib.hid (row_drewN HRT.out nq)
      go_wp2_with (first | (go_at_call 199; refine (HO.out _).mono ?_; rintro e wn ⟨rfl, hbn⟩; have HB := Lib.hid (HB.out.trans (hbn.mono HB.out.size)); have HR := Lib.hid ((hbn.block _ (block_lt HR.out)).trans HR.out); have HRT := Lib.hid ((hbn.block _ (block_lt HRT.out)).trans HRT.out); have hc := fun j => cell_of_row _ (w.heap.size + 1) j _ _ _ HR.out; have hct := fun j => cell_of_row _ w.heap.size j _ _ _ HRT.out; clear hbn) | (go_at_call 204; refine (HHO.out _).mono ?_; rintro e wn ⟨rfl, hbn⟩; have HB := Lib.hid (HB.out.trans (hbn.mono HB.out.size)); have HR := Lib.hid ((hbn.block _ (block_lt HR.out)).trans HR.out); have HRT := Lib.hid ((hbn.block _ (block_lt HRT.out)).trans HRT.out); have hc := fun j => cell_of_row _ (w.heap.size + 1) j _ _ _ HR.out; have hct := fun j => cell_of_row _ w.heap.size j _ _ _ HRT.out; clear hbn) | (go_at_call 201; refine (HD.out _).mono ?_; rintro e w' ⟨rfl, rfl⟩) | (go_at_call 202; refine (HS.out _).mono ?_; rintro e w' ⟨rfl, rfl⟩) | (go_at_call 205; refine (HM.out _).mono ?_; rintro e w' ⟨rfl, rfl⟩))
      all_goals
            go_ret
            refine ⟨ret_bool ?_, HB.out⟩
            rw [HFIN.out, Bool.eq_iff_iff]
            simp_all
            try omega
  · generalize Tkt.stB st = M at *
    by_cases h5 : st = 5
    · subst h5
      go_enter Tryz.func163, Tryz.ntmps163
      go_wp2_with fail
      go_quiet (fail)
      have HB := Lib.hid (bdrewN HB.out nq)
      have HR := Lib.hid (row_drewN HR.out nq)
      have HRT := Lib.hid (row_drewN HRT.out nq)
      go_wp2_with (first | (go_at_call 199; refine (HO.out _).mono ?_; rintro e wn ⟨rfl, hbn⟩; have HB := Lib.hid (HB.out.trans (hbn.mono HB.out.size)); have HR := Lib.hid ((hbn.block _ (block_lt HR.out)).trans HR.out); have HRT := Lib.hid ((hbn.block _ (block_lt HRT.out)).trans HRT.out); have hc := fun j => cell_of_row _ (w.heap.size + 1) j _ _ _ HR.out; have hct := fun j => cell_of_row _ w.heap.size j _ _ _ HRT.out; clear hbn) | (go_at_call 204; refine (HHO.out _).mono ?_; rintro e wn ⟨rfl, hbn⟩; have HB := Lib.hid (HB.out.trans (hbn.mono HB.out.size)); have HR := Lib.hid ((hbn.block _ (block_lt HR.out)).trans HR.out); have HRT := Lib.hid ((hbn.block _ (block_lt HRT.out)).trans HRT.out); have hc := fun j => cell_of_row _ (w.heap.size + 1) j _ _ _ HR.out; have hct := fun j => cell_of_row _ w.heap.size j _ _ _ HRT.out; clear hbn) | (go_at_call 201; refine (HD.out _).mono ?_; rintro e w' ⟨rfl, rfl⟩) | (go_at_call 202; refine (HS.out _).mono ?_; rintro e w' ⟨rfl, rfl⟩) | (go_at_call 205; refine (HM.out _).mono ?_; rintro e w' ⟨rfl, rfl⟩))
      all_goals
            go_ret
            refine ⟨ret_bool ?_, HB.out⟩
            rw [HFIN.out, Bool.eq_iff_iff]
            simp_all
            try omega
    · rcases Int.decEq ho 0 with hz | hz
      · rcases Int.decEq nx 0 with hx | hx
        · go_enter Tryz.func163, Tryz.ntmps163
          go_wp2_with fail
          go_quiet (fail)
          have HB := Lib.hid (bdrewN HB.out nq)
          have HR := Lib.hid (row_drewN HR.out nq)
          have HRT := Lib.hid (row_drewN HRT.out nq)
          go_wp2_with (first | (go_at_call 199; refine (HO.out _).mono ?_; rintro e wn ⟨rfl, hbn⟩; have HB := Lib.hid (HB.out.trans (hbn.mono HB.out.size)); have HR := Lib.hid ((hbn.block _ (block_lt HR.out)).trans HR.out); have HRT := Lib.hid ((hbn.block _ (block_lt HRT.out)).trans HRT.out); have hc := fun j => cell_of_row _ (w.heap.size + 1) j _ _ _ HR.out; have hct := fun j => cell_of_row _ w.heap.size j _ _ _ HRT.out; clear hbn) | (go_at_call 204; refine (HHO.out _).mono ?_; rintro e wn ⟨rfl, hbn⟩; have HB := Lib.hid (HB.out.trans (hbn.mono HB.out.size)); have HR := Lib.hid ((hbn.block _ (block_lt HR.out)).trans HR.out); have HRT := Lib.hid ((hbn.block _ (block_lt HRT.out)).trans HRT.out); have hc := fun j => cell_of_row _ (w.heap.size + 1) j _ _ _ HR.out; have hct := fun j => cell_of_row _ w.heap.size j _ _ _ HRT.out; clear hbn) | (go_at_call 201; refine (HD.out _).mono ?_; rintro e w' ⟨rfl, rfl⟩) | (go_at_call 202; refine (HS.out _).mono ?_; rintro e w' ⟨rfl, rfl⟩) | (go_at_call 205; refine (HM.out _).mono ?_; rintro e w' ⟨rfl, rfl⟩))
          all_goals
            go_ret
            refine ⟨ret_bool ?_, HB.out⟩
            rw [HFIN.out, Bool.eq_iff_iff]
            simp_all
            try omega
        · subst hx
          go_enter Tryz.func163, Tryz.ntmps163
          go_wp2_with fail
          go_quiet (fail)
          have HB := Lib.hid (bdrewN HB.out nq)
          have HR := Lib.hid (row_drewN HR.out nq)
          have HRT := Lib.hid (row_drewN HRT.out nq)
          go_wp2_with (first | (go_at_call 199; refine (HO.out _).mono ?_; rintro e wn ⟨rfl, hbn⟩; have HB := Lib.hid (HB.out.trans (hbn.mono HB.out.size)); have HR := Lib.hid ((hbn.block _ (block_lt HR.out)).trans HR.out); have HRT := Lib.hid ((hbn.block _ (block_lt HRT.out)).trans HRT.out); have hc := fun j => cell_of_row _ (w.heap.size + 1) j _ _ _ HR.out; have hct := fun j => cell_of_row _ w.heap.size j _ _ _ HRT.out; clear hbn) | (go_at_call 204; refine (HHO.out _).mono ?_; rintro e wn ⟨rfl, hbn⟩; have HB := Lib.hid (HB.out.trans (hbn.mono HB.out.size)); have HR := Lib.hid ((hbn.block _ (block_lt HR.out)).trans HR.out); have HRT := Lib.hid ((hbn.block _ (block_lt HRT.out)).trans HRT.out); have hc := fun j => cell_of_row _ (w.heap.size + 1) j _ _ _ HR.out; have hct := fun j => cell_of_row _ w.heap.size j _ _ _ HRT.out; clear hbn) | (go_at_call 201; refine (HD.out _).mono ?_; rintro e w' ⟨rfl, rfl⟩) | (go_at_call 202; refine (HS.out _).mono ?_; rintro e w' ⟨rfl, rfl⟩) | (go_at_call 205; refine (HM.out _).mono ?_; rintro e w' ⟨rfl, rfl⟩))
          all_goals
            go_ret
            refine ⟨ret_bool ?_, HB.out⟩
            rw [HFIN.out, Bool.eq_iff_iff]
            simp_all
            try omega
      · subst hz
        rcases Int.decEq nx 0 with hx | hx
        · go_enter Tryz.func163, Tryz.ntmps163
          go_wp2_with fail
          go_quiet (fail)
          have HB := Lib.hid (bdrewN HB.out nq)
          have HR := Lib.hid (row_drewN HR.out nq)
          have HRT := Lib.hid (row_drewN HRT.out nq)
          go_wp2_with (first | (go_at_call 199; refine (HO.out _).mono ?_; rintro e wn ⟨rfl, hbn⟩; have HB := Lib.hid (HB.out.trans (hbn.mono HB.out.size)); have HR := Lib.hid ((hbn.block _ (block_lt HR.out)).trans HR.out); have HRT := Lib.hid ((hbn.block _ (block_lt HRT.out)).trans HRT.out); have hc := fun j => cell_of_row _ (w.heap.size + 1) j _ _ _ HR.out; have hct := fun j => cell_of_row _ w.heap.size j _ _ _ HRT.out; clear hbn) | (go_at_call 204; refine (HHO.out _).mono ?_; rintro e wn ⟨rfl, hbn⟩; have HB := Lib.hid (HB.out.trans (hbn.mono HB.out.size)); have HR := Lib.hid ((hbn.block _ (block_lt HR.out)).trans HR.out); have HRT := Lib.hid ((hbn.block _ (block_lt HRT.out)).trans HRT.out); have hc := fun j => cell_of_row _ (w.heap.size + 1) j _ _ _ HR.out; have hct := fun j => cell_of_row _ w.heap.size j _ _ _ HRT.out; clear hbn) | (go_at_call 201; refine (HD.out _).mono ?_; rintro e w' ⟨rfl, rfl⟩) | (go_at_call 202; refine (HS.out _).mono ?_; rintro e w' ⟨rfl, rfl⟩) | (go_at_call 205; refine (HM.out _).mono ?_; rintro e w' ⟨rfl, rfl⟩))
          all_goals
            go_ret
            refine ⟨ret_bool ?_, HB.out⟩
            rw [HFIN.out, Bool.eq_iff_iff]
            simp_all
            try omega
        · subst hx
          go_enter Tryz.func163, Tryz.ntmps163
          go_wp2_with fail
          go_quiet (fail)
          have HB := Lib.hid (bdrewN HB.out nq)
          have HR := Lib.hid (row_drewN HR.out nq)
          have HRT := Lib.hid (row_drewN HRT.out nq)
          go_wp2_with (first | (go_at_call 199; refine (HO.out _).mono ?_; rintro e wn ⟨rfl, hbn⟩; have HB := Lib.hid (HB.out.trans (hbn.mono HB.out.size)); have HR := Lib.hid ((hbn.block _ (block_lt HR.out)).trans HR.out); have HRT := Lib.hid ((hbn.block _ (block_lt HRT.out)).trans HRT.out); have hc := fun j => cell_of_row _ (w.heap.size + 1) j _ _ _ HR.out; have hct := fun j => cell_of_row _ w.heap.size j _ _ _ HRT.out; clear hbn) | (go_at_call 204; refine (HHO.out _).mono ?_; rintro e wn ⟨rfl, hbn⟩; have HB := Lib.hid (HB.out.trans (hbn.mono HB.out.size)); have HR := Lib.hid ((hbn.block _ (block_lt HR.out)).trans HR.out); have HRT := Lib.hid ((hbn.block _ (block_lt HRT.out)).trans HRT.out); have hc := fun j => cell_of_row _ (w.heap.size + 1) j _ _ _ HR.out; have hct := fun j => cell_of_row _ w.heap.size j _ _ _ HRT.out; clear hbn) | (go_at_call 201; refine (HD.out _).mono ?_; rintro e w' ⟨rfl, rfl⟩) | (go_at_call 202; refine (HS.out _).mono ?_; rintro e w' ⟨rfl, rfl⟩) | (go_at_call 205; refine (HM.out _).mono ?_; rintro e w' ⟨rfl, rfl⟩))
          all_goals
            go_ret
            refine ⟨ret_bool ?_, HB.out⟩
            rw [HFIN.out, Bool.eq_iff_iff]
            simp_all
            try omega
end Go.Proofs.YtbmphlpmipkpcaaGreat
