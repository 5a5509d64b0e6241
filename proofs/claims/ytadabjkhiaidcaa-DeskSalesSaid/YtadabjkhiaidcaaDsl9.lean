/- Contract: mayCoupon of the ticket package. Contract: which taxes may be (ticket.mayTaxes). Contracts: may all coupons be (ticket.May's closure, over the list). -/
import Derived.Test.YtadabjkhiaidcaaDsl8
import Derived.Deep.QuietTactic
import Derived.BigQuiet
import Derived.Test.YtadabjkhiaidcaaDsl6

section
set_option linter.unusedVariables false
set_option linter.unusedSimpArgs false
namespace Go.Proofs.Ytadabjkhiaidcaa
open Go.RowKit

set_option maxRecDepth 10000 in
set_option maxHeartbeats 4000000 in
theorem mayCoupon_any (t : Tk) (c x h : Sl) (y : Cpn) (hw : y.wf) (hnum : U64 t.num) (w : World) : Calls Try.prog 86 #[.agg #[.int .u64 t.num, .string t.loc, .int .i64 t.iss, .slice c.p c.n c.c, .slice x.p x.n x.c, .int .u64 t.prev, .int .u64 t.org, .int .u64 t.fst, .int .i64 t.vou, .int .i64 t.posts, .slice h.p h.n h.c], .agg #[.int .i64 y.fl, .int .i64 y.dy, .int .i64 y.va, .int .i64 y.st, .int .i64 y.ho, .int .u64 y.nx]] w fun e w' => e = .returned (.bool (Tkt.cpnB t.num y)) ∧ Below w.heap.size w w' := by
  obtain ⟨w1, w2, w3, w4, w5, w6⟩ := hw
  have HB := Lib.hid (((Below.refl w.heap.size w).alloc (Nat.le_refl _) (.cells #[.int .u64 t.num, .string t.loc, .int .i64 t.iss, .slice c.p c.n c.c, .slice x.p x.n x.c, .int .u64 t.prev, .int .u64 t.org, .int .u64 t.fst, .int .i64 t.vou, .int .i64 t.posts, .slice h.p h.n h.c] 45 (0, 0))).alloc (by simp) (.cells #[.int .i64 y.fl, .int .i64 y.dy, .int .i64 y.va, .int .i64 y.st, .int .i64 y.ho, .int .u64 y.nx] 37 (0, 0)))
  have hsz : (w.alloc (.cells #[.int .u64 t.num, .string t.loc, .int .i64 t.iss, .slice c.p c.n c.c, .slice x.p x.n x.c, .int .u64 t.prev, .int .u64 t.org, .int .u64 t.fst, .int .i64 t.vou, .int .i64 t.posts, .slice h.p h.n h.c] 45 (0, 0))).heap.size = w.heap.size + 1 := by simp
  have HR := Lib.hid (new_rowW (w.alloc (.cells #[.int .u64 t.num, .string t.loc, .int .i64 t.iss, .slice c.p c.n c.c, .slice x.p x.n x.c, .int .u64 t.prev, .int .u64 t.org, .int .u64 t.fst, .int .i64 t.vou, .int .i64 t.posts, .slice h.p h.n h.c] 45 (0, 0))) (.cells #[.int .i64 y.fl, .int .i64 y.dy, .int .i64 y.va, .int .i64 y.st, .int .i64 y.ho, .int .u64 y.nx] 37 (0, 0)) _ hsz.symm)
  have HRT := Lib.hid (row_allocW (new_rowW w (.cells #[.int .u64 t.num, .string t.loc, .int .i64 t.iss, .slice c.p c.n c.c, .slice x.p x.n x.c, .int .u64 t.prev, .int .u64 t.org, .int .u64 t.fst, .int .i64 t.vou, .int .i64 t.posts, .slice h.p h.n h.c] 45 (0, 0)) _ rfl) (.cells #[.int .i64 y.fl, .int .i64 y.dy, .int .i64 y.va, .int .i64 y.st, .int .i64 y.ho, .int .u64 y.nx] 37 (0, 0)))
  have hc := fun j => cell_of_row _ (w.heap.size + 1) j _ _ _ HR.out
  have hct := fun j => cell_of_row _ w.heap.size j _ _ _ HRT.out
  clear hsz
  have HFIN : Hid (Tkt.cpnB t.num y = _) := Lib.hid (by unfold Tkt.cpnB; rfl)
  have HO := Lib.hid (fun W => other_any t c x h y.nx w6 W)
  have HH := Lib.hid (fun n hn W => holder_any t c x h n hn hnum W)
  have HD := Lib.hid (fun W => tday_any y.dy W)
  have HS := Lib.hid (fun W => tsome_any y.va W)
  have HM := Lib.hid (fun W => statusMay_any y.st W)
  obtain ⟨fl, dy, va, st, ho, nx⟩ := y
  obtain ⟨num, loc, iss, cs, ts, prev, org, fst, vou, posts, hs⟩ := t
  simp only at *
  generalize Tkt.dayB dy = D at *
  generalize Tkt.someB va = S at *
  generalize Tkt.othB num nx = O at *
  unfold I64 at w1 w2 w3 w4 w5
  by_cases h9 : st = 9
  · subst h9
    have HST : Hid (Tkt.stB 9 = true) := Lib.hid rfl
    rw [HST.out] at HM HFIN
    by_cases hho : 0 < ho
    · have hwr : IntKind.u64.wrap ho = ho := by rw [IntKind.wrap_u64]; omega
      have HHO := Lib.hid (fun W => HH.out ho ⟨by omega, by omega⟩ W)
      clear HH
      generalize Tkt.holdB num ho = Hq at *
      go_enter Try.func86, Try.ntmps86
      go_wp2_with fail
      go_quiet (fail)
      have HB := Lib.hid (bdrewN HB.out nq)
      have HR := Lib.hid (row_drewN HR.out nq)
      have HRT := Lib.hid (row_drewN HRT.out nq)
      go_wp2_with (first | (go_at_call 97; refine (HO.out _).mono ?_; rintro e wn ⟨rfl, hbn⟩; have HB := Lib.hid (HB.out.trans (hbn.mono HB.out.size)); have HR := Lib.hid ((hbn.block _ (block_lt HR.out)).trans HR.out); have HRT := Lib.hid ((hbn.block _ (block_lt HRT.out)).trans HRT.out); have hc := fun j => cell_of_row _ (w.heap.size + 1) j _ _ _ HR.out; have hct := fun j => cell_of_row _ w.heap.size j _ _ _ HRT.out; clear hbn) | (go_at_call 96; refine (HHO.out _).mono ?_; rintro e wn ⟨rfl, hbn⟩; have HB := Lib.hid (HB.out.trans (hbn.mono HB.out.size)); have HR := Lib.hid ((hbn.block _ (block_lt HR.out)).trans HR.out); have HRT := Lib.hid ((hbn.block _ (block_lt HRT.out)).trans HRT.out); have hc := fun j => cell_of_row _ (w.heap.size + 1) j _ _ _ HR.out; have hct := fun j => cell_of_row _ w.heap.size j _ _ _ HRT.out; clear hbn) | (go_at_call 100; refine (HD.out _).mono ?_; rintro e w' ⟨rfl, rfl⟩) | (go_at_call 101; refine (HS.out _).mono ?_; rintro e w' ⟨rfl, rfl⟩) | (go_at_call 72; refine (HM.out _).mono ?_; rintro e w' ⟨rfl, rfl⟩))
      all_goals
            go_ret
            refine ⟨ret_bool ?_, HB.out⟩
            rw [HFIN.out, Bool.eq_iff_iff]
            simp_all
            try omega
    · have HHO : Hid (Tkt.holdB num ho = false) := Lib.hid (by unfold Tkt.holdB; simp; omega)
      rw [HHO.out] at HFIN
      go_enter Try.func86, Try.ntmps86
      go_wp2_with fail
      go_quiet (fail)
      have HB := Lib.hid (bdrewN HB.out nq)
      have HR := Lib.hid (row_drewN HR.out nq)
      have HRT := Lib.hid (row_drewN HRT.out nq)
      go_wp2_with (first | (go_at_call 97; refine (HO.out _).mono ?_; rintro e wn ⟨rfl, hbn⟩; have HB := Lib.hid (HB.out.trans (hbn.mono HB.out.size)); have HR := Lib.hid ((hbn.block _ (block_lt HR.out)).trans HR.out); have HRT := Lib.hid ((hbn.block _ (block_lt HRT.out)).trans HRT.out); have hc := fun j => cell_of_row _ (w.heap.size + 1) j _ _ _ HR.out; have hct := fun j => cell_of_row _ w.heap.size j _ _ _ HRT.out; clear hbn) | (go_at_call 96; refine (HHO.out _).mono ?_; rintro e wn ⟨rfl, hbn⟩; have HB := Lib.hid (HB.out.trans (hbn.mono HB.out.size)); have HR := Lib.hid ((hbn.block _ (block_lt HR.out)).trans HR.out); have HRT := Lib.hid ((hbn.block _ (block_lt HRT.out)).trans HRT.out); have hc := fun j => cell_of_row _ (w.heap.size + 1) j _ _ _ HR.out; have hct := fun j => cell_of_row _ w.heap.size j _ _ _ HRT.out; clear hbn) | (go_at_call 100; refine (HD.out _).mono ?_; rintro e w' ⟨rfl, rfl⟩) | (go_at_call 101; refine (HS.out _).mono ?_; rintro e w' ⟨rfl, rfl⟩) | (go_at_call 72; refine (HM.out _).mono ?_; rintro e w' ⟨rfl, rfl⟩))
      all_goals
            go_ret
            refine ⟨ret_bool ?_, HB.out⟩
            rw [HFIN.out, Bool.eq_iff_iff]
            simp_all
            try omega
  · generalize Tkt.stB st = M at *
    by_cases h5 : st = 5
    · subst h5
      go_enter Try.func86, Try.ntmps86
      go_wp2_with fail
      go_quiet (fail)
      have HB := Lib.hid (bdrewN HB.out nq)
      have HR := Lib.hid (row_drewN HR.out nq)
      have HRT := Lib.hid (row_drewN HRT.out nq)
      go_wp2_with (first | (go_at_call 97; refine (HO.out _).mono ?_; rintro e wn ⟨rfl, hbn⟩; have HB := Lib.hid (HB.out.trans (hbn.mono HB.out.size)); have HR := Lib.hid ((hbn.block _ (block_lt HR.out)).trans HR.out); have HRT := Lib.hid ((hbn.block _ (block_lt HRT.out)).trans HRT.out); have hc := fun j => cell_of_row _ (w.heap.size + 1) j _ _ _ HR.out; have hct := fun j => cell_of_row _ w.heap.size j _ _ _ HRT.out; clear hbn) | (go_at_call 96; refine (HHO.out _).mono ?_; rintro e wn ⟨rfl, hbn⟩; have HB := Lib.hid (HB.out.trans (hbn.mono HB.out.size)); have HR := Lib.hid ((hbn.block _ (block_lt HR.out)).trans HR.out); have HRT := Lib.hid ((hbn.block _ (block_lt HRT.out)).trans HRT.out); have hc := fun j => cell_of_row _ (w.heap.size + 1) j _ _ _ HR.out; have hct := fun j => cell_of_row _ w.heap.size j _ _ _ HRT.out; clear hbn) | (go_at_call 100; refine (HD.out _).mono ?_; rintro e w' ⟨rfl, rfl⟩) | (go_at_call 101; refine (HS.out _).mono ?_; rintro e w' ⟨rfl, rfl⟩) | (go_at_call 72; refine (HM.out _).mono ?_; rintro e w' ⟨rfl, rfl⟩))
      all_goals
            go_ret
            refine ⟨ret_bool ?_, HB.out⟩
            rw [HFIN.out, Bool.eq_iff_iff]
            simp_all
            try omega
    · rcases Int.decEq ho 0 with hz | hz
      · rcases Int.decEq nx 0 with hx | hx
        · go_enter Try.func86, Try.ntmps86
          go_wp2_with fail
          go_quiet (fail)
          have HB := Lib.hid (bdrewN HB.out nq)
          have HR := Lib.hid (row_drewN HR.out nq)
          have HRT := Lib.hid (row_drewN HRT.out nq)
          go_wp2_with (first | (go_at_call 97; refine (HO.out _).mono ?_; rintro e wn ⟨rfl, hbn⟩; have HB := Lib.hid (HB.out.trans (hbn.mono HB.out.size)); have HR := Lib.hid ((hbn.block _ (block_lt HR.out)).trans HR.out); have HRT := Lib.hid ((hbn.block _ (block_lt HRT.out)).trans HRT.out); have hc := fun j => cell_of_row _ (w.heap.size + 1) j _ _ _ HR.out; have hct := fun j => cell_of_row _ w.heap.size j _ _ _ HRT.out; clear hbn) | (go_at_call 96; refine (HHO.out _).mono ?_; rintro e wn ⟨rfl, hbn⟩; have HB := Lib.hid (HB.out.trans (hbn.mono HB.out.size)); have HR := Lib.hid ((hbn.block _ (block_lt HR.out)).trans HR.out); have HRT := Lib.hid ((hbn.block _ (block_lt HRT.out)).trans HRT.out); have hc := fun j => cell_of_row _ (w.heap.size + 1) j _ _ _ HR.out; have hct := fun j => cell_of_row _ w.heap.size j _ _ _ HRT.out; clear hbn) | (go_at_call 100; refine (HD.out _).mono ?_; rintro e w' ⟨rfl, rfl⟩) | (go_at_call 101; refine (HS.out _).mono ?_; rintro e w' ⟨rfl, rfl⟩) | (go_at_call 72; refine (HM.out _).mono ?_; rintro e w' ⟨rfl, rfl⟩))
          all_goals
            go_ret
            refine ⟨ret_bool ?_, HB.out⟩
            rw [HFIN.out, Bool.eq_iff_iff]
            simp_all
            try omega
        · subst hx
          go_enter Try.func86, Try.ntmps86
          go_wp2_with fail
          go_quiet (fail)
          have HB := Lib.hid (bdrewN HB.out nq)
          have HR := Lib.hid (row_drewN HR.out nq)
          have HRT := Lib.hid (row_drewN HRT.out nq)
          go_wp2_with (first | (go_at_call 97; refine (HO.out _).mono ?_; rintro e wn ⟨rfl, hbn⟩; have HB := Lib.hid (HB.out.trans (hbn.mono HB.out.size)); have HR := Lib.hid ((hbn.block _ (block_lt HR.out)).trans HR.out); have HRT := Lib.hid ((hbn.block _ (block_lt HRT.out)).trans HRT.out); have hc := fun j => cell_of_row _ (w.heap.size + 1) j _ _ _ HR.out; have hct := fun j => cell_of_row _ w.heap.size j _ _ _ HRT.out; clear hbn) | (go_at_call 96; refine (HHO.out _).mono ?_; rintro e wn ⟨rfl, hbn⟩; have HB := Lib.hid (HB.out.trans (hbn.mono HB.out.size)); have HR := Lib.hid ((hbn.block _ (block_lt HR.out)).trans HR.out); have HRT := Lib.hid ((hbn.block _ (block_lt HRT.out)).trans HRT.out); have hc := fun j => cell_of_row _ (w.heap.size + 1) j _ _ _ HR.out; have hct := fun j => cell_of_row _ w.heap.size j _ _ _ HRT.out; clear hbn) | (go_at_call 100; refine (HD.out _).mono ?_; rintro e w' ⟨rfl, rfl⟩) | (go_at_call 101; refine (HS.out _).mono ?_; rintro e w' ⟨rfl, rfl⟩) | (go_at_call 72; refine (HM.out _).mono ?_; rintro e w' ⟨rfl, rfl⟩))
          all_goals
            go_ret
            refine ⟨ret_bool ?_, HB.out⟩
            rw [HFIN.out, Bool.eq_iff_iff]
            simp_all
            try omega
      · subst hz
        rcases Int.decEq nx 0 with hx | hx
        · go_enter Try.func86, Try.ntmps86
          go_wp2_with fail
          go_quiet (fail)
          have HB := Lib.hid (bdrewN HB.out nq)
          have HR := Lib.hid (row_drewN HR.out nq)
          have HRT := Lib.hid (row_drewN HRT.out nq)
          go_wp2_with (first | (go_at_call 97; refine (HO.out _).mono ?_; rintro e wn ⟨rfl, hbn⟩; have HB := Lib.hid (HB.out.trans (hbn.mono HB.out.size)); have HR := Lib.hid ((hbn.block _ (block_lt HR.out)).trans HR.out); have HRT := Lib.hid ((hbn.block _ (block_lt HRT.out)).trans HRT.out); have hc := fun j => cell_of_row _ (w.heap.size + 1) j _ _ _ HR.out; have hct := fun j => cell_of_row _ w.heap.size j _ _ _ HRT.out; clear hbn) | (go_at_call 96; refine (HHO.out _).mono ?_; rintro e wn ⟨rfl, hbn⟩; have HB := Lib.hid (HB.out.trans (hbn.mono HB.out.size)); have HR := Lib.hid ((hbn.block _ (block_lt HR.out)).trans HR.out); have HRT := Lib.hid ((hbn.block _ (block_lt HRT.out)).trans HRT.out); have hc := fun j => cell_of_row _ (w.heap.size + 1) j _ _ _ HR.out; have hct := fun j => cell_of_row _ w.heap.size j _ _ _ HRT.out; clear hbn) | (go_at_call 100; refine (HD.out _).mono ?_; rintro e w' ⟨rfl, rfl⟩) | (go_at_call 101; refine (HS.out _).mono ?_; rintro e w' ⟨rfl, rfl⟩) | (go_at_call 72; refine (HM.out _).mono ?_; rintro e w' ⟨rfl, rfl⟩))
          all_goals
            go_ret
            refine ⟨ret_bool ?_, HB.out⟩
            rw [HFIN.out, Bool.eq_iff_iff]
            simp_all
            try omega
        · subst hx
          go_enter Try.func86, Try.ntmps86
          go_wp2_with fail
          go_quiet (fail)
          have HB := Lib.hid (bdrewN HB.out nq)
          have HR := Lib.hid (row_drewN HR.out nq)
          have HRT := Lib.hid (row_drewN HRT.out nq)
          go_wp2_with (first | (go_at_call 97; refine (HO.out _).mono ?_; rintro e wn ⟨rfl, hbn⟩; have HB := Lib.hid (HB.out.trans (hbn.mono HB.out.size)); have HR := Lib.hid ((hbn.block _ (block_lt HR.out)).trans HR.out); have HRT := Lib.hid ((hbn.block _ (block_lt HRT.out)).trans HRT.out); have hc := fun j => cell_of_row _ (w.heap.size + 1) j _ _ _ HR.out; have hct := fun j => cell_of_row _ w.heap.size j _ _ _ HRT.out; clear hbn) | (go_at_call 96; refine (HHO.out _).mono ?_; rintro e wn ⟨rfl, hbn⟩; have HB := Lib.hid (HB.out.trans (hbn.mono HB.out.size)); have HR := Lib.hid ((hbn.block _ (block_lt HR.out)).trans HR.out); have HRT := Lib.hid ((hbn.block _ (block_lt HRT.out)).trans HRT.out); have hc := fun j => cell_of_row _ (w.heap.size + 1) j _ _ _ HR.out; have hct := fun j => cell_of_row _ w.heap.size j _ _ _ HRT.out; clear hbn) | (go_at_call 100; refine (HD.out _).mono ?_; rintro e w' ⟨rfl, rfl⟩) | (go_at_call 101; refine (HS.out _).mono ?_; rintro e w' ⟨rfl, rfl⟩) | (go_at_call 72; refine (HM.out _).mono ?_; rintro e w' ⟨rfl, rfl⟩))
          all_goals
            go_ret
            refine ⟨ret_bool ?_, HB.out⟩
            rw [HFIN.out, Bool.eq_iff_iff]
            simp_all
            try omega
end Go.Proofs.Ytadabjkhiaidcaa
end

section
set_option linter.unusedVariables false
set_option linter.unusedSimpArgs false
namespace Go.Proofs.Ytadabjkhiaidcaa
open Go.RowKit

set_option maxRecDepth 4000 in
set_option maxHeartbeats 2000000 in
theorem tmayTaxes_any (l : List Txx) (p : Option Addr) (n cap : Nat) (w : World) (hs : LS Txx.cells 2 w (.slice p n cap) l) :
    Calls Try.prog 84 #[.slice p n cap] w fun e w' => e = .returned (.bool (Tkt.taxB 1 l && decide (l.length ≤ 4))) ∧ Below w.heap.size w w' := by
  have HPS := Lib.hid hs; have HN := Lib.hid hs.length.1
  have hn1 := hs.length.2.1
  have hn2 := hs.length.2.2
  unfold maxLen at hn2
  obtain ⟨bv, hbv⟩ : ∃ bv, (Tkt.taxB 1 l && decide (l.length ≤ 4)) = bv := ⟨_, rfl⟩
  rw [hbv]
  have HBV := Lib.hid hbv
  clear hs hbv
  go_enter Try.func84, Try.ntmps84
  go_wp2
  go_loopw [3, 8] (fun lv i wr => ∃ (k : Nat) (L : Int), k ≤ n ∧ i = .int .i64 k ∧ lv = .int .i64 L ∧ 1 ≤ L ∧ L ≤ 100 ∧ Tkt.taxB 1 l = Tkt.taxB L (l.drop k) ∧ Below w.heap.size w wr) (fun _ i _ => n - (intOf i).toNat)
  case atStart => exact ⟨0, 1, Nat.zero_le _, rfl, rfl, by omega, by omega, rfl, Below.refl _ _⟩
  case round =>
    obtain ⟨k, L, hk, rfl, rfl, hL1, hL2, hall, hbw⟩ := hrel
    have HALL := Lib.hid hall; have HBW := Lib.hid hbw
    clear hall
    by_cases hlt : k < n
    · obtain ⟨x, hx⟩ : ∃ x, l[k]? = some x := ⟨_, List.getElem?_eq_getElem (by have := HN.out; omega)⟩
      obtain ⟨bb, o, rfl, hbl, hr⟩ := (HPS.out.below hbw).at hx
      have HD : Hid (l.drop k = x :: l.drop (k + 1)) := Lib.hid (by
        obtain ⟨h1, h2⟩ := List.getElem?_eq_some_iff.1 hx
        rw [← h2]; exact List.drop_eq_getElem_cons h1)
      have c0 : wr.cell? ⟨bb, o + k * 2, none⟩ = some (.int .i64 x.cd) := hr 0 _ rfl
      have c1 : wr.cell? ⟨bb, o + k * 2 + 1, none⟩ = some (.int .i64 x.am) := hr 1 _ rfl
      obtain ⟨s, hs⟩ : ∃ s, Tkt.someB x.am = s := ⟨_, rfl⟩
      have HSM := Lib.hid (fun W => tsome_any x.am W)
      rw [hs] at HSM
      have HS := Lib.hid hs
      clear hx hr hbw hs
      have HB1 := Lib.hid (HBW.out.alloc HBW.out.size (.cells #[.int .i64 x.cd, .int .i64 x.am] 56 (0, 0)))
      by_cases h1 : x.cd < L
      · have HF : Hid (bv = false) := Lib.hid (by rw [← HBV.out, HALL.out, HD.out]; unfold Tkt.taxB; have : decide (L ≤ x.cd) = false := by simp; omega
                                                  simp [this])
        go_wp2_with fail
        go_ret
        exact ⟨ret_bool HF.out.symm, HB1.out⟩
      by_cases h2 : 99 < x.cd
      · have HF : Hid (bv = false) := Lib.hid (by rw [← HBV.out, HALL.out, HD.out]; unfold Tkt.taxB; have : decide (x.cd ≤ 99) = false := by simp; omega
                                                  simp [this])
        go_wp2_with fail
        go_ret
        exact ⟨ret_bool HF.out.symm, HB1.out⟩
      have h1' : L ≤ x.cd := by omega
      have h2' : x.cd ≤ 99 := by omega
      cases s
      · have HF : Hid (bv = false) := Lib.hid (by rw [← HBV.out, HALL.out, HD.out]; unfold Tkt.taxB; simp [HS.out])
        go_wp2_with (go_at_call 101; refine (HSM.out _).mono ?_; rintro e w1 ⟨rfl, rfl⟩)
        go_ret
        exact ⟨ret_bool HF.out.symm, HB1.out⟩
      · have HT : Hid (Tkt.taxB 1 l = Tkt.taxB (x.cd + 1) (l.drop (k + 1))) := Lib.hid (by rw [HALL.out, HD.out]; show (decide (L ≤ x.cd) && decide (x.cd ≤ 99) && Tkt.someB x.am && Tkt.taxB (x.cd + 1) (l.drop (k + 1))) = _; simp [HS.out, h1', h2'])
        go_wp2_with (go_at_call 101; refine (HSM.out _).mono ?_; rintro e w1 ⟨rfl, rfl⟩)
        go_roundw
        case rel => exact ⟨k + 1, x.cd + 1, by omega, by go_num, rfl, by omega, by omega, HT.out, HB1.out⟩
        case measure => simp [intOf]; omega
    · obtain rfl : k = n := by omega
      have HE : Hid (bv = decide ((k : Int) ≤ 4)) := Lib.hid (by
        rw [← HBV.out, HALL.out, List.drop_of_length_le (by have := HN.out; omega)]
        have h4 : Tkt.taxB L [] = true := rfl
        rw [h4, Bool.true_and, Bool.eq_iff_iff, decide_eq_true_iff, decide_eq_true_iff]
        have := HN.out
        omega)
      go_wp2
      go_ret
      exact ⟨ret_bool HE.out.symm, HBW.out⟩
end Go.Proofs.Ytadabjkhiaidcaa
end

section
set_option linter.unusedVariables false
set_option linter.unusedSimpArgs false
namespace Go.Proofs.Ytadabjkhiaidcaa
open Go.RowKit

theorem elemCp : Elem Try.prog Cpn.cells 6 48 22 37 := Elem.of Try.underlying22 (by kernel_rfl) (by decide) (by decide) Cpn.cells_length Cpn.cells_one
set_option maxRecDepth 4000 in
set_option maxHeartbeats 1000000 in
theorem may1_any (t : Tk) (c x h : Sl) (y : Cpn) (hw : y.wf) (hnum : U64 t.num) (g : Nat) (w : World) (hx : w.heap[g]? = some (.cells #[.int .u64 t.num, .string t.loc, .int .i64 t.iss, .slice c.p c.n c.c, .slice x.p x.n x.c, .int .u64 t.prev, .int .u64 t.org, .int .u64 t.fst, .int .i64 t.vou, .int .i64 t.posts, .slice h.p h.n h.c] 45 (0, 0))) : Calls Try.prog 85 #[.agg #[.int .i64 y.fl, .int .i64 y.dy, .int .i64 y.va, .int .i64 y.st, .int .i64 y.ho, .int .u64 y.nx], .pointer (some ⟨g, 0, none⟩)] w fun e w' => e = .returned (.bool (!Tkt.cpnB t.num y)) ∧ Below w.heap.size w w' := by
  have HM := Lib.hid (fun W => mayCoupon_any t c x h y hw hnum W)
  have HB := Lib.hid ((Below.refl w.heap.size w).alloc (Nat.le_refl _) (.cells #[.int .i64 y.fl, .int .i64 y.dy, .int .i64 y.va, .int .i64 y.st, .int .i64 y.ho, .int .u64 y.nx] 37 (0, 0)))
  have hrow := ((Below.refl w.heap.size w).alloc (Nat.le_refl _) (.cells #[.int .i64 y.fl, .int .i64 y.dy, .int .i64 y.va, .int .i64 y.st, .int .i64 y.ho, .int .u64 y.nx] 37 (0, 0))).block g (block_lt hx) |>.trans hx
  have hct := fun j => cell_of_row _ g j _ _ _ hrow
  have hcc := fun j => cell_of_row _ w.heap.size j _ _ _ (new_rowW w (.cells #[.int .i64 y.fl, .int .i64 y.dy, .int .i64 y.va, .int .i64 y.st, .int .i64 y.ho, .int .u64 y.nx] 37 (0, 0)) _ rfl)
  clear hx hrow
  generalize Tkt.cpnB t.num y = q at *
  go_enter Try.func85, Try.ntmps85
  go_wp2_with fail
  refine (HM.out _).mono ?_
  rintro e w1 ⟨rfl, hb1⟩
  have HB1 := Lib.hid (HB.out.trans (hb1.mono HB.out.size))
  clear hb1
  go_wp2
  go_ret
  exact ⟨rfl, HB1.out⟩

set_option maxRecDepth 4000 in
set_option maxHeartbeats 1000000 in
theorem hasCpI_any (l : List Cpn) (q : Cpn → Bool) (bv : Bool) (hbv : bv = true ↔ ∃ x ∈ l, q x = true) (p : Option Addr) (n cap : Nat) (g : Nat) (w : World) (hs : LS Cpn.cells 6 w (.slice p n cap) l)
    (hc : ∀ x ∈ l, ∀ W, Below w.heap.size w W → Calls Try.prog 85 #[.agg #[.int .i64 x.fl, .int .i64 x.dy, .int .i64 x.va, .int .i64 x.st, .int .i64 x.ho, .int .u64 x.nx], .pointer (some ⟨g, 0, none⟩)] W fun e w' => e = .returned (.bool (q x)) ∧ Below W.heap.size W w') :
    Calls Try.prog 77 #[.slice p n cap, .func (.func 85) #[] #[.pointer (some ⟨g, 0, none⟩)]] w fun e w' => (∃ j : Int, e = .returned (.int .i64 j) ∧ decide (0 ≤ j) = bv) ∧ Below w.heap.size w w' := by
  have HPS := Lib.hid hs; have HN := Lib.hid hs.length.1
  have hn1 := hs.length.2.1
  have hn2 := hs.length.2.2
  unfold maxLen at hn2
  have HBV := Lib.hid hbv; have HC := Lib.hid hc
  clear hs hbv hc
  go_enter Try.func77, Try.ntmps77
  go_wp2
  go_loopw [8] (fun i wr => ∃ k : Nat, k ≤ n ∧ i = .int .i64 k ∧ (∀ (j : Nat) (x : Cpn), j < k → l[j]? = some x → q x = false) ∧ Below w.heap.size w wr) (fun i _ => n - (intOf i).toNat)
  case atStart => exact ⟨0, Nat.zero_le _, rfl, fun j x h => absurd h (Nat.not_lt_zero _), Below.refl _ _⟩
  case round =>
    obtain ⟨k, hk, rfl, hall, hbw⟩ := hrel
    have HALL := Lib.hid hall; have HBW := Lib.hid hbw
    clear hall
    by_cases hlt : k < n
    · obtain ⟨x, hx⟩ : ∃ x, l[k]? = some x := ⟨_, List.getElem?_eq_getElem (by have := HN.out; omega)⟩
      obtain ⟨bb, o, rfl, hbl, hr⟩ := (HPS.out.below hbw).at hx
      have HX := Lib.hid hx
      have HW := Lib.hid (HC.out x (List.mem_of_getElem? hx))
      have c0 : wr.cell? ⟨bb, o + k * 6, none⟩ = some (.int .i64 x.fl) := hr 0 _ rfl
      have c1 : wr.cell? ⟨bb, o + k * 6 + 1, none⟩ = some (.int .i64 x.dy) := hr 1 _ rfl
      have c2 : wr.cell? ⟨bb, o + k * 6 + 2, none⟩ = some (.int .i64 x.va) := hr 2 _ rfl
      have c3 : wr.cell? ⟨bb, o + k * 6 + 3, none⟩ = some (.int .i64 x.st) := hr 3 _ rfl
      have c4 : wr.cell? ⟨bb, o + k * 6 + 4, none⟩ = some (.int .i64 x.ho) := hr 4 _ rfl
      have c5 : wr.cell? ⟨bb, o + k * 6 + 5, none⟩ = some (.int .u64 x.nx) := hr 5 _ rfl
      clear hx hbw hr
      obtain ⟨y, hy⟩ : ∃ y, q x = y := ⟨_, rfl⟩
      rw [hy] at HW
      have HY := Lib.hid hy
      clear hy
      go_wp2_with fail
      refine (HW.out _ HBW.out).mono ?_
      rintro e w1 ⟨rfl, hb1⟩
      have HBW1 := Lib.hid (HBW.out.trans (hb1.mono HBW.out.size))
      clear hb1
      clear c0 c1 c2 c3 c4 c5
      cases y
      · go_wp2
        go_roundw
        case rel =>
          refine ⟨k + 1, by omega, by go_num, fun j z hj hz => ?_, HBW1.out⟩
          rcases Nat.lt_or_ge j k with h | h
          · exact HALL.out j z h hz
          · obtain rfl : j = k := by omega
            have := HX.out.symm.trans hz
            injection this with this
            rw [← this]
            exact HY.out
        case measure => simp [intOf]; omega
      · go_wp2
        go_ret
        refine ⟨⟨k, rfl, ?_⟩, HBW1.out⟩
        have := HBV.out.2 ⟨x, List.mem_of_getElem? HX.out, HY.out⟩
        rw [this]; simp
    · obtain rfl : k = n := by omega
      clear hbw
      go_wp2
      go_ret
      refine ⟨⟨-1, rfl, ?_⟩, HBW.out⟩
      cases bv
      · rfl
      · obtain ⟨x, hx, h1⟩ := HBV.out.1 rfl
        obtain ⟨j, hj⟩ := List.getElem?_of_mem hx
        have := HALL.out j x (by have := (List.getElem?_eq_some_iff.1 hj).1; have := HN.out; omega) hj
        rw [h1] at this
        cases this
theorem hasCp_any (l : List Cpn) (q : Cpn → Bool) (bv : Bool) (hbv : bv = true ↔ ∃ x ∈ l, q x = true) (p : Option Addr) (n cap : Nat) (g : Nat) (w : World) (hs : LS Cpn.cells 6 w (.slice p n cap) l)
    (hc : ∀ x ∈ l, ∀ W, Below w.heap.size w W → Calls Try.prog 85 #[.agg #[.int .i64 x.fl, .int .i64 x.dy, .int .i64 x.va, .int .i64 x.st, .int .i64 x.ho, .int .u64 x.nx], .pointer (some ⟨g, 0, none⟩)] W fun e w' => e = .returned (.bool (q x)) ∧ Below W.heap.size W w') :
    Calls Try.prog 47 #[.slice p n cap, .func (.func 85) #[] #[.pointer (some ⟨g, 0, none⟩)]] w fun e w' => e = .returned (.bool bv) ∧ Below w.heap.size w w' := by
  have H := Lib.hid (hasCpI_any l q bv hbv p n cap g w hs hc)
  clear hs hc hbv
  go_enter Try.func47, Try.ntmps47
  go_wp2_with fail
  refine H.out.mono ?_
  rintro e w1 ⟨⟨j, rfl, hj⟩, hb1⟩
  go_wp2
  go_ret
  exact ⟨rfl, hb1⟩
end Go.Proofs.Ytadabjkhiaidcaa
end
