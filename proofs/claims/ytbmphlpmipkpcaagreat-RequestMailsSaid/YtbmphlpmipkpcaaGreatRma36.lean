/- Contracts: which mails may be, by the reference (couponref16.MayMail). Contracts: which letters may be (letter.May). -/
import Derived.Test.YtbmphlpmipkpcaaGreatRma35

section
set_option linter.unusedVariables false
set_option linter.unusedSimpArgs false
namespace Go.Proofs.YtbmphlpmipkpcaaGreat
open Go.RowKit

theorem eqC0 (fl dy va st ho nx : Int) (w : World) : (binOp .eql 33 (.agg #[.int .i64 fl, .int .i64 dy, .int .i64 va, .int .i64 st, .int .i64 ho, .int .u64 nx]) (.agg #[.int .i64 0, .int .i64 0, .int .i64 0, .int .i64 0, .int .i64 0, .int .u64 0])).run Tryz.prog w = .ok (.bool (Ltr.czB fl dy va st ho nx)) w := by
  rw [run_eql_struct, eqInC]
  rfl
theorem guardC (x y : Operand) (xs ys : Array Value) (w : World) : (eqGuard .eql 33 x y (.agg xs) (.agg ys)).run Tryz.prog w = .ok () w := run_eqGuard_agg w _ _ _ _ _ _ (by kernel_rfl)

theorem rday16_any (n : Int) (w : World) : Calls Tryz.prog 83 #[.int .i64 n] w fun e w' => e = .returned (.bool (inB 0 1000000 n)) ∧ w = w' := by
  go_enter Tryz.func83, Tryz.ntmps83
  go_wp2
  all_goals
    go_ret
    refine ⟨ret_bool ?_, rfl⟩
    unfold inB
    simp; omega
theorem rsome16_any (n : Int) (w : World) : Calls Tryz.prog 126 #[.int .i64 n] w fun e w' => e = .returned (.bool (inB 0 1000000000000 n)) ∧ w = w' := by
  go_enter Tryz.func126, Tryz.ntmps126
  go_wp2
  all_goals
    go_ret
    refine ⟨ret_bool ?_, rfl⟩
    unfold inB
    simp; omega
theorem numbered13_any (n : Int) (hn : U64 n) (w : World) : Calls Tryz.prog 82 #[.int .u64 n] w fun e w' => e = .returned (.bool (Tkt.numB n)) ∧ Below w.heap.size w w' := by
  have HK := Lib.hid (rCheck_any n hn.1 hn.2 w)
  have HQ : Hid (Tkt.numB n = decide (Num.check n = 0)) := Lib.hid rfl
  generalize Tkt.numB n = q at *
  generalize Num.check n = ck at *
  go_enter Tryz.func82, Tryz.ntmps82
  go_wp2_with fail
  refine HK.out.mono ?_
  rintro e w1 ⟨rfl, hb⟩
  have HB := Lib.hid hb
  clear hb
  go_wp2
  all_goals
    go_ret
    exact ⟨ret_bool (by rw [HQ.out]; first | rfl | simp), HB.out⟩

set_option maxHeartbeats 1000000 in
theorem rplain_any (fl dy va st ho nx s : Int) (w : World) : Calls Tryz.prog 84 #[.agg #[.int .i64 fl, .int .i64 dy, .int .i64 va, .int .i64 st, .int .i64 ho, .int .u64 nx], .int .i64 s] w fun e w' => e = .returned (.bool (flyB fl dy va && (st == s && (ho == 0 && nx == 0)))) ∧ Below w.heap.size w w' := by
  have HB := Lib.hid ((Below.refl w.heap.size w).alloc (Nat.le_refl _) (.cells #[.int .i64 fl, .int .i64 dy, .int .i64 va, .int .i64 st, .int .i64 ho, .int .u64 nx] 33 (0, 0)))
  have HFIN : Hid ((flyB fl dy va && (st == s && (ho == 0 && nx == 0))) = _) := Lib.hid (by unfold flyB; rfl)
  have HD := Lib.hid (fun W => rday16_any dy W)
  have HS := Lib.hid (fun W => rsome16_any va W)
  generalize inB 0 1000000 dy = D at *
  generalize inB 0 1000000000000 va = S at *
  unfold inB at HFIN
  go_enter Tryz.func84, Tryz.ntmps84
  go_wp2_with (first | (go_at_call 83; refine (HD.out _).mono ?_; rintro e w' ⟨rfl, rfl⟩) | (go_at_call 126; refine (HS.out _).mono ?_; rintro e w' ⟨rfl, rfl⟩))
  all_goals
    go_ret
    refine ⟨ret_bool ?_, by first | exact HB.out | exact (Below.refl _ _).alloc (Nat.le_refl _) _⟩
    rw [HFIN.out, Bool.eq_iff_iff]
    try clear HFIN HB hc
    simp_all
    try omega

set_option maxRecDepth 10000 in
set_option maxHeartbeats 4000000 in
theorem rMayMailD_any (tk c d co fl dy va st ho nx : Int) (ht : U64 tk) (w : World) :
    Calls Tryz.prog 37 #[.agg #[.int .i64 3, .int .u64 tk, .int .i64 c, .int .i64 d, .int .i64 co, .int .i64 fl, .int .i64 dy, .int .i64 va, .int .i64 st, .int .i64 ho, .int .u64 nx]] w fun e w' => e = .returned (.bool (Ltr.mailB 3 tk c d co fl dy va st ho nx)) ∧ Below w.heap.size w w' := by
  have HB := Lib.hid ((Below.refl w.heap.size w).alloc (Nat.le_refl _) (.cells #[.int .i64 3, .int .u64 tk, .int .i64 c, .int .i64 d, .int .i64 co, .int .i64 fl, .int .i64 dy, .int .i64 va, .int .i64 st, .int .i64 ho, .int .u64 nx] 78 (0, 0)))
  have HR := Lib.hid (new_rowW w (.cells #[.int .i64 3, .int .u64 tk, .int .i64 c, .int .i64 d, .int .i64 co, .int .i64 fl, .int .i64 dy, .int .i64 va, .int .i64 st, .int .i64 ho, .int .u64 nx] 78 (0, 0)) _ rfl)
  have hc := fun j => cell_of_row _ w.heap.size j _ _ _ HR.out
  have hG := guardC
  have HN := Lib.hid (fun W => numbered13_any tk ht W)
  have HD := Lib.hid (fun W => rday16_any d W)
  have HPL := Lib.hid (fun W => rplain_any fl dy va st ho nx 1 W)
  have HFIN : Hid (Ltr.mailB 3 tk c d co fl dy va st ho nx = _) := Lib.hid (by unfold Ltr.mailB; rfl)
  simp (config := { decide := false }) only [if_true, if_false] at HFIN
  try simp only [show ((2 : Int) = 3) = False from by simp, if_false] at HFIN
  generalize inB 0 1000000 d = Dq at *
  unfold inB at HFIN
  generalize Tkt.numB tk = N at *
  have hE0 := fun W => eqC0 fl dy va st ho nx W
  generalize Ltr.czB fl dy va st ho nx = Z at *
  go_enter Tryz.func37, Tryz.ntmps37
  go_wp2_with (first | (go_at_call 82; refine (HN.out _).mono ?_; rintro e wn ⟨rfl, hbn⟩; have HB := Lib.hid (HB.out.trans (hbn.mono HB.out.size)); have HR := Lib.hid ((hbn.block _ (block_lt HR.out)).trans HR.out); have hc := fun j => cell_of_row _ w.heap.size j _ _ _ HR.out; clear hbn) | (go_at_call 83; refine (HD.out _).mono ?_; rintro e w' ⟨rfl, rfl⟩) | (go_at_call 84; refine (HPL.out _).mono ?_; rintro e wn ⟨rfl, hbn⟩; have HB := Lib.hid (HB.out.trans (hbn.mono HB.out.size)); have HR := Lib.hid ((hbn.block _ (block_lt HR.out)).trans HR.out); have hc := fun j => cell_of_row _ w.heap.size j _ _ _ HR.out; clear hbn))
  all_goals
    go_ret
    refine ⟨ret_bool ?_, by first | exact HB.out | exact (Below.refl _ _).alloc (Nat.le_refl _) _⟩
    rw [HFIN.out, Bool.eq_iff_iff]
    try clear HFIN HB hc
    simp_all
    try omega

set_option maxRecDepth 10000 in
set_option maxHeartbeats 4000000 in
theorem rMayMailG_any (tk c d co fl dy va st ho nx : Int) (ht : U64 tk) (w : World) :
    Calls Tryz.prog 37 #[.agg #[.int .i64 2, .int .u64 tk, .int .i64 c, .int .i64 d, .int .i64 co, .int .i64 fl, .int .i64 dy, .int .i64 va, .int .i64 st, .int .i64 ho, .int .u64 nx]] w fun e w' => e = .returned (.bool (Ltr.mailB 2 tk c d co fl dy va st ho nx)) ∧ Below w.heap.size w w' := by
  have HB := Lib.hid ((Below.refl w.heap.size w).alloc (Nat.le_refl _) (.cells #[.int .i64 2, .int .u64 tk, .int .i64 c, .int .i64 d, .int .i64 co, .int .i64 fl, .int .i64 dy, .int .i64 va, .int .i64 st, .int .i64 ho, .int .u64 nx] 78 (0, 0)))
  have HR := Lib.hid (new_rowW w (.cells #[.int .i64 2, .int .u64 tk, .int .i64 c, .int .i64 d, .int .i64 co, .int .i64 fl, .int .i64 dy, .int .i64 va, .int .i64 st, .int .i64 ho, .int .u64 nx] 78 (0, 0)) _ rfl)
  have hc := fun j => cell_of_row _ w.heap.size j _ _ _ HR.out
  have hG := guardC
  have HN := Lib.hid (fun W => numbered13_any tk ht W)
  have HD := Lib.hid (fun W => rday16_any d W)
  have HPL := Lib.hid (fun W => rplain_any fl dy va st ho nx 1 W)
  have HFIN : Hid (Ltr.mailB 2 tk c d co fl dy va st ho nx = _) := Lib.hid (by unfold Ltr.mailB; rfl)
  simp (config := { decide := false }) only [if_true, if_false] at HFIN
  try simp only [show ((2 : Int) = 3) = False from by simp, if_false] at HFIN
  generalize inB 0 1000000 d = Dq at *
  unfold inB at HFIN
  generalize Tkt.numB tk = N at *
  generalize hpl : (flyB fl dy va && (st == 1 && (ho == 0 && nx == 0))) = PL at *
  clear hpl
  go_enter Tryz.func37, Tryz.ntmps37
  go_wp2_with (first | (go_at_call 82; refine (HN.out _).mono ?_; rintro e wn ⟨rfl, hbn⟩; have HB := Lib.hid (HB.out.trans (hbn.mono HB.out.size)); have HR := Lib.hid ((hbn.block _ (block_lt HR.out)).trans HR.out); have hc := fun j => cell_of_row _ w.heap.size j _ _ _ HR.out; clear hbn) | (go_at_call 83; refine (HD.out _).mono ?_; rintro e w' ⟨rfl, rfl⟩) | (go_at_call 84; refine (HPL.out _).mono ?_; rintro e wn ⟨rfl, hbn⟩; have HB := Lib.hid (HB.out.trans (hbn.mono HB.out.size)); have HR := Lib.hid ((hbn.block _ (block_lt HR.out)).trans HR.out); have hc := fun j => cell_of_row _ w.heap.size j _ _ _ HR.out; clear hbn))
  all_goals
    go_ret
    refine ⟨ret_bool ?_, by first | exact HB.out | exact (Below.refl _ _).alloc (Nat.le_refl _) _⟩
    rw [HFIN.out, Bool.eq_iff_iff]
    try clear HFIN HB hc
    simp_all
    try omega

set_option maxRecDepth 10000 in
set_option maxHeartbeats 4000000 in
theorem rMayMailO_any (k tk c d co fl dy va st ho nx : Int) (ht : U64 tk) (h3 : ¬ k = 3) (h2 : ¬ k = 2) (w : World) :
    Calls Tryz.prog 37 #[.agg #[.int .i64 k, .int .u64 tk, .int .i64 c, .int .i64 d, .int .i64 co, .int .i64 fl, .int .i64 dy, .int .i64 va, .int .i64 st, .int .i64 ho, .int .u64 nx]] w fun e w' => e = .returned (.bool (Ltr.mailB k tk c d co fl dy va st ho nx)) ∧ Below w.heap.size w w' := by
  have HB := Lib.hid ((Below.refl w.heap.size w).alloc (Nat.le_refl _) (.cells #[.int .i64 k, .int .u64 tk, .int .i64 c, .int .i64 d, .int .i64 co, .int .i64 fl, .int .i64 dy, .int .i64 va, .int .i64 st, .int .i64 ho, .int .u64 nx] 78 (0, 0)))
  have HR := Lib.hid (new_rowW w (.cells #[.int .i64 k, .int .u64 tk, .int .i64 c, .int .i64 d, .int .i64 co, .int .i64 fl, .int .i64 dy, .int .i64 va, .int .i64 st, .int .i64 ho, .int .u64 nx] 78 (0, 0)) _ rfl)
  have hc := fun j => cell_of_row _ w.heap.size j _ _ _ HR.out
  have hG := guardC
  have HN := Lib.hid (fun W => numbered13_any tk ht W)
  have HD := Lib.hid (fun W => rday16_any d W)
  have HPL := Lib.hid (fun W => rplain_any fl dy va st ho nx 1 W)
  have HFIN : Hid (Ltr.mailB k tk c d co fl dy va st ho nx = _) := Lib.hid (by unfold Ltr.mailB; rfl)
  simp (config := { decide := false }) only [if_neg h3, if_neg h2, if_true, if_false] at HFIN
  try simp only [show ((2 : Int) = 3) = False from by simp, if_false] at HFIN
  generalize inB 0 1000000 d = Dq at *
  unfold inB at HFIN
  generalize Tkt.numB tk = N at *
  have hE0 := fun W => eqC0 fl dy va st ho nx W
  generalize Ltr.czB fl dy va st ho nx = Z at *
  go_enter Tryz.func37, Tryz.ntmps37
  go_wp2_with (first | (go_at_call 82; refine (HN.out _).mono ?_; rintro e wn ⟨rfl, hbn⟩; have HB := Lib.hid (HB.out.trans (hbn.mono HB.out.size)); have HR := Lib.hid ((hbn.block _ (block_lt HR.out)).trans HR.out); have hc := fun j => cell_of_row _ w.heap.size j _ _ _ HR.out; clear hbn) | (go_at_call 83; refine (HD.out _).mono ?_; rintro e w' ⟨rfl, rfl⟩) | (go_at_call 84; refine (HPL.out _).mono ?_; rintro e wn ⟨rfl, hbn⟩; have HB := Lib.hid (HB.out.trans (hbn.mono HB.out.size)); have HR := Lib.hid ((hbn.block _ (block_lt HR.out)).trans HR.out); have hc := fun j => cell_of_row _ w.heap.size j _ _ _ HR.out; clear hbn))
  all_goals
    go_ret
    refine ⟨ret_bool ?_, by first | exact HB.out | exact (Below.refl _ _).alloc (Nat.le_refl _) _⟩
    rw [HFIN.out, Bool.eq_iff_iff]
    try clear HFIN HB hc
    simp_all
    try omega

theorem rMayMail_any (k tk c d co fl dy va st ho nx : Int) (ht : U64 tk) (w : World) :
    Calls Tryz.prog 37 #[.agg #[.int .i64 k, .int .u64 tk, .int .i64 c, .int .i64 d, .int .i64 co, .int .i64 fl, .int .i64 dy, .int .i64 va, .int .i64 st, .int .i64 ho, .int .u64 nx]] w fun e w' => e = .returned (.bool (Ltr.mailB k tk c d co fl dy va st ho nx)) ∧ Below w.heap.size w w' := by
  by_cases h3 : k = 3
  · subst h3; exact rMayMailD_any tk c d co fl dy va st ho nx ht w
  · by_cases h2 : k = 2
    · subst h2; exact rMayMailG_any tk c d co fl dy va st ho nx ht w
    · exact rMayMailO_any k tk c d co fl dy va st ho nx ht h3 h2 w
theorem mayMail_any (k tk c d co fl dy va st ho nx : Int) (ht : U64 tk) (hva : I64 va) (w : World) :
    Calls Tryz.prog 38 #[.agg #[.int .i64 k, .int .u64 tk, .int .i64 c, .int .i64 d, .int .i64 co, .int .i64 fl, .int .i64 dy, .int .i64 va, .int .i64 st, .int .i64 ho, .int .u64 nx]] w fun e w' => e = .returned (.bool (Ltr.mailB k tk c d co fl dy va st ho nx)) ∧ Below w.heap.size w w' := by
  by_cases h3 : k = 3
  · subst h3; exact mayMailD_any tk c d co fl dy va st ho nx ht hva w
  · by_cases h2 : k = 2
    · subst h2; exact mayMailG_any tk c d co fl dy va st ho nx ht hva w
    · exact mayMailO_any k tk c d co fl dy va st ho nx ht hva h3 h2 w
end Go.Proofs.YtbmphlpmipkpcaaGreat
end

section
set_option linter.unusedVariables false
set_option linter.unusedSimpArgs false
namespace Go.Proofs.YtbmphlpmipkpcaaGreat
open Go.RowKit

theorem neqM (k tk c d co fl dy va st ho nx k' tk' c' d' co' fl' dy' va' st' ho' nx' : Int) (w : World) : (binOp .neq 78 (.agg #[.int .i64 k, .int .u64 tk, .int .i64 c, .int .i64 d, .int .i64 co, .int .i64 fl, .int .i64 dy, .int .i64 va, .int .i64 st, .int .i64 ho, .int .u64 nx]) (.agg #[.int .i64 k', .int .u64 tk', .int .i64 c', .int .i64 d', .int .i64 co', .int .i64 fl', .int .i64 dy', .int .i64 va', .int .i64 st', .int .i64 ho', .int .u64 nx'])).run Tryz.prog w = .ok (.bool (!Ltr.eqM k tk c d co fl dy va st ho nx k' tk' c' d' co' fl' dy' va' st' ho' nx')) w := by
  rw [run_neq_struct, eqInM]
  rfl
theorem guardNM (x y : Operand) (xs ys : Array Value) (w : World) : (eqGuard .neq 78 x y (.agg xs) (.agg ys)).run Tryz.prog w = .ok () w := run_eqGuard_agg w _ _ _ _ _ _ (by kernel_rfl)
end Go.Proofs.YtbmphlpmipkpcaaGreat
end
