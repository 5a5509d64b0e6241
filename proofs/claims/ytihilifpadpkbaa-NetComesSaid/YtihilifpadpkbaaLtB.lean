/- Contracts: which letters may be (letter.May). -/
import Derived.Test.YtihilifpadpkbaaLtA
set_option linter.unusedVariables false
set_option linter.unusedSimpArgs false
namespace Go.Proofs.Ytihilifpadpkbaa
open Go.RowKit

theorem neqM (k tk c d co fl dy va st ho nx k' tk' c' d' co' fl' dy' va' st' ho' nx' : Int) (w : World) : (binOp .neq 33 (.agg #[.int .i64 k, .int .u64 tk, .int .i64 c, .int .i64 d, .int .i64 co, .int .i64 fl, .int .i64 dy, .int .i64 va, .int .i64 st, .int .i64 ho, .int .u64 nx]) (.agg #[.int .i64 k', .int .u64 tk', .int .i64 c', .int .i64 d', .int .i64 co', .int .i64 fl', .int .i64 dy', .int .i64 va', .int .i64 st', .int .i64 ho', .int .u64 nx'])).run Try.prog w = .ok (.bool (!Ltr.eqM k tk c d co fl dy va st ho nx k' tk' c' d' co' fl' dy' va' st' ho' nx')) w := by
  rw [run_neq_struct, eqInM]
  rfl
theorem guardNM (x y : Operand) (xs ys : Array Value) (w : World) : (eqGuard .neq 33 x y (.agg xs) (.agg ys)).run Try.prog w = .ok () w := run_eqGuard_agg w _ _ _ _ _ _ (by kernel_rfl)
theorem carrier20_any (c : Int) (w : World) :
    Calls Try.prog 44 #[.int .i64 c] w fun e w' => e = .returned (.bool (Num.mayC c)) ∧ w = w' := by
  go_enter Try.func44, Try.ntmps44
  go_wp2
  all_goals
    go_ret
    refine ⟨ret_bool ?_, rfl⟩
    unfold Num.mayC
    simp; omega

set_option maxHeartbeats 1000000 in
theorem wrong1_any (f t n a k tk c d co fl dy va st ho nx : Int) (g : Nat) (ht : U64 tk) (hva : I64 va) (hn : U64 n) (ha : U64 a) (w : World) (hr : w.heap[g]? = some (.cells #[.int .i64 f, .int .i64 t, .int .u64 n, .int .u64 a, .int .i64 k, .int .u64 tk, .int .i64 c, .int .i64 d, .int .i64 co, .int .i64 fl, .int .i64 dy, .int .i64 va, .int .i64 st, .int .i64 ho, .int .u64 nx] 35 (0, 0))) :
    Calls Try.prog 43 #[.pointer (some ⟨g, 0, none⟩)] w fun e w' => e = .returned (.bool (!(Num.mayC f && Num.mayC t))) ∧ Below w.heap.size w w' := by
  have hc := fun j => cell_of_row w g j _ _ _ hr
  have HB := Lib.hid (Below.refl w.heap.size w)
  obtain ⟨hn0, hn1⟩ := hn
  obtain ⟨ha0, ha1⟩ := ha
  have HC := Lib.hid carrier20_any
  generalize Num.mayC = mayC at *
  clear hr
  go_enter Try.func43, Try.ntmps43
  go_wp2_with (first | (go_at_call 44; refine (HC.out _ _).mono ?_; rintro e w' ⟨rfl, rfl⟩))
  all_goals
    go_ret
    refine ⟨ret_bool ?_, by first | exact HB.out | exact Below.refl _ _⟩
    rw [Bool.eq_iff_iff]
    try clear HB hc
    simp_all
    try omega

set_option maxHeartbeats 1000000 in
theorem wrong2_any (f t n a k tk c d co fl dy va st ho nx : Int) (g : Nat) (ht : U64 tk) (hva : I64 va) (hn : U64 n) (ha : U64 a) (w : World) (hr : w.heap[g]? = some (.cells #[.int .i64 f, .int .i64 t, .int .u64 n, .int .u64 a, .int .i64 k, .int .u64 tk, .int .i64 c, .int .i64 d, .int .i64 co, .int .i64 fl, .int .i64 dy, .int .i64 va, .int .i64 st, .int .i64 ho, .int .u64 nx] 35 (0, 0))) :
    Calls Try.prog 45 #[.pointer (some ⟨g, 0, none⟩)] w fun e w' => e = .returned (.bool (decide (f = t))) ∧ Below w.heap.size w w' := by
  have hc := fun j => cell_of_row w g j _ _ _ hr
  have HB := Lib.hid (Below.refl w.heap.size w)
  obtain ⟨hn0, hn1⟩ := hn
  obtain ⟨ha0, ha1⟩ := ha
  
  clear hr
  go_enter Try.func45, Try.ntmps45
  go_wp2
  all_goals
    go_ret
    refine ⟨ret_bool ?_, by first | exact HB.out | exact Below.refl _ _⟩
    rw [Bool.eq_iff_iff]
    try clear HB hc
    simp_all
    try omega

set_option maxHeartbeats 1000000 in
theorem wrong3_any (f t n a k tk c d co fl dy va st ho nx : Int) (g : Nat) (ht : U64 tk) (hva : I64 va) (hn : U64 n) (ha : U64 a) (w : World) (hr : w.heap[g]? = some (.cells #[.int .i64 f, .int .i64 t, .int .u64 n, .int .u64 a, .int .i64 k, .int .u64 tk, .int .i64 c, .int .i64 d, .int .i64 co, .int .i64 fl, .int .i64 dy, .int .i64 va, .int .i64 st, .int .i64 ho, .int .u64 nx] 35 (0, 0))) :
    Calls Try.prog 46 #[.pointer (some ⟨g, 0, none⟩)] w fun e w' => e = .returned (.bool (!(decide (n ≤ 4611686018427387904) && decide (a ≤ 4611686018427387904)))) ∧ Below w.heap.size w w' := by
  have hc := fun j => cell_of_row w g j _ _ _ hr
  have HB := Lib.hid (Below.refl w.heap.size w)
  obtain ⟨hn0, hn1⟩ := hn
  obtain ⟨ha0, ha1⟩ := ha
  
  clear hr
  go_enter Try.func46, Try.ntmps46
  go_wp2
  all_goals
    go_ret
    refine ⟨ret_bool ?_, by first | exact HB.out | exact Below.refl _ _⟩
    rw [Bool.eq_iff_iff]
    try clear HB hc
    simp_all
    try omega

set_option maxHeartbeats 1000000 in
theorem wrong4_any (f t n a k tk c d co fl dy va st ho nx : Int) (g : Nat) (ht : U64 tk) (hva : I64 va) (hn : U64 n) (ha : U64 a) (w : World) (hr : w.heap[g]? = some (.cells #[.int .i64 f, .int .i64 t, .int .u64 n, .int .u64 a, .int .i64 k, .int .u64 tk, .int .i64 c, .int .i64 d, .int .i64 co, .int .i64 fl, .int .i64 dy, .int .i64 va, .int .i64 st, .int .i64 ho, .int .u64 nx] 35 (0, 0))) :
    Calls Try.prog 47 #[.pointer (some ⟨g, 0, none⟩)] w fun e w' => e = .returned (.bool ((decide (n = 0) && !Ltr.eqM k tk c d co fl dy va st ho nx 0 0 0 0 0 0 0 0 0 0 0))) ∧ Below w.heap.size w w' := by
  have hc := fun j => cell_of_row w g j _ _ _ hr
  have HB := Lib.hid (Below.refl w.heap.size w)
  obtain ⟨hn0, hn1⟩ := hn
  obtain ⟨ha0, ha1⟩ := ha
  have hE := fun W => neqM k tk c d co fl dy va st ho nx 0 0 0 0 0 0 0 0 0 0 0 W
  have hG := guardNM
  generalize Ltr.eqM k tk c d co fl dy va st ho nx 0 0 0 0 0 0 0 0 0 0 0 = E at *
  clear hr
  go_enter Try.func47, Try.ntmps47
  go_wp2
  all_goals
    go_ret
    refine ⟨ret_bool ?_, by first | exact HB.out | exact Below.refl _ _⟩
    rw [Bool.eq_iff_iff]
    try clear HB hc
    simp_all
    try omega

set_option maxHeartbeats 1000000 in
theorem wrong5_any (f t n a k tk c d co fl dy va st ho nx : Int) (g : Nat) (ht : U64 tk) (hva : I64 va) (hn : U64 n) (ha : U64 a) (w : World) (hr : w.heap[g]? = some (.cells #[.int .i64 f, .int .i64 t, .int .u64 n, .int .u64 a, .int .i64 k, .int .u64 tk, .int .i64 c, .int .i64 d, .int .i64 co, .int .i64 fl, .int .i64 dy, .int .i64 va, .int .i64 st, .int .i64 ho, .int .u64 nx] 35 (0, 0))) :
    Calls Try.prog 48 #[.pointer (some ⟨g, 0, none⟩)] w fun e w' => e = .returned (.bool ((!decide (n = 0) && !Ltr.mailB k tk c d co fl dy va st ho nx))) ∧ Below w.heap.size w w' := by
  have hc := fun j => cell_of_row w g j _ _ _ hr
  have HB := Lib.hid (Below.refl w.heap.size w)
  obtain ⟨hn0, hn1⟩ := hn
  obtain ⟨ha0, ha1⟩ := ha
  have HM := Lib.hid (fun W => mayMail_any k tk c d co fl dy va st ho nx ht hva W)
  generalize Ltr.mailB k tk c d co fl dy va st ho nx = E at *
  clear hr
  go_enter Try.func48, Try.ntmps48
  go_wp2_with (first | (go_at_call 49; refine (HM.out _).mono ?_; rintro e wn ⟨rfl, hbn⟩; have HB := Lib.hid hbn; clear hbn))
  all_goals
    go_ret
    refine ⟨ret_bool ?_, by first | exact HB.out | exact Below.refl _ _⟩
    rw [Bool.eq_iff_iff]
    try clear HB hc
    simp_all
    try omega

theorem wrongs_any (f t n a k tk c d co fl dy va st ho nx : Int) (w : World) : Calls Try.prog 39 #[.agg #[.int .i64 f, .int .i64 t, .int .u64 n, .int .u64 a, .int .i64 k, .int .u64 tk, .int .i64 c, .int .i64 d, .int .i64 co, .int .i64 fl, .int .i64 dy, .int .i64 va, .int .i64 st, .int .i64 ho, .int .u64 nx]] w fun e w' => e = .returned (.slice (some ⟨w.heap.size + 1, 0, none⟩) 5 5) ∧ w'.heap[w.heap.size]? = some (.cells #[.int .i64 f, .int .i64 t, .int .u64 n, .int .u64 a, .int .i64 k, .int .u64 tk, .int .i64 c, .int .i64 d, .int .i64 co, .int .i64 fl, .int .i64 dy, .int .i64 va, .int .i64 st, .int .i64 ho, .int .u64 nx] 35 (0, 0)) ∧
    w'.heap[w.heap.size + 1]? = some (.cells #[.func (.func 43) #[] #[.pointer (some ⟨w.heap.size, 0, none⟩)], .func (.func 45) #[] #[.pointer (some ⟨w.heap.size, 0, none⟩)], .func (.func 46) #[] #[.pointer (some ⟨w.heap.size, 0, none⟩)], .func (.func 47) #[] #[.pointer (some ⟨w.heap.size, 0, none⟩)], .func (.func 48) #[] #[.pointer (some ⟨w.heap.size, 0, none⟩)]] 25 (0, 0)) ∧ Below w.heap.size w w' := by
  go_enter Try.func39, Try.ntmps39
  go_wp2
  go_ret
  exact ⟨rfl, row_allocS (new_rowW w _ _ rfl) _, new_rowW _ _ _ (by simp), ((Below.refl _ _).alloc (Nat.le_refl _) _).alloc (by simp) _⟩
end Go.Proofs.Ytihilifpadpkbaa
