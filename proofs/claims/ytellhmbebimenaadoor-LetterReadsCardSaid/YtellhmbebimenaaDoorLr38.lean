/- Contracts: letter.fit, Mail, Bare, Back, Same. -/
import Derived.Test.YtellhmbebimenaaDoorLr37

set_option linter.unusedVariables false
set_option linter.unusedSimpArgs false
namespace Go.Proofs.YtellhmbebimenaaDoor
open Go.RowKit

/-- are two letters the same? -/
def Lt.eq (x y : Lt) : Bool := (x.f == y.f) && ((x.t == y.t) && ((x.n == y.n) && ((x.a == y.a) && Ltr.eqM x.k x.tk x.c x.d x.co x.fl x.dy x.va x.st x.ho x.nx y.k y.tk y.c y.d y.co y.fl y.dy y.va y.st y.ho y.nx)))
theorem eqInL (x y : Lt) (w : World) : (Op.equalIn 10000 31 (.agg #[.int .i64 x.f, .int .i64 x.t, .int .u64 x.n, .int .u64 x.a, .int .i64 x.k, .int .u64 x.tk, .int .i64 x.c, .int .i64 x.d, .int .i64 x.co, .int .i64 x.fl, .int .i64 x.dy, .int .i64 x.va, .int .i64 x.st, .int .i64 x.ho, .int .u64 x.nx]) (.agg #[.int .i64 y.f, .int .i64 y.t, .int .u64 y.n, .int .u64 y.a, .int .i64 y.k, .int .u64 y.tk, .int .i64 y.c, .int .i64 y.d, .int .i64 y.co, .int .i64 y.fl, .int .i64 y.dy, .int .i64 y.va, .int .i64 y.st, .int .i64 y.ho, .int .u64 y.nx])).run Tryd.prog w = .ok (Lt.eq x y) w := by
  have hS : Tryd.prog.underlying 31 = some (.struct (Tryd.prog.fieldsOf 31)) := by kernel_rfl
  have hp : Tryd.prog.stoodInHeld 31 = false := by kernel_rfl
  have hS' : Tryd.prog.underlying 29 = some (.struct (Tryd.prog.fieldsOf 29)) := by kernel_rfl
  have hp' : Tryd.prog.stoodInHeld 29 = false := by kernel_rfl
  have hS2 : Tryd.prog.underlying 27 = some (.struct (Tryd.prog.fieldsOf 27)) := by kernel_rfl
  have hp2 : Tryd.prog.stoodInHeld 27 = false := by kernel_rfl
  unfold Lt.eq Ltr.eqM
  rw [show (10000 : Nat) = 9999 + 1 from rfl, run_equalIn_agg w 9999 31 _ _ hS hp]
  obtain ⟨dd, hd⟩ : ∃ dd : Nat, 9999 = dd + 1 + 1 + 1 + 1 := ⟨9995, rfl⟩
  rw [hd]
  have hM : ∀ (a b : Array Value), (Op.equalIn (dd + 1 + 1 + 1 + 1) 29 (.agg a) (.agg b)).run Tryd.prog w = (Op.eqFields (dd + 1 + 1 + 1) a b (Tryd.prog.fieldsOf 29).toList).run Tryd.prog w := fun a b => run_equalIn_agg w (dd + 1 + 1 + 1) 29 a b hS' hp'
  have hC : ∀ (a b : Array Value), (Op.equalIn (dd + 1 + 1 + 1) 27 (.agg a) (.agg b)).run Tryd.prog w = (Op.eqFields (dd + 1 + 1) a b (Tryd.prog.fieldsOf 27).toList).run Tryd.prog w := fun a b => run_equalIn_agg w (dd + 1 + 1) 27 a b hS2 hp2
  simp only [Program.fieldsOf, Tryd.underlying31]
  simp only [Program.fieldsOf, Tryd.underlying29] at hM
  simp only [Program.fieldsOf, Tryd.underlying27] at hC
  clear hd hS hS' hp hp' hS2 hp2
  go_simp
  simp only [ite_okS, Bool.and_true, Bool.and_assoc]
  try rfl
theorem eqL (x y : Lt) (w : World) : (binOp .eql 31 (.agg #[.int .i64 x.f, .int .i64 x.t, .int .u64 x.n, .int .u64 x.a, .int .i64 x.k, .int .u64 x.tk, .int .i64 x.c, .int .i64 x.d, .int .i64 x.co, .int .i64 x.fl, .int .i64 x.dy, .int .i64 x.va, .int .i64 x.st, .int .i64 x.ho, .int .u64 x.nx]) (.agg #[.int .i64 y.f, .int .i64 y.t, .int .u64 y.n, .int .u64 y.a, .int .i64 y.k, .int .u64 y.tk, .int .i64 y.c, .int .i64 y.d, .int .i64 y.co, .int .i64 y.fl, .int .i64 y.dy, .int .i64 y.va, .int .i64 y.st, .int .i64 y.ho, .int .u64 y.nx])).run Tryd.prog w = .ok (.bool (Lt.eq x y)) w := by
  rw [run_eql_struct, eqInL]
  rfl
theorem neqL (x y : Lt) (w : World) : (binOp .neq 31 (.agg #[.int .i64 x.f, .int .i64 x.t, .int .u64 x.n, .int .u64 x.a, .int .i64 x.k, .int .u64 x.tk, .int .i64 x.c, .int .i64 x.d, .int .i64 x.co, .int .i64 x.fl, .int .i64 x.dy, .int .i64 x.va, .int .i64 x.st, .int .i64 x.ho, .int .u64 x.nx]) (.agg #[.int .i64 y.f, .int .i64 y.t, .int .u64 y.n, .int .u64 y.a, .int .i64 y.k, .int .u64 y.tk, .int .i64 y.c, .int .i64 y.d, .int .i64 y.co, .int .i64 y.fl, .int .i64 y.dy, .int .i64 y.va, .int .i64 y.st, .int .i64 y.ho, .int .u64 y.nx])).run Tryd.prog w = .ok (.bool (!Lt.eq x y)) w := by
  rw [run_neq_struct, eqInL]
  rfl
theorem guardL (x y : Operand) (xs ys : Array Value) (w : World) : (eqGuard .eql 31 x y (.agg xs) (.agg ys)).run Tryd.prog w = .ok () w := run_eqGuard_agg w _ _ _ _ _ _ (by kernel_rfl)
theorem guardNL (x y : Operand) (xs ys : Array Value) (w : World) : (eqGuard .neq 31 x y (.agg xs) (.agg ys)).run Tryd.prog w = .ok () w := run_eqGuard_agg w _ _ _ _ _ _ (by kernel_rfl)
theorem Lt.eq_iff (x y : Lt) : Lt.eq x y = true ↔ x = y := by
  obtain ⟨f, t, n, a, k, tk, c, d, co, fl, dy, va, st, ho, nx⟩ := x
  obtain ⟨f', t', n', a', k', tk', c', d', co', fl', dy', va', st', ho', nx'⟩ := y
  unfold Lt.eq Ltr.eqM
  simp only [Bool.and_eq_true, beq_iff_eq, Lt.mk.injEq]
def fitL (x : Lt) (b : Bool) : Lt := if (b && x.may) = true then x else zLt
attribute [local go_sem ↓] ml_execLoad lt_execLoad ml_execStore lt_execStore

attribute [local go_sem] ml_load lt_load ml_store lt_store loL_drew okL_drew

set_option maxRecDepth 8000 in
set_option maxHeartbeats 2000000 in
theorem same20_any (x y : Lt) (w : World) : Calls Tryd.prog 14 #[.agg #[.int .i64 x.f, .int .i64 x.t, .int .u64 x.n, .int .u64 x.a, .int .i64 x.k, .int .u64 x.tk, .int .i64 x.c, .int .i64 x.d, .int .i64 x.co, .int .i64 x.fl, .int .i64 x.dy, .int .i64 x.va, .int .i64 x.st, .int .i64 x.ho, .int .u64 x.nx], .agg #[.int .i64 y.f, .int .i64 y.t, .int .u64 y.n, .int .u64 y.a, .int .i64 y.k, .int .u64 y.tk, .int .i64 y.c, .int .i64 y.d, .int .i64 y.co, .int .i64 y.fl, .int .i64 y.dy, .int .i64 y.va, .int .i64 y.st, .int .i64 y.ho, .int .u64 y.nx]] w fun e w' => e = .returned (.bool (Lt.eq x y)) ∧ Below w.heap.size w w' := by
  have hE := fun W => eqL x y W
  have hG := guardL
  have hb1 := (Below.refl w.heap.size w).alloc (Nat.le_refl _) (.cells #[.int .i64 x.f, .int .i64 x.t, .int .u64 x.n, .int .u64 x.a, .int .i64 x.k, .int .u64 x.tk, .int .i64 x.c, .int .i64 x.d, .int .i64 x.co, .int .i64 x.fl, .int .i64 x.dy, .int .i64 x.va, .int .i64 x.st, .int .i64 x.ho, .int .u64 x.nx] 31)
  have hr1 := new_rowW w (.cells #[.int .i64 x.f, .int .i64 x.t, .int .u64 x.n, .int .u64 x.a, .int .i64 x.k, .int .u64 x.tk, .int .i64 x.c, .int .i64 x.d, .int .i64 x.co, .int .i64 x.fl, .int .i64 x.dy, .int .i64 x.va, .int .i64 x.st, .int .i64 x.ho, .int .u64 x.nx] 31) _ rfl
  have hr2 := new_rowW (w.alloc (.cells #[.int .i64 x.f, .int .i64 x.t, .int .u64 x.n, .int .u64 x.a, .int .i64 x.k, .int .u64 x.tk, .int .i64 x.c, .int .i64 x.d, .int .i64 x.co, .int .i64 x.fl, .int .i64 x.dy, .int .i64 x.va, .int .i64 x.st, .int .i64 x.ho, .int .u64 x.nx] 31)) (.cells #[.int .i64 y.f, .int .i64 y.t, .int .u64 y.n, .int .u64 y.a, .int .i64 y.k, .int .u64 y.tk, .int .i64 y.c, .int .i64 y.d, .int .i64 y.co, .int .i64 y.fl, .int .i64 y.dy, .int .i64 y.va, .int .i64 y.st, .int .i64 y.ho, .int .u64 y.nx] 31) _ rfl
  have hb2 := (Below.refl (w.alloc (.cells #[.int .i64 x.f, .int .i64 x.t, .int .u64 x.n, .int .u64 x.a, .int .i64 x.k, .int .u64 x.tk, .int .i64 x.c, .int .i64 x.d, .int .i64 x.co, .int .i64 x.fl, .int .i64 x.dy, .int .i64 x.va, .int .i64 x.st, .int .i64 x.ho, .int .u64 x.nx] 31)).heap.size (w.alloc (.cells #[.int .i64 x.f, .int .i64 x.t, .int .u64 x.n, .int .u64 x.a, .int .i64 x.k, .int .u64 x.tk, .int .i64 x.c, .int .i64 x.d, .int .i64 x.co, .int .i64 x.fl, .int .i64 x.dy, .int .i64 x.va, .int .i64 x.st, .int .i64 x.ho, .int .u64 x.nx] 31))).alloc (Nat.le_refl _) (.cells #[.int .i64 y.f, .int .i64 y.t, .int .u64 y.n, .int .u64 y.a, .int .i64 y.k, .int .u64 y.tk, .int .i64 y.c, .int .i64 y.d, .int .i64 y.co, .int .i64 y.fl, .int .i64 y.dy, .int .i64 y.va, .int .i64 y.st, .int .i64 y.ho, .int .u64 y.nx] 31)
  have hr3 := (hb2.block _ (block_lt hr1)).trans hr1
  obtain ⟨f1, f2⟩ := row_loT 15 hr2 rfl rfl
  obtain ⟨f3, f4⟩ := row_loT 15 hr3 rfl rfl
  have HB := Lib.hid (hb1.trans (hb2.mono hb1.size))
  clear hb1 hb2 hr1 hr2 hr3
  have hsz : (w.alloc (.cells #[.int .i64 x.f, .int .i64 x.t, .int .u64 x.n, .int .u64 x.a, .int .i64 x.k, .int .u64 x.tk, .int .i64 x.c, .int .i64 x.d, .int .i64 x.co, .int .i64 x.fl, .int .i64 x.dy, .int .i64 x.va, .int .i64 x.st, .int .i64 x.ho, .int .u64 x.nx] 31)).heap.size = w.heap.size + 1 := by simp
  rw [hsz] at f1 f2
  clear hsz
  go_enter Tryd.func14, Tryd.ntmps14
  go_wp2
  go_ret
  exact ⟨rfl, HB.out⟩
set_option maxRecDepth 8000 in
set_option maxHeartbeats 2000000 in
theorem back_any (x y : Lt) (w : World) : Calls Tryd.prog 12 #[.agg #[.int .i64 x.f, .int .i64 x.t, .int .u64 x.n, .int .u64 x.a, .int .i64 x.k, .int .u64 x.tk, .int .i64 x.c, .int .i64 x.d, .int .i64 x.co, .int .i64 x.fl, .int .i64 x.dy, .int .i64 x.va, .int .i64 x.st, .int .i64 x.ho, .int .u64 x.nx], .agg #[.int .i64 y.f, .int .i64 y.t, .int .u64 y.n, .int .u64 y.a, .int .i64 y.k, .int .u64 y.tk, .int .i64 y.c, .int .i64 y.d, .int .i64 y.co, .int .i64 y.fl, .int .i64 y.dy, .int .i64 y.va, .int .i64 y.st, .int .i64 y.ho, .int .u64 y.nx]] w fun e w' => e = .returned (.bool ((x.f == y.t) && (x.t == y.f))) ∧ Below w.heap.size w w' := by
  have hb1 := (Below.refl w.heap.size w).alloc (Nat.le_refl _) (.cells #[.int .i64 x.f, .int .i64 x.t, .int .u64 x.n, .int .u64 x.a, .int .i64 x.k, .int .u64 x.tk, .int .i64 x.c, .int .i64 x.d, .int .i64 x.co, .int .i64 x.fl, .int .i64 x.dy, .int .i64 x.va, .int .i64 x.st, .int .i64 x.ho, .int .u64 x.nx] 31)
  have hr1 := new_rowW w (.cells #[.int .i64 x.f, .int .i64 x.t, .int .u64 x.n, .int .u64 x.a, .int .i64 x.k, .int .u64 x.tk, .int .i64 x.c, .int .i64 x.d, .int .i64 x.co, .int .i64 x.fl, .int .i64 x.dy, .int .i64 x.va, .int .i64 x.st, .int .i64 x.ho, .int .u64 x.nx] 31) _ rfl
  have hr2 := new_rowW (w.alloc (.cells #[.int .i64 x.f, .int .i64 x.t, .int .u64 x.n, .int .u64 x.a, .int .i64 x.k, .int .u64 x.tk, .int .i64 x.c, .int .i64 x.d, .int .i64 x.co, .int .i64 x.fl, .int .i64 x.dy, .int .i64 x.va, .int .i64 x.st, .int .i64 x.ho, .int .u64 x.nx] 31)) (.cells #[.int .i64 y.f, .int .i64 y.t, .int .u64 y.n, .int .u64 y.a, .int .i64 y.k, .int .u64 y.tk, .int .i64 y.c, .int .i64 y.d, .int .i64 y.co, .int .i64 y.fl, .int .i64 y.dy, .int .i64 y.va, .int .i64 y.st, .int .i64 y.ho, .int .u64 y.nx] 31) _ rfl
  have hb2 := (Below.refl (w.alloc (.cells #[.int .i64 x.f, .int .i64 x.t, .int .u64 x.n, .int .u64 x.a, .int .i64 x.k, .int .u64 x.tk, .int .i64 x.c, .int .i64 x.d, .int .i64 x.co, .int .i64 x.fl, .int .i64 x.dy, .int .i64 x.va, .int .i64 x.st, .int .i64 x.ho, .int .u64 x.nx] 31)).heap.size (w.alloc (.cells #[.int .i64 x.f, .int .i64 x.t, .int .u64 x.n, .int .u64 x.a, .int .i64 x.k, .int .u64 x.tk, .int .i64 x.c, .int .i64 x.d, .int .i64 x.co, .int .i64 x.fl, .int .i64 x.dy, .int .i64 x.va, .int .i64 x.st, .int .i64 x.ho, .int .u64 x.nx] 31))).alloc (Nat.le_refl _) (.cells #[.int .i64 y.f, .int .i64 y.t, .int .u64 y.n, .int .u64 y.a, .int .i64 y.k, .int .u64 y.tk, .int .i64 y.c, .int .i64 y.d, .int .i64 y.co, .int .i64 y.fl, .int .i64 y.dy, .int .i64 y.va, .int .i64 y.st, .int .i64 y.ho, .int .u64 y.nx] 31)
  have hr3 := (hb2.block _ (block_lt hr1)).trans hr1
  have HB := Lib.hid (hb1.trans (hb2.mono hb1.size))
  have hsz : (w.alloc (.cells #[.int .i64 x.f, .int .i64 x.t, .int .u64 x.n, .int .u64 x.a, .int .i64 x.k, .int .u64 x.tk, .int .i64 x.c, .int .i64 x.d, .int .i64 x.co, .int .i64 x.fl, .int .i64 x.dy, .int .i64 x.va, .int .i64 x.st, .int .i64 x.ho, .int .u64 x.nx] 31)).heap.size = w.heap.size + 1 := by simp
  rw [hsz] at hr2
  have c1 := fun j => cell_of_row _ w.heap.size j _ _ _ hr3
  have c2 := fun j => cell_of_row _ (w.heap.size + 1) j _ _ _ hr2
  clear hb1 hb2 hr1 hr2 hr3
  clear hsz
  by_cases h1 : x.f = y.t
  · have e1 : (x.f == y.t) = true := by simpa using h1
    clear h1
    go_enter Tryd.func12, Tryd.ntmps12
    go_wp2
    go_ret
    exact ⟨ret_bool (by rw [e1, Bool.true_and]), HB.out⟩
  · have e1 : (x.f == y.t) = false := by simpa using h1
    clear h1
    go_enter Tryd.func12, Tryd.ntmps12
    go_wp2
    go_ret
    exact ⟨ret_bool (by rw [e1, Bool.false_and]), HB.out⟩
set_option maxRecDepth 8000 in
set_option maxHeartbeats 4000000 in
theorem fit_any (x : Lt) (hw : x.wf) (b : Bool) (w : World) :
    Calls Tryd.prog 38 #[.agg #[.int .i64 x.f, .int .i64 x.t, .int .u64 x.n, .int .u64 x.a, .int .i64 x.k, .int .u64 x.tk, .int .i64 x.c, .int .i64 x.d, .int .i64 x.co, .int .i64 x.fl, .int .i64 x.dy, .int .i64 x.va, .int .i64 x.st, .int .i64 x.ho, .int .u64 x.nx], .bool b] w fun e w' => e = .returned (.tuple #[.agg (fitL x b).arr, .int .i64 (if (b && x.may) = true then 0 else 2)]) ∧ Below w.heap.size w w' := by
  have HMM := Lib.hid (fun W => lmay_any x.f x.t x.n x.a x.k x.tk x.c x.d x.co x.fl x.dy x.va x.st x.ho x.nx hw.tk hw.va hw.n hw.a W)
  have hq : Ltr.mayB x.f x.t x.n x.a x.k x.tk x.c x.d x.co x.fl x.dy x.va x.st x.ho x.nx = x.may := rfl
  rw [hq] at HMM
  have hb1 := (Below.refl w.heap.size w).alloc (Nat.le_refl _) (.cells #[.int .i64 x.f, .int .i64 x.t, .int .u64 x.n, .int .u64 x.a, .int .i64 x.k, .int .u64 x.tk, .int .i64 x.c, .int .i64 x.d, .int .i64 x.co, .int .i64 x.fl, .int .i64 x.dy, .int .i64 x.va, .int .i64 x.st, .int .i64 x.ho, .int .u64 x.nx] 31)
  have hr1 := new_rowW w (.cells #[.int .i64 x.f, .int .i64 x.t, .int .u64 x.n, .int .u64 x.a, .int .i64 x.k, .int .u64 x.tk, .int .i64 x.c, .int .i64 x.d, .int .i64 x.co, .int .i64 x.fl, .int .i64 x.dy, .int .i64 x.va, .int .i64 x.st, .int .i64 x.ho, .int .u64 x.nx] 31) _ rfl
  have hb2 := (Below.refl (w.alloc (.cells #[.int .i64 x.f, .int .i64 x.t, .int .u64 x.n, .int .u64 x.a, .int .i64 x.k, .int .u64 x.tk, .int .i64 x.c, .int .i64 x.d, .int .i64 x.co, .int .i64 x.fl, .int .i64 x.dy, .int .i64 x.va, .int .i64 x.st, .int .i64 x.ho, .int .u64 x.nx] 31)).heap.size (w.alloc (.cells #[.int .i64 x.f, .int .i64 x.t, .int .u64 x.n, .int .u64 x.a, .int .i64 x.k, .int .u64 x.tk, .int .i64 x.c, .int .i64 x.d, .int .i64 x.co, .int .i64 x.fl, .int .i64 x.dy, .int .i64 x.va, .int .i64 x.st, .int .i64 x.ho, .int .u64 x.nx] 31))).alloc (Nat.le_refl _) (.cells #[.int .i64 0, .int .i64 0, .int .u64 0, .int .u64 0, .int .i64 0, .int .u64 0, .int .i64 0, .int .i64 0, .int .i64 0, .int .i64 0, .int .i64 0, .int .i64 0, .int .i64 0, .int .i64 0, .int .u64 0] 31)
  have hr2 := new_rowW (w.alloc (.cells #[.int .i64 x.f, .int .i64 x.t, .int .u64 x.n, .int .u64 x.a, .int .i64 x.k, .int .u64 x.tk, .int .i64 x.c, .int .i64 x.d, .int .i64 x.co, .int .i64 x.fl, .int .i64 x.dy, .int .i64 x.va, .int .i64 x.st, .int .i64 x.ho, .int .u64 x.nx] 31)) (.cells #[.int .i64 0, .int .i64 0, .int .u64 0, .int .u64 0, .int .i64 0, .int .u64 0, .int .i64 0, .int .i64 0, .int .i64 0, .int .i64 0, .int .i64 0, .int .i64 0, .int .i64 0, .int .i64 0, .int .u64 0] 31) _ rfl
  have hr3 := (hb2.block _ (block_lt hr1)).trans hr1
  have HB := Lib.hid (hb1.trans (hb2.mono hb1.size))
  have hsz : (w.alloc (.cells #[.int .i64 x.f, .int .i64 x.t, .int .u64 x.n, .int .u64 x.a, .int .i64 x.k, .int .u64 x.tk, .int .i64 x.c, .int .i64 x.d, .int .i64 x.co, .int .i64 x.fl, .int .i64 x.dy, .int .i64 x.va, .int .i64 x.st, .int .i64 x.ho, .int .u64 x.nx] 31)).heap.size = w.heap.size + 1 := by simp
  rw [hsz] at hr2
  have HR1 := Lib.hid hr3
  have HR2 := Lib.hid hr2
  clear hb1 hb2 hr1 hr2 hr3 hsz hq hw
  have hz1 : ([.int .i64 0, .int .i64 0, .int .u64 0, .int .u64 0, .int .i64 0, .int .u64 0, .int .i64 0, .int .i64 0, .int .i64 0, .int .i64 0, .int .i64 0, .int .i64 0, .int .i64 0, .int .i64 0, .int .u64 0] : List Value).length = 15 := rfl
  have hz2 : ([.int .i64 0, .int .i64 0, .int .u64 0, .int .u64 0, .int .i64 0, .int .u64 0, .int .i64 0, .int .i64 0, .int .i64 0, .int .i64 0, .int .i64 0, .int .i64 0, .int .i64 0, .int .i64 0, .int .u64 0] : List Value).all (·.oneCell') = true := rfl
  have hx1 : ([.int .i64 x.f, .int .i64 x.t, .int .u64 x.n, .int .u64 x.a, .int .i64 x.k, .int .u64 x.tk, .int .i64 x.c, .int .i64 x.d, .int .i64 x.co, .int .i64 x.fl, .int .i64 x.dy, .int .i64 x.va, .int .i64 x.st, .int .i64 x.ho, .int .u64 x.nx] : List Value).length = 15 := rfl
  have hx2 : ([.int .i64 x.f, .int .i64 x.t, .int .u64 x.n, .int .u64 x.a, .int .i64 x.k, .int .u64 x.tk, .int .i64 x.c, .int .i64 x.d, .int .i64 x.co, .int .i64 x.fl, .int .i64 x.dy, .int .i64 x.va, .int .i64 x.st, .int .i64 x.ho, .int .u64 x.nx] : List Value).all (·.oneCell') = true := rfl
  cases b
  · have HF : Hid (fitL x false = zLt) := Lib.hid rfl
    rw [show (if (false && x.may) = true then (0 : Int) else 2) = 2 from rfl]
    have th := there_rowT (n := 15) HR2.out rfl
    go_enter Tryd.func38, Tryd.ntmps38
    go_wp2_with fail
    have hr6 := setCells_rowT (g := w.heap.size + 1) (cs := [.int .i64 0, .int .i64 0, .int .u64 0, .int .u64 0, .int .i64 0, .int .u64 0, .int .i64 0, .int .i64 0, .int .i64 0, .int .i64 0, .int .i64 0, .int .i64 0, .int .i64 0, .int .i64 0, .int .u64 0]) HR2.out rfl
    (try simp only [Exit.inBlock, Exit.then])
    refine bodyPost_ret (results_cellT2 rfl _ _ (w.heap.size + 1) rfl (loadLt hr6 rfl)) rfl ?_
    rw [HF.out]
    exact ⟨rfl, Only.below HB.out (Nat.le_succ _) HB.out.size ((Only.refl (w.heap.size + 1) _).setCells 0 _)⟩
  · obtain ⟨m, hm⟩ : ∃ m, x.may = m := ⟨_, rfl⟩
    rw [hm] at HMM
    rw [hm]
    obtain ⟨ev, hev⟩ : ∃ ev : Int, ev = (if (true && m) = true then 0 else 2) := ⟨_, rfl⟩
    rw [← hev]
    have HEV := Lib.hid hev
    clear hev
    obtain ⟨f1, f2⟩ := row_loT 15 HR1.out rfl rfl
    go_enter Tryd.func38, Tryd.ntmps38
    go_wp2_with fail
    clear f1 f2
    refine (HMM.out _).mono ?_
    rintro e w1 ⟨rfl, hbm⟩
    have HR1 := Lib.hid ((hbm.block _ (block_lt HR1.out)).trans HR1.out)
    have HR2 := Lib.hid ((hbm.block _ (block_lt HR2.out)).trans HR2.out)
    have HB := Lib.hid (HB.out.trans (hbm.mono HB.out.size))
    clear hbm
    have th := there_rowT (n := 15) HR2.out rfl
    cases m
    · obtain rfl : ev = 2 := HEV.out
      have HF : Hid (fitL x true = zLt) := Lib.hid (by unfold fitL; rw [hm]; rfl)
      clear hm
      go_wp2_with fail
      have hr6 := setCells_rowT (g := w.heap.size + 1) (cs := [.int .i64 0, .int .i64 0, .int .u64 0, .int .u64 0, .int .i64 0, .int .u64 0, .int .i64 0, .int .i64 0, .int .i64 0, .int .i64 0, .int .i64 0, .int .i64 0, .int .i64 0, .int .i64 0, .int .u64 0]) HR2.out rfl
      (try simp only [Exit.inBlock, Exit.then])
      refine bodyPost_ret (results_cellT2 rfl _ _ (w.heap.size + 1) rfl (loadLt hr6 rfl)) rfl ?_
      rw [HF.out]
      exact ⟨rfl, Only.below HB.out (Nat.le_succ _) HB.out.size ((Only.refl (w.heap.size + 1) _).setCells 0 _)⟩
    · obtain rfl : ev = 0 := HEV.out
      have HF : Hid (fitL x true = x) := Lib.hid (by unfold fitL; rw [hm]; rfl)
      clear hm
      obtain ⟨f1, f2⟩ := row_loT 15 HR1.out rfl rfl
      go_wp2_with fail
      have hr6 := setCells_rowT (g := w.heap.size + 1) (cs := [.int .i64 x.f, .int .i64 x.t, .int .u64 x.n, .int .u64 x.a, .int .i64 x.k, .int .u64 x.tk, .int .i64 x.c, .int .i64 x.d, .int .i64 x.co, .int .i64 x.fl, .int .i64 x.dy, .int .i64 x.va, .int .i64 x.st, .int .i64 x.ho, .int .u64 x.nx]) HR2.out rfl
      (try simp only [Exit.inBlock, Exit.then])
      refine bodyPost_ret (results_cellT2 rfl _ _ (w.heap.size + 1) rfl (loadLt hr6 rfl)) rfl ?_
      rw [HF.out]
      exact ⟨rfl, Only.below HB.out (Nat.le_succ _) HB.out.size ((Only.refl (w.heap.size + 1) _).setCells 0 _)⟩
end Go.Proofs.YtellhmbebimenaaDoor
