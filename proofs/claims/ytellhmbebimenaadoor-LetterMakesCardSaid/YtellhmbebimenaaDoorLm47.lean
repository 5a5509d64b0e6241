/- One way of: LetterMakes returns true for every two letters, and leaves the memory that was there as it was; under a listed table as the program's text lays it, and tied to it. -/
import Derived.Test.YtellhmbebimenaaDoorLm44
import Derived.Test.YtellhmbebimenaaDoorLm45
import Derived.Test.YtellhmbebimenaaDoorLm1

set_option linter.unusedVariables false
set_option linter.unusedSimpArgs false
namespace Go.Proofs.YtellhmbebimenaaDoor.letterMakes
open Go.ChangeShapes Go.WideShapes Go.ChangeAt Go.RowKit Go.Deep

attribute [local go_sem ↓] ml_execLoad lt_execLoad

attribute [local go_sem] ml_load lt_load loL_drew okL_drew

set_option maxRecDepth 8000 in
set_option maxHeartbeats 16000000 in
theorem walkA1 (x o : Lt) (hx : x.wf) (ho : o.wf) (w : World) (htab : Tab w) (m : Bool) (hb0 : (x.n != 0) = false) (hm0 : x.may = m) (hr0 : (bareL x.f x.t x.a).may = true) : Calls Tryd.prog 3 #[.agg #[.int .i64 x.f, .int .i64 x.t, .int .u64 x.n, .int .u64 x.a, .int .i64 x.k, .int .u64 x.tk, .int .i64 x.c, .int .i64 x.d, .int .i64 x.co, .int .i64 x.fl, .int .i64 x.dy, .int .i64 x.va, .int .i64 x.st, .int .i64 x.ho, .int .u64 x.nx], .agg #[.int .i64 o.f, .int .i64 o.t, .int .u64 o.n, .int .u64 o.a, .int .i64 o.k, .int .u64 o.tk, .int .i64 o.c, .int .i64 o.d, .int .i64 o.co, .int .i64 o.fl, .int .i64 o.dy, .int .i64 o.va, .int .i64 o.st, .int .i64 o.ho, .int .u64 o.nx]] w fun e w' => e = .returned (.bool true) ∧ Below w.heap.size w w' := by
  have HT := Lib.hid htab
  have hbw : (bareL x.f x.t x.a).wf := ⟨hx.f, hx.t, ⟨Int.le_refl 0, show (0 : Int) ≤ _ by decide⟩, hx.a, ⟨Int.le_refl 0, show (0 : Int) ≤ _ by decide⟩, ⟨show _ ≤ (0 : Int) by decide, show (0 : Int) ≤ _ by decide⟩⟩
  have HML := Lib.hid (fun W => lMail_any x hx W)
  have HRM : Hid (∀ W : World, Calls Tryd.prog 10 #[.agg #[.int .i64 x.f, .int .i64 x.t, .int .u64 x.n, .int .u64 x.a, .int .i64 x.k, .int .u64 x.tk, .int .i64 x.c, .int .i64 x.d, .int .i64 x.co, .int .i64 x.fl, .int .i64 x.dy, .int .i64 x.va, .int .i64 x.st, .int .i64 x.ho, .int .u64 x.nx]] W fun e w' => e = .returned (.bool x.may) ∧ Below W.heap.size W w') := Lib.hid (fun W => rLmay_any x.f x.t x.n x.a x.k x.tk x.c x.d x.co x.fl x.dy x.va x.st x.ho x.nx hx.tk hx.n hx.a W)
  have HBL := Lib.hid (fun W => lBare_any x.f x.t x.a hx.f hx.t hx.a W)
  have HRB : Hid (∀ W : World, Calls Tryd.prog 10 #[.agg #[.int .i64 x.f, .int .i64 x.t, .int .u64 0, .int .u64 x.a, .int .i64 0, .int .u64 0, .int .i64 0, .int .i64 0, .int .i64 0, .int .i64 0, .int .i64 0, .int .i64 0, .int .i64 0, .int .i64 0, .int .u64 0]] W fun e w' => e = .returned (.bool (bareL x.f x.t x.a).may) ∧ Below W.heap.size W w') := Lib.hid (fun W => rLmay_any x.f x.t 0 x.a 0 0 0 0 0 0 0 0 0 0 0 hbw.tk hbw.n hbw.a W)
  obtain ⟨p, hp⟩ : ∃ p, (o.f == x.t) = p := ⟨_, rfl⟩
  obtain ⟨q, hq⟩ : ∃ q, (o.t == x.f) = q := ⟨_, rfl⟩
  have HK1 : Hid (∀ W : World, Calls Tryd.prog 12 #[.agg #[.int .i64 x.f, .int .i64 x.t, .int .u64 x.n, .int .u64 x.a, .int .i64 x.k, .int .u64 x.tk, .int .i64 x.c, .int .i64 x.d, .int .i64 x.co, .int .i64 x.fl, .int .i64 x.dy, .int .i64 x.va, .int .i64 x.st, .int .i64 x.ho, .int .u64 x.nx], .agg #[.int .i64 o.f, .int .i64 o.t, .int .u64 o.n, .int .u64 o.a, .int .i64 o.k, .int .u64 o.tk, .int .i64 o.c, .int .i64 o.d, .int .i64 o.co, .int .i64 o.fl, .int .i64 o.dy, .int .i64 o.va, .int .i64 o.st, .int .i64 o.ho, .int .u64 o.nx]] W fun e w' => e = .returned (.bool (q && p)) ∧ Below W.heap.size W w') := Lib.hid (fun W => by
    have h := back_any x o W
    rw [BEq.comm, hq, BEq.comm (a := x.t), hp] at h
    exact h)
  have HK2 : Hid (∀ W : World, Calls Tryd.prog 12 #[.agg #[.int .i64 x.f, .int .i64 x.t, .int .u64 x.n, .int .u64 x.a, .int .i64 x.k, .int .u64 x.tk, .int .i64 x.c, .int .i64 x.d, .int .i64 x.co, .int .i64 x.fl, .int .i64 x.dy, .int .i64 x.va, .int .i64 x.st, .int .i64 x.ho, .int .u64 x.nx], .agg #[.int .i64 x.t, .int .i64 x.f, .int .u64 0, .int .u64 0, .int .i64 0, .int .u64 0, .int .i64 0, .int .i64 0, .int .i64 0, .int .i64 0, .int .i64 0, .int .i64 0, .int .i64 0, .int .i64 0, .int .u64 0]] W fun e w' => e = .returned (.bool true) ∧ Below W.heap.size W w') := Lib.hid (fun W => by
    have h := back_any x (bareL x.t x.f 0) W
    rw [show ((x.f == (bareL x.t x.f 0).t) && (x.t == (bareL x.t x.f 0).f)) = true from by unfold bareL; simp] at h
    exact h)
  have hE1 : ∀ W : World, (binOp .neq 31 (.agg #[.int .i64 x.f, .int .i64 x.t, .int .u64 x.n, .int .u64 x.a, .int .i64 x.k, .int .u64 x.tk, .int .i64 x.c, .int .i64 x.d, .int .i64 x.co, .int .i64 x.fl, .int .i64 x.dy, .int .i64 x.va, .int .i64 x.st, .int .i64 x.ho, .int .u64 x.nx]) (.agg #[.int .i64 x.f, .int .i64 x.t, .int .u64 x.n, .int .u64 x.a, .int .i64 x.k, .int .u64 x.tk, .int .i64 x.c, .int .i64 x.d, .int .i64 x.co, .int .i64 x.fl, .int .i64 x.dy, .int .i64 x.va, .int .i64 x.st, .int .i64 x.ho, .int .u64 x.nx])).run Tryd.prog W = .ok (.bool false) W := fun W => by
    have h := neqL x x W
    rw [(Lt.eq_iff x x).2 rfl] at h
    exact h
  have hE2 : ∀ W : World, (binOp .neq 31 (.agg #[.int .i64 0, .int .i64 0, .int .u64 0, .int .u64 0, .int .i64 0, .int .u64 0, .int .i64 0, .int .i64 0, .int .i64 0, .int .i64 0, .int .i64 0, .int .i64 0, .int .i64 0, .int .i64 0, .int .u64 0]) (.agg #[.int .i64 0, .int .i64 0, .int .u64 0, .int .u64 0, .int .i64 0, .int .u64 0, .int .i64 0, .int .i64 0, .int .i64 0, .int .i64 0, .int .i64 0, .int .i64 0, .int .i64 0, .int .i64 0, .int .u64 0])).run Tryd.prog W = .ok (.bool false) W := fun W => by
    have h := neqL zLt zLt W
    rw [(Lt.eq_iff zLt zLt).2 rfl] at h
    exact h
  have hE3 : ∀ W : World, (binOp .neq 31 (.agg #[.int .i64 x.f, .int .i64 x.t, .int .u64 0, .int .u64 x.a, .int .i64 0, .int .u64 0, .int .i64 0, .int .i64 0, .int .i64 0, .int .i64 0, .int .i64 0, .int .i64 0, .int .i64 0, .int .i64 0, .int .u64 0]) (.agg #[.int .i64 x.f, .int .i64 x.t, .int .u64 0, .int .u64 x.a, .int .i64 0, .int .u64 0, .int .i64 0, .int .i64 0, .int .i64 0, .int .i64 0, .int .i64 0, .int .i64 0, .int .i64 0, .int .i64 0, .int .u64 0])).run Tryd.prog W = .ok (.bool false) W := fun W => by
    have h := neqL (bareL x.f x.t x.a) (bareL x.f x.t x.a) W
    rw [(Lt.eq_iff _ _).2 rfl] at h
    exact h
  have hG := guardNL
  unfold fitL at HML HBL
  rw [hb0, hm0] at HML
  rw [hm0] at HRM
  rw [hr0] at HBL HRB
  clear hm0 hr0 hbw hx ho htab
  have HB : Hid (Below w.heap.size w ((w.alloc (.cells #[.int .i64 x.f, .int .i64 x.t, .int .u64 x.n, .int .u64 x.a, .int .i64 x.k, .int .u64 x.tk, .int .i64 x.c, .int .i64 x.d, .int .i64 x.co, .int .i64 x.fl, .int .i64 x.dy, .int .i64 x.va, .int .i64 x.st, .int .i64 x.ho, .int .u64 x.nx] 31)).alloc (.cells #[.int .i64 o.f, .int .i64 o.t, .int .u64 o.n, .int .u64 o.a, .int .i64 o.k, .int .u64 o.tk, .int .i64 o.c, .int .i64 o.d, .int .i64 o.co, .int .i64 o.fl, .int .i64 o.dy, .int .i64 o.va, .int .i64 o.st, .int .i64 o.ho, .int .u64 o.nx] 31))) := Lib.hid (((Below.refl w.heap.size w).alloc (Nat.le_refl _) (.cells #[.int .i64 x.f, .int .i64 x.t, .int .u64 x.n, .int .u64 x.a, .int .i64 x.k, .int .u64 x.tk, .int .i64 x.c, .int .i64 x.d, .int .i64 x.co, .int .i64 x.fl, .int .i64 x.dy, .int .i64 x.va, .int .i64 x.st, .int .i64 x.ho, .int .u64 x.nx] 31)).alloc (((Below.refl w.heap.size w).alloc (Nat.le_refl _) (.cells #[.int .i64 x.f, .int .i64 x.t, .int .u64 x.n, .int .u64 x.a, .int .i64 x.k, .int .u64 x.tk, .int .i64 x.c, .int .i64 x.d, .int .i64 x.co, .int .i64 x.fl, .int .i64 x.dy, .int .i64 x.va, .int .i64 x.st, .int .i64 x.ho, .int .u64 x.nx] 31)).size) _)
  have hrx : ((w.alloc (.cells #[.int .i64 x.f, .int .i64 x.t, .int .u64 x.n, .int .u64 x.a, .int .i64 x.k, .int .u64 x.tk, .int .i64 x.c, .int .i64 x.d, .int .i64 x.co, .int .i64 x.fl, .int .i64 x.dy, .int .i64 x.va, .int .i64 x.st, .int .i64 x.ho, .int .u64 x.nx] 31)).alloc (.cells #[.int .i64 o.f, .int .i64 o.t, .int .u64 o.n, .int .u64 o.a, .int .i64 o.k, .int .u64 o.tk, .int .i64 o.c, .int .i64 o.d, .int .i64 o.co, .int .i64 o.fl, .int .i64 o.dy, .int .i64 o.va, .int .i64 o.st, .int .i64 o.ho, .int .u64 o.nx] 31)).heap[w.heap.size]? = some (.cells #[.int .i64 x.f, .int .i64 x.t, .int .u64 x.n, .int .u64 x.a, .int .i64 x.k, .int .u64 x.tk, .int .i64 x.c, .int .i64 x.d, .int .i64 x.co, .int .i64 x.fl, .int .i64 x.dy, .int .i64 x.va, .int .i64 x.st, .int .i64 x.ho, .int .u64 x.nx] 31 (0, 0)) := (((Below.refl (w.alloc (.cells #[.int .i64 x.f, .int .i64 x.t, .int .u64 x.n, .int .u64 x.a, .int .i64 x.k, .int .u64 x.tk, .int .i64 x.c, .int .i64 x.d, .int .i64 x.co, .int .i64 x.fl, .int .i64 x.dy, .int .i64 x.va, .int .i64 x.st, .int .i64 x.ho, .int .u64 x.nx] 31)).heap.size (w.alloc (.cells #[.int .i64 x.f, .int .i64 x.t, .int .u64 x.n, .int .u64 x.a, .int .i64 x.k, .int .u64 x.tk, .int .i64 x.c, .int .i64 x.d, .int .i64 x.co, .int .i64 x.fl, .int .i64 x.dy, .int .i64 x.va, .int .i64 x.st, .int .i64 x.ho, .int .u64 x.nx] 31))).alloc (Nat.le_refl _) _).block _ (by simp)).trans (new_rowW w (.cells #[.int .i64 x.f, .int .i64 x.t, .int .u64 x.n, .int .u64 x.a, .int .i64 x.k, .int .u64 x.tk, .int .i64 x.c, .int .i64 x.d, .int .i64 x.co, .int .i64 x.fl, .int .i64 x.dy, .int .i64 x.va, .int .i64 x.st, .int .i64 x.ho, .int .u64 x.nx] 31) _ rfl)
  have hro : ((w.alloc (.cells #[.int .i64 x.f, .int .i64 x.t, .int .u64 x.n, .int .u64 x.a, .int .i64 x.k, .int .u64 x.tk, .int .i64 x.c, .int .i64 x.d, .int .i64 x.co, .int .i64 x.fl, .int .i64 x.dy, .int .i64 x.va, .int .i64 x.st, .int .i64 x.ho, .int .u64 x.nx] 31)).alloc (.cells #[.int .i64 o.f, .int .i64 o.t, .int .u64 o.n, .int .u64 o.a, .int .i64 o.k, .int .u64 o.tk, .int .i64 o.c, .int .i64 o.d, .int .i64 o.co, .int .i64 o.fl, .int .i64 o.dy, .int .i64 o.va, .int .i64 o.st, .int .i64 o.ho, .int .u64 o.nx] 31)).heap[w.heap.size + 1]? = some (.cells #[.int .i64 o.f, .int .i64 o.t, .int .u64 o.n, .int .u64 o.a, .int .i64 o.k, .int .u64 o.tk, .int .i64 o.c, .int .i64 o.d, .int .i64 o.co, .int .i64 o.fl, .int .i64 o.dy, .int .i64 o.va, .int .i64 o.st, .int .i64 o.ho, .int .u64 o.nx] 31 (0, 0)) := by
    have h := new_rowW (w.alloc (.cells #[.int .i64 x.f, .int .i64 x.t, .int .u64 x.n, .int .u64 x.a, .int .i64 x.k, .int .u64 x.tk, .int .i64 x.c, .int .i64 x.d, .int .i64 x.co, .int .i64 x.fl, .int .i64 x.dy, .int .i64 x.va, .int .i64 x.st, .int .i64 x.ho, .int .u64 x.nx] 31)) (.cells #[.int .i64 o.f, .int .i64 o.t, .int .u64 o.n, .int .u64 o.a, .int .i64 o.k, .int .u64 o.tk, .int .i64 o.c, .int .i64 o.d, .int .i64 o.co, .int .i64 o.fl, .int .i64 o.dy, .int .i64 o.va, .int .i64 o.st, .int .i64 o.ho, .int .u64 o.nx] 31) _ rfl
    rw [show (w.alloc (.cells #[.int .i64 x.f, .int .i64 x.t, .int .u64 x.n, .int .u64 x.a, .int .i64 x.k, .int .u64 x.tk, .int .i64 x.c, .int .i64 x.d, .int .i64 x.co, .int .i64 x.fl, .int .i64 x.dy, .int .i64 x.va, .int .i64 x.st, .int .i64 x.ho, .int .u64 x.nx] 31)).heap.size = w.heap.size + 1 from by simp] at h
    exact h
  have HRX := Lib.hid hrx
  have HRO := Lib.hid hro
  clear hrx hro
  have HBA := Lib.hid (Nat.le_succ w.heap.size)
  go_enter Tryd.func3, Tryd.ntmps3
  go_upto_region 1 with fail
  generalize (w.alloc (.cells #[.int .i64 x.f, .int .i64 x.t, .int .u64 x.n, .int .u64 x.a, .int .i64 x.k, .int .u64 x.tk, .int .i64 x.c, .int .i64 x.d, .int .i64 x.co, .int .i64 x.fl, .int .i64 x.dy, .int .i64 x.va, .int .i64 x.st, .int .i64 x.ho, .int .u64 x.nx] 31)).alloc (.cells #[.int .i64 o.f, .int .i64 o.t, .int .u64 o.n, .int .u64 o.a, .int .i64 o.k, .int .u64 o.tk, .int .i64 o.c, .int .i64 o.d, .int .i64 o.co, .int .i64 o.fl, .int .i64 o.dy, .int .i64 o.va, .int .i64 o.st, .int .i64 o.ho, .int .u64 o.nx] 31) = w0 at *
  generalize w.heap.size + 1 = go at *
  have HML : Hid (∀ W : World, Calls Tryd.prog 9 #[.int .i64 x.f, .int .i64 x.t, .int .u64 x.n, .int .u64 x.a, .agg #[.int .i64 x.k, .int .u64 x.tk, .int .i64 x.c, .int .i64 x.d, .int .i64 x.co, .int .i64 x.fl, .int .i64 x.dy, .int .i64 x.va, .int .i64 x.st, .int .i64 x.ho, .int .u64 x.nx]] W fun e w' => e = .returned (.tuple #[.agg #[.int .i64 0, .int .i64 0, .int .u64 0, .int .u64 0, .int .i64 0, .int .u64 0, .int .i64 0, .int .i64 0, .int .i64 0, .int .i64 0, .int .i64 0, .int .i64 0, .int .i64 0, .int .i64 0, .int .u64 0], .int .i64 2]) ∧ Below W.heap.size W w') := Lib.hid (fun W => HML.out W)
  have hcx := fun j => cell_of_row w0 w.heap.size j _ _ _ HRX.out
  obtain ⟨f1, f2⟩ := row_loO 11 4 HRX.out (ds := [.int .i64 x.k, .int .u64 x.tk, .int .i64 x.c, .int .i64 x.d, .int .i64 x.co, .int .i64 x.fl, .int .i64 x.dy, .int .i64 x.va, .int .i64 x.st, .int .i64 x.ho, .int .u64 x.nx]) rfl rfl
  go_wp2_with fail
  clear hcx f1 f2
  refine (HML.out _).mono ?_
  rintro e w1 ⟨rfl, hb⟩
  replace HB := Lib.hid (HB.out.trans (hb.mono HB.out.size))
  replace HRX := Lib.hid ((hb.block _ (block_lt HRX.out)).trans HRX.out)
  replace HRO := Lib.hid ((hb.block _ (block_lt HRO.out)).trans HRO.out)
  clear hb
  go_upto_region 2 with fail
  have hb := (Below.refl w1.heap.size w1).alloc (Nat.le_refl _) (.cells #[.int .i64 0, .int .i64 0, .int .u64 0, .int .u64 0, .int .i64 0, .int .u64 0, .int .i64 0, .int .i64 0, .int .i64 0, .int .i64 0, .int .i64 0, .int .i64 0, .int .i64 0, .int .i64 0, .int .u64 0] 31)
  have HRY := Lib.hid (new_rowW w1 (.cells #[.int .i64 0, .int .i64 0, .int .u64 0, .int .u64 0, .int .i64 0, .int .u64 0, .int .i64 0, .int .i64 0, .int .i64 0, .int .i64 0, .int .i64 0, .int .i64 0, .int .i64 0, .int .i64 0, .int .u64 0] 31) _ rfl)
  replace HB := Lib.hid (HB.out.trans (hb.mono HB.out.size))
  replace HRX := Lib.hid ((hb.block _ (block_lt HRX.out)).trans HRX.out)
  replace HRO := Lib.hid ((hb.block _ (block_lt HRO.out)).trans HRO.out)
  clear hb
  generalize w1.alloc (.cells #[.int .i64 0, .int .i64 0, .int .u64 0, .int .u64 0, .int .i64 0, .int .u64 0, .int .i64 0, .int .i64 0, .int .i64 0, .int .i64 0, .int .i64 0, .int .i64 0, .int .i64 0, .int .i64 0, .int .u64 0] 31) = w2 at *
  generalize w1.heap.size = gy at *
  have hcx := fun j => cell_of_row w2 w.heap.size j _ _ _ HRX.out
  obtain ⟨f1, f2⟩ := row_loT 15 HRX.out rfl rfl
  obtain ⟨f3, f4⟩ := row_loT 15 HRY.out rfl rfl
  go_wp2_with fail
  clear hcx f1 f2 f3 f4
  have HBL : Hid (∀ W : World, Calls Tryd.prog 11 #[.int .i64 x.f, .int .i64 x.t, .int .u64 x.a] W fun e w' => e = .returned (.tuple #[.agg #[.int .i64 x.f, .int .i64 x.t, .int .u64 0, .int .u64 x.a, .int .i64 0, .int .u64 0, .int .i64 0, .int .i64 0, .int .i64 0, .int .i64 0, .int .i64 0, .int .i64 0, .int .i64 0, .int .i64 0, .int .u64 0], .int .i64 0]) ∧ Below W.heap.size W w') := Lib.hid (fun W => HBL.out W)
  refine (HBL.out _).mono ?_
  rintro e w4 ⟨rfl, hb⟩
  replace HB := Lib.hid (HB.out.trans (hb.mono HB.out.size))
  replace HRX := Lib.hid ((hb.block _ (block_lt HRX.out)).trans HRX.out)
  replace HRO := Lib.hid ((hb.block _ (block_lt HRO.out)).trans HRO.out)
  clear hb
  clear HRY
  go_upto_region 8 with fail
  have hb := (Below.refl w4.heap.size w4).alloc (Nat.le_refl _) (.cells #[.int .i64 x.f, .int .i64 x.t, .int .u64 0, .int .u64 x.a, .int .i64 0, .int .u64 0, .int .i64 0, .int .i64 0, .int .i64 0, .int .i64 0, .int .i64 0, .int .i64 0, .int .i64 0, .int .i64 0, .int .u64 0] 31)
  have HRY := Lib.hid (new_rowW w4 (.cells #[.int .i64 x.f, .int .i64 x.t, .int .u64 0, .int .u64 x.a, .int .i64 0, .int .u64 0, .int .i64 0, .int .i64 0, .int .i64 0, .int .i64 0, .int .i64 0, .int .i64 0, .int .i64 0, .int .i64 0, .int .u64 0] 31) _ rfl)
  replace HB := Lib.hid (HB.out.trans (hb.mono HB.out.size))
  replace HRX := Lib.hid ((hb.block _ (block_lt HRX.out)).trans HRX.out)
  replace HRO := Lib.hid ((hb.block _ (block_lt HRO.out)).trans HRO.out)
  clear hb
  generalize w4.alloc (.cells #[.int .i64 x.f, .int .i64 x.t, .int .u64 0, .int .u64 x.a, .int .i64 0, .int .u64 0, .int .i64 0, .int .i64 0, .int .i64 0, .int .i64 0, .int .i64 0, .int .i64 0, .int .i64 0, .int .i64 0, .int .u64 0] 31) = w5 at *
  generalize w4.heap.size = gz at *
  have hcx := fun j => cell_of_row w5 w.heap.size j _ _ _ HRX.out
  go_upto_region 9 with fail
  clear hcx
  have hb := (Below.refl w5.heap.size w5).alloc (Nat.le_refl _) (.cells #[.int .i64 x.f, .int .i64 x.t, .int .u64 0, .int .u64 x.a, .int .i64 0, .int .u64 0, .int .i64 0, .int .i64 0, .int .i64 0, .int .i64 0, .int .i64 0, .int .i64 0, .int .i64 0, .int .i64 0, .int .u64 0] 31)
  have HRZ := Lib.hid (new_rowW w5 (.cells #[.int .i64 x.f, .int .i64 x.t, .int .u64 0, .int .u64 x.a, .int .i64 0, .int .u64 0, .int .i64 0, .int .i64 0, .int .i64 0, .int .i64 0, .int .i64 0, .int .i64 0, .int .i64 0, .int .i64 0, .int .u64 0] 31) _ rfl)
  replace HB := Lib.hid (HB.out.trans (hb.mono HB.out.size))
  replace HRX := Lib.hid ((hb.block _ (block_lt HRX.out)).trans HRX.out)
  replace HRO := Lib.hid ((hb.block _ (block_lt HRO.out)).trans HRO.out)
  replace HRY := Lib.hid ((hb.block _ (block_lt HRY.out)).trans HRY.out)
  clear hb
  generalize w5.alloc (.cells #[.int .i64 x.f, .int .i64 x.t, .int .u64 0, .int .u64 x.a, .int .i64 0, .int .u64 0, .int .i64 0, .int .i64 0, .int .i64 0, .int .i64 0, .int .i64 0, .int .i64 0, .int .i64 0, .int .i64 0, .int .u64 0] 31) = w6 at *
  generalize w5.heap.size = gb at *
  obtain ⟨f1, f2⟩ := row_loT 15 HRZ.out rfl rfl
  go_wp2_with fail
  clear f1 f2
  refine (HRB.out _).mono ?_
  rintro e w7 ⟨rfl, hb⟩
  replace HB := Lib.hid (HB.out.trans (hb.mono HB.out.size))
  replace HRX := Lib.hid ((hb.block _ (block_lt HRX.out)).trans HRX.out)
  replace HRO := Lib.hid ((hb.block _ (block_lt HRO.out)).trans HRO.out)
  replace HRY := Lib.hid ((hb.block _ (block_lt HRY.out)).trans HRY.out)
  replace HRZ := Lib.hid ((hb.block _ (block_lt HRZ.out)).trans HRZ.out)
  clear hb
  obtain ⟨f1, f2⟩ := row_loT 15 HRZ.out rfl rfl
  obtain ⟨f3, f4⟩ := row_loT 15 HRY.out rfl rfl
  go_upto_region 14 with fail
  clear f1 f2 f3 f4
  have hcx := fun (u : Later w7) (j : Nat) => (u.cell w.heap.size j (block_lt HRX.out)).trans (cell_of_row w7 w.heap.size j _ _ _ HRX.out)
  have hco := fun (u : Later w7) (j : Nat) => (u.cell go j (block_lt HRO.out)).trans (cell_of_row w7 go j _ _ _ HRO.out)
  have hlx := fun (u : Later w7) => row_loT 15 ((u.prop.block _ (block_lt HRX.out)).trans HRX.out) rfl rfl
  have hlo := fun (u : Later w7) => row_loT 15 ((u.prop.block _ (block_lt HRO.out)).trans HRO.out) rfl rfl
  have hlx1 := fun u => (hlx u).1
  have hlx2 := fun u => (hlx u).2
  have hlo1 := fun u => (hlo u).1
  have hlo2 := fun u => (hlo u).2
  clear hlx hlo
  have HTU := Lib.hid (fun (u : Later w7) => HT.out.below (HB.out.trans (u.prop.mono HB.out.size)))
  cases p <;> cases q
  all_goals
    refine wp_region_later (by kernel_rfl) (by kernel_rfl) ?_
    repeat (go_big_quiet_step (first | (go_at_call 12; first | with_reducible exact later_call (HK1.out _) | with_reducible exact later_call (HK2.out _)) | (go_at_call 13; exact later_call (known20_any _ (HTU.out _)))))
    refine wpQuiet_nil ?_
    rintro wz ⟨u, rfl⟩
    have HBZ := Lib.hid (HB.out.trans (u.prop.mono HB.out.size))
    clear hcx hco hlx1 hlx2 hlo1 hlo2
    go_wp2_with fail
    go_ret
    exact ⟨rfl, HBZ.out⟩
end Go.Proofs.YtellhmbebimenaaDoor.letterMakes
