/- Ways of: LetterApart returns true. -/
import Derived.Test.YtellhmbebimenaaDoorLa46
import Derived.Test.YtellhmbebimenaaDoorLa48
import Derived.Test.YtellhmbebimenaaDoorLa1

set_option linter.unusedVariables false
set_option linter.unusedSimpArgs false
namespace Go.Proofs.YtellhmbebimenaaDoor.letterApart
open Go.ChangeShapes Go.WideShapes Go.ChangeAt Go.RowKit Go.Deep

attribute [local go_sem ↓] ml_execLoad lt_execLoad

attribute [local go_sem] ml_load lt_load loL_drew okL_drew

set_option maxRecDepth 8000 in
set_option maxHeartbeats 8000000 in
theorem walkNb (x y : Lt) (hx : x.wf) (hy : y.wf) (w : World) (htab : Tab w) (hs : Lt.eq x y = false) (mx : x.may = true) (my : y.may = true) : Calls Tryd.prog 4 #[.agg #[.int .i64 x.f, .int .i64 x.t, .int .u64 x.n, .int .u64 x.a, .int .i64 x.k, .int .u64 x.tk, .int .i64 x.c, .int .i64 x.d, .int .i64 x.co, .int .i64 x.fl, .int .i64 x.dy, .int .i64 x.va, .int .i64 x.st, .int .i64 x.ho, .int .u64 x.nx], .agg #[.int .i64 y.f, .int .i64 y.t, .int .u64 y.n, .int .u64 y.a, .int .i64 y.k, .int .u64 y.tk, .int .i64 y.c, .int .i64 y.d, .int .i64 y.co, .int .i64 y.fl, .int .i64 y.dy, .int .i64 y.va, .int .i64 y.st, .int .i64 y.ho, .int .u64 y.nx]] w fun e w' => e = .returned (.bool true) ∧ Below w.heap.size w w' := by
  have HT := Lib.hid htab
  have HS1 : Hid (∀ W : World, Calls Tryd.prog 14 #[.agg #[.int .i64 x.f, .int .i64 x.t, .int .u64 x.n, .int .u64 x.a, .int .i64 x.k, .int .u64 x.tk, .int .i64 x.c, .int .i64 x.d, .int .i64 x.co, .int .i64 x.fl, .int .i64 x.dy, .int .i64 x.va, .int .i64 x.st, .int .i64 x.ho, .int .u64 x.nx], .agg #[.int .i64 y.f, .int .i64 y.t, .int .u64 y.n, .int .u64 y.a, .int .i64 y.k, .int .u64 y.tk, .int .i64 y.c, .int .i64 y.d, .int .i64 y.co, .int .i64 y.fl, .int .i64 y.dy, .int .i64 y.va, .int .i64 y.st, .int .i64 y.ho, .int .u64 y.nx]] W fun e w' => e = .returned (.bool false) ∧ Below W.heap.size W w') := Lib.hid (fun W => by rw [← hs]; exact same20_any x y W)
  have HS2 : Hid (∀ W : World, Calls Tryd.prog 14 #[.agg #[.int .i64 x.f, .int .i64 x.t, .int .u64 x.n, .int .u64 x.a, .int .i64 x.k, .int .u64 x.tk, .int .i64 x.c, .int .i64 x.d, .int .i64 x.co, .int .i64 x.fl, .int .i64 x.dy, .int .i64 x.va, .int .i64 x.st, .int .i64 x.ho, .int .u64 x.nx], .agg #[.int .i64 x.f, .int .i64 x.t, .int .u64 x.n, .int .u64 x.a, .int .i64 x.k, .int .u64 x.tk, .int .i64 x.c, .int .i64 x.d, .int .i64 x.co, .int .i64 x.fl, .int .i64 x.dy, .int .i64 x.va, .int .i64 x.st, .int .i64 x.ho, .int .u64 x.nx]] W fun e w' => e = .returned (.bool true) ∧ Below W.heap.size W w') := Lib.hid (fun W => by rw [← (Lt.eq_iff x x).2 rfl]; exact same20_any x x W)
  have hE : ∀ W : World, (binOp .eql 31 (.agg #[.int .i64 x.f, .int .i64 x.t, .int .u64 x.n, .int .u64 x.a, .int .i64 x.k, .int .u64 x.tk, .int .i64 x.c, .int .i64 x.d, .int .i64 x.co, .int .i64 x.fl, .int .i64 x.dy, .int .i64 x.va, .int .i64 x.st, .int .i64 x.ho, .int .u64 x.nx]) (.agg #[.int .i64 y.f, .int .i64 y.t, .int .u64 y.n, .int .u64 y.a, .int .i64 y.k, .int .u64 y.tk, .int .i64 y.c, .int .i64 y.d, .int .i64 y.co, .int .i64 y.fl, .int .i64 y.dy, .int .i64 y.va, .int .i64 y.st, .int .i64 y.ho, .int .u64 y.nx])).run Tryd.prog W = .ok (.bool false) W := fun W => by rw [← hs]; exact eqL x y W
  have hG := guardL
  have HRM : Hid (∀ W : World, Calls Tryd.prog 10 #[.agg #[.int .i64 x.f, .int .i64 x.t, .int .u64 x.n, .int .u64 x.a, .int .i64 x.k, .int .u64 x.tk, .int .i64 x.c, .int .i64 x.d, .int .i64 x.co, .int .i64 x.fl, .int .i64 x.dy, .int .i64 x.va, .int .i64 x.st, .int .i64 x.ho, .int .u64 x.nx]] W fun e w' => e = .returned (.bool true) ∧ Below W.heap.size W w') := Lib.hid (fun W => by rw [← mx]; exact rLmay_any x.f x.t x.n x.a x.k x.tk x.c x.d x.co x.fl x.dy x.va x.st x.ho x.nx hx.tk hx.n hx.a W)
  have HRN : Hid (∀ W : World, Calls Tryd.prog 10 #[.agg #[.int .i64 y.f, .int .i64 y.t, .int .u64 y.n, .int .u64 y.a, .int .i64 y.k, .int .u64 y.tk, .int .i64 y.c, .int .i64 y.d, .int .i64 y.co, .int .i64 y.fl, .int .i64 y.dy, .int .i64 y.va, .int .i64 y.st, .int .i64 y.ho, .int .u64 y.nx]] W fun e w' => e = .returned (.bool true) ∧ Below W.heap.size W w') := Lib.hid (fun W => by rw [← my]; exact rLmay_any y.f y.t y.n y.a y.k y.tk y.c y.d y.co y.fl y.dy y.va y.st y.ho y.nx hy.tk hy.n hy.a W)
  have HYX : Hid (∀ W : World, Calls Tryd.prog 15 #[.agg #[.int .i64 x.f, .int .i64 x.t, .int .u64 x.n, .int .u64 x.a, .int .i64 x.k, .int .u64 x.tk, .int .i64 x.c, .int .i64 x.d, .int .i64 x.co, .int .i64 x.fl, .int .i64 x.dy, .int .i64 x.va, .int .i64 x.st, .int .i64 x.ho, .int .u64 x.nx]] W fun e w' => ∃ q c, e = .returned (.tuple #[.slice q (encLt x).length c, .int .i64 0]) ∧ BS w' (.slice q (encLt x).length c) (encLt x) ∧ Below W.heap.size W w') := Lib.hid (fun W => (lBytes_yes x hx mx W).mono fun e w' ⟨v, he, ho, hb⟩ => by obtain ⟨q, c, rfl⟩ := own_form20 ho; exact ⟨q, c, he, BS.of_own ho, hb⟩)
  have HTX := Lib.hid (fun W hW => lText_any x hx W hW)
  have HYY : Hid (∀ W : World, Calls Tryd.prog 15 #[.agg #[.int .i64 y.f, .int .i64 y.t, .int .u64 y.n, .int .u64 y.a, .int .i64 y.k, .int .u64 y.tk, .int .i64 y.c, .int .i64 y.d, .int .i64 y.co, .int .i64 y.fl, .int .i64 y.dy, .int .i64 y.va, .int .i64 y.st, .int .i64 y.ho, .int .u64 y.nx]] W fun e w' => ∃ q c, e = .returned (.tuple #[.slice q (encLt y).length c, .int .i64 0]) ∧ BS w' (.slice q (encLt y).length c) (encLt y) ∧ Below W.heap.size W w') := Lib.hid (fun W => (lBytes_yes y hy my W).mono fun e w' ⟨v, he, ho, hb⟩ => by obtain ⟨q, c, rfl⟩ := own_form20 ho; exact ⟨q, c, he, BS.of_own ho, hb⟩)
  have HTY := Lib.hid (fun W hW => lText_any y hy W hW)
  have hxy : ¬ x = y := fun h => by rw [(Lt.eq_iff x y).2 h] at hs; cases hs
  have hne1 : ¬ (⟨(encLt x).toArray⟩ : ByteArray) = ⟨(encLt y).toArray⟩ := fun h => hxy (encLt_inj hx hy mx my (by injection h with h; simpa using h))
  have hne2 : ¬ (⟨(textLt x).toArray⟩ : ByteArray) = ⟨(textLt y).toArray⟩ := fun h => hxy (textLt_inj hx hy mx my (by injection h with h; simpa using h))
  clear hxy
  have HB : Hid (Below w.heap.size w ((w.alloc (.cells #[.int .i64 x.f, .int .i64 x.t, .int .u64 x.n, .int .u64 x.a, .int .i64 x.k, .int .u64 x.tk, .int .i64 x.c, .int .i64 x.d, .int .i64 x.co, .int .i64 x.fl, .int .i64 x.dy, .int .i64 x.va, .int .i64 x.st, .int .i64 x.ho, .int .u64 x.nx] 31)).alloc (.cells #[.int .i64 y.f, .int .i64 y.t, .int .u64 y.n, .int .u64 y.a, .int .i64 y.k, .int .u64 y.tk, .int .i64 y.c, .int .i64 y.d, .int .i64 y.co, .int .i64 y.fl, .int .i64 y.dy, .int .i64 y.va, .int .i64 y.st, .int .i64 y.ho, .int .u64 y.nx] 31))) := Lib.hid (((Below.refl w.heap.size w).alloc (Nat.le_refl _) (.cells #[.int .i64 x.f, .int .i64 x.t, .int .u64 x.n, .int .u64 x.a, .int .i64 x.k, .int .u64 x.tk, .int .i64 x.c, .int .i64 x.d, .int .i64 x.co, .int .i64 x.fl, .int .i64 x.dy, .int .i64 x.va, .int .i64 x.st, .int .i64 x.ho, .int .u64 x.nx] 31)).alloc (((Below.refl w.heap.size w).alloc (Nat.le_refl _) (.cells #[.int .i64 x.f, .int .i64 x.t, .int .u64 x.n, .int .u64 x.a, .int .i64 x.k, .int .u64 x.tk, .int .i64 x.c, .int .i64 x.d, .int .i64 x.co, .int .i64 x.fl, .int .i64 x.dy, .int .i64 x.va, .int .i64 x.st, .int .i64 x.ho, .int .u64 x.nx] 31)).size) _)
  have HRX : Hid (((w.alloc (.cells #[.int .i64 x.f, .int .i64 x.t, .int .u64 x.n, .int .u64 x.a, .int .i64 x.k, .int .u64 x.tk, .int .i64 x.c, .int .i64 x.d, .int .i64 x.co, .int .i64 x.fl, .int .i64 x.dy, .int .i64 x.va, .int .i64 x.st, .int .i64 x.ho, .int .u64 x.nx] 31)).alloc (.cells #[.int .i64 y.f, .int .i64 y.t, .int .u64 y.n, .int .u64 y.a, .int .i64 y.k, .int .u64 y.tk, .int .i64 y.c, .int .i64 y.d, .int .i64 y.co, .int .i64 y.fl, .int .i64 y.dy, .int .i64 y.va, .int .i64 y.st, .int .i64 y.ho, .int .u64 y.nx] 31)).heap[w.heap.size]? = some (.cells #[.int .i64 x.f, .int .i64 x.t, .int .u64 x.n, .int .u64 x.a, .int .i64 x.k, .int .u64 x.tk, .int .i64 x.c, .int .i64 x.d, .int .i64 x.co, .int .i64 x.fl, .int .i64 x.dy, .int .i64 x.va, .int .i64 x.st, .int .i64 x.ho, .int .u64 x.nx] 31 (0, 0))) := Lib.hid ((((Below.refl (w.alloc (.cells #[.int .i64 x.f, .int .i64 x.t, .int .u64 x.n, .int .u64 x.a, .int .i64 x.k, .int .u64 x.tk, .int .i64 x.c, .int .i64 x.d, .int .i64 x.co, .int .i64 x.fl, .int .i64 x.dy, .int .i64 x.va, .int .i64 x.st, .int .i64 x.ho, .int .u64 x.nx] 31)).heap.size (w.alloc (.cells #[.int .i64 x.f, .int .i64 x.t, .int .u64 x.n, .int .u64 x.a, .int .i64 x.k, .int .u64 x.tk, .int .i64 x.c, .int .i64 x.d, .int .i64 x.co, .int .i64 x.fl, .int .i64 x.dy, .int .i64 x.va, .int .i64 x.st, .int .i64 x.ho, .int .u64 x.nx] 31))).alloc (Nat.le_refl _) _).block _ (by simp)).trans (new_rowW w (.cells #[.int .i64 x.f, .int .i64 x.t, .int .u64 x.n, .int .u64 x.a, .int .i64 x.k, .int .u64 x.tk, .int .i64 x.c, .int .i64 x.d, .int .i64 x.co, .int .i64 x.fl, .int .i64 x.dy, .int .i64 x.va, .int .i64 x.st, .int .i64 x.ho, .int .u64 x.nx] 31) _ rfl))
  have HRY : Hid (((w.alloc (.cells #[.int .i64 x.f, .int .i64 x.t, .int .u64 x.n, .int .u64 x.a, .int .i64 x.k, .int .u64 x.tk, .int .i64 x.c, .int .i64 x.d, .int .i64 x.co, .int .i64 x.fl, .int .i64 x.dy, .int .i64 x.va, .int .i64 x.st, .int .i64 x.ho, .int .u64 x.nx] 31)).alloc (.cells #[.int .i64 y.f, .int .i64 y.t, .int .u64 y.n, .int .u64 y.a, .int .i64 y.k, .int .u64 y.tk, .int .i64 y.c, .int .i64 y.d, .int .i64 y.co, .int .i64 y.fl, .int .i64 y.dy, .int .i64 y.va, .int .i64 y.st, .int .i64 y.ho, .int .u64 y.nx] 31)).heap[w.heap.size + 1]? = some (.cells #[.int .i64 y.f, .int .i64 y.t, .int .u64 y.n, .int .u64 y.a, .int .i64 y.k, .int .u64 y.tk, .int .i64 y.c, .int .i64 y.d, .int .i64 y.co, .int .i64 y.fl, .int .i64 y.dy, .int .i64 y.va, .int .i64 y.st, .int .i64 y.ho, .int .u64 y.nx] 31 (0, 0))) := Lib.hid (by
    have h := new_rowW (w.alloc (.cells #[.int .i64 x.f, .int .i64 x.t, .int .u64 x.n, .int .u64 x.a, .int .i64 x.k, .int .u64 x.tk, .int .i64 x.c, .int .i64 x.d, .int .i64 x.co, .int .i64 x.fl, .int .i64 x.dy, .int .i64 x.va, .int .i64 x.st, .int .i64 x.ho, .int .u64 x.nx] 31)) (.cells #[.int .i64 y.f, .int .i64 y.t, .int .u64 y.n, .int .u64 y.a, .int .i64 y.k, .int .u64 y.tk, .int .i64 y.c, .int .i64 y.d, .int .i64 y.co, .int .i64 y.fl, .int .i64 y.dy, .int .i64 y.va, .int .i64 y.st, .int .i64 y.ho, .int .u64 y.nx] 31) _ rfl
    rw [show (w.alloc (.cells #[.int .i64 x.f, .int .i64 x.t, .int .u64 x.n, .int .u64 x.a, .int .i64 x.k, .int .u64 x.tk, .int .i64 x.c, .int .i64 x.d, .int .i64 x.co, .int .i64 x.fl, .int .i64 x.dy, .int .i64 x.va, .int .i64 x.st, .int .i64 x.ho, .int .u64 x.nx] 31)).heap.size = w.heap.size + 1 from by simp] at h
    exact h)
  clear hs mx my hx hy htab
  go_enter Tryd.func4, Tryd.ntmps4
  go_upto_region 1 with fail
  generalize (w.alloc (.cells #[.int .i64 x.f, .int .i64 x.t, .int .u64 x.n, .int .u64 x.a, .int .i64 x.k, .int .u64 x.tk, .int .i64 x.c, .int .i64 x.d, .int .i64 x.co, .int .i64 x.fl, .int .i64 x.dy, .int .i64 x.va, .int .i64 x.st, .int .i64 x.ho, .int .u64 x.nx] 31)).alloc (.cells #[.int .i64 y.f, .int .i64 y.t, .int .u64 y.n, .int .u64 y.a, .int .i64 y.k, .int .u64 y.tk, .int .i64 y.c, .int .i64 y.d, .int .i64 y.co, .int .i64 y.fl, .int .i64 y.dy, .int .i64 y.va, .int .i64 y.st, .int .i64 y.ho, .int .u64 y.nx] 31) = w0 at *
  generalize w.heap.size + 1 = gy at *
  have hlx := fun (u : Later w0) => row_loT 15 ((u.prop.block _ (block_lt HRX.out)).trans HRX.out) rfl rfl
  have hly := fun (u : Later w0) => row_loT 15 ((u.prop.block _ (block_lt HRY.out)).trans HRY.out) rfl rfl
  have hlx1 := fun u => (hlx u).1
  have hlx2 := fun u => (hlx u).2
  have hly1 := fun u => (hly u).1
  have hly2 := fun u => (hly u).2
  clear hlx hly
  refine wp_region_later (by kernel_rfl) (by kernel_rfl) ?_
  repeat (go_big_quiet_step (first | (go_at_call 14; first | with_reducible exact later_call (HS1.out _) | with_reducible exact later_call (HS2.out _))))
  refine wpQuiet_nil ?_
  rintro w1 ⟨u, rfl⟩
  have hb := u.prop
  clear hlx1 hlx2 hly1 hly2
  replace HB := Lib.hid (HB.out.trans (hb.mono HB.out.size))
  replace HRX := Lib.hid ((hb.block _ (block_lt HRX.out)).trans HRX.out)
  replace HRY := Lib.hid ((hb.block _ (block_lt HRY.out)).trans HRY.out)
  clear hb
  generalize u.val = w1 at *
  obtain ⟨f1, f2⟩ := row_loT 15 HRX.out rfl rfl
  go_wp2_with fail
  clear f1 f2
  refine (HRM.out _).mono ?_
  rintro e w2 ⟨rfl, hb⟩
  replace HB := Lib.hid (HB.out.trans (hb.mono HB.out.size))
  replace HRX := Lib.hid ((hb.block _ (block_lt HRX.out)).trans HRX.out)
  replace HRY := Lib.hid ((hb.block _ (block_lt HRY.out)).trans HRY.out)
  clear hb
  obtain ⟨f1, f2⟩ := row_loT 15 HRY.out rfl rfl
  go_wp2_with fail
  clear f1 f2
  refine (HRN.out _).mono ?_
  rintro e w3 ⟨rfl, hb⟩
  replace HB := Lib.hid (HB.out.trans (hb.mono HB.out.size))
  replace HRX := Lib.hid ((hb.block _ (block_lt HRX.out)).trans HRX.out)
  replace HRY := Lib.hid ((hb.block _ (block_lt HRY.out)).trans HRY.out)
  clear hb
  obtain ⟨f1, f2⟩ := row_loT 15 HRX.out rfl rfl
  go_wp2_with fail
  clear f1 f2
  refine (HYX.out _).mono ?_
  rintro e w4 ⟨q4, c4, rfl, hbs, hb⟩
  have HBX := Lib.hid hbs
  clear hbs
  replace HB := Lib.hid (HB.out.trans (hb.mono HB.out.size))
  replace HRX := Lib.hid ((hb.block _ (block_lt HRX.out)).trans HRX.out)
  replace HRY := Lib.hid ((hb.block _ (block_lt HRY.out)).trans HRY.out)
  clear hb
  obtain ⟨f1, f2⟩ := row_loT 15 HRY.out rfl rfl
  go_wp2_with fail
  clear f1 f2
  refine (HYY.out _).mono ?_
  rintro e w5 ⟨q5, c5, rfl, hbs, hb⟩
  have HBY := Lib.hid hbs
  clear hbs
  replace HB := Lib.hid (HB.out.trans (hb.mono HB.out.size))
  replace HRX := Lib.hid ((hb.block _ (block_lt HRX.out)).trans HRX.out)
  replace HRY := Lib.hid ((hb.block _ (block_lt HRY.out)).trans HRY.out)
  replace HBX := Lib.hid (HBX.out.below hb)
  clear hb
  go_upto_region 7 with fail
  have hlx := fun (u : Later w5) => row_loT 15 ((u.prop.block _ (block_lt HRX.out)).trans HRX.out) rfl rfl
  have hly := fun (u : Later w5) => row_loT 15 ((u.prop.block _ (block_lt HRY.out)).trans HRY.out) rfl rfl
  have hlx1 := fun u => (hlx u).1
  have hlx2 := fun u => (hlx u).2
  have hly1 := fun u => (hly u).1
  have hly2 := fun u => (hly u).2
  clear hlx hly
  have hcv1 := fun (u : Later w5) => (HBX.out.below u.prop).to_string
  have hcv2 := fun (u : Later w5) => (HBY.out.below u.prop).to_string
  have HTU := Lib.hid (fun (u : Later w5) => HT.out.below (HB.out.trans (u.prop.mono HB.out.size)))
  clear HBX HBY HYX HYY
  generalize (⟨(encLt x).toArray⟩ : ByteArray) = S1 at *
  generalize (⟨(textLt x).toArray⟩ : ByteArray) = T1 at *
  generalize (encLt x).length = n1 at *
  generalize (⟨(encLt y).toArray⟩ : ByteArray) = S2 at *
  generalize (⟨(textLt y).toArray⟩ : ByteArray) = T2 at *
  generalize (encLt y).length = n2 at *
  have hn1b : (S1.toList == S2.toList) = false := by rw [ByteArray.toList_eq, ByteArray.toList_eq, beq_eq_false_iff_ne]; exact fun h => hne1 (by obtain ⟨⟨a⟩⟩ := S1; obtain ⟨⟨b⟩⟩ := S2; simp at h; rw [h])
  have hn2b : (T1.toList == T2.toList) = false := by rw [ByteArray.toList_eq, ByteArray.toList_eq, beq_eq_false_iff_ne]; exact fun h => hne2 (by obtain ⟨⟨a⟩⟩ := T1; obtain ⟨⟨b⟩⟩ := T2; simp at h; rw [h])
  refine wp_region_later (by kernel_rfl) (by kernel_rfl) ?_
  repeat (go_big_quiet_step (first | (go_at_call 16; first | with_reducible exact later_call (HTX.out _ (HTU.out _)) | with_reducible exact later_call (HTY.out _ (HTU.out _))) | (go_at_call 13; exact later_call (known20_any _ (HTU.out _)))))
  refine wpQuiet_nil ?_
  rintro wz ⟨u, rfl⟩
  have HBZ := Lib.hid (HB.out.trans (u.prop.mono HB.out.size))
  clear hlx1 hlx2 hly1 hly2 hcv1 hcv2
  go_wp2_with fail
  go_ret
  exact ⟨rfl, HBZ.out⟩
end Go.Proofs.YtellhmbebimenaaDoor.letterApart
