/- RequestMails returns true for every two mails and all bytes, and leaves the memory that was there as it was. -/
import Derived.Test.YtbmphlpmipkpcaaGreatRma50
import Derived.Test.YtbmphlpmipkpcaaGreatRma51
import Derived.Test.YtbmphlpmipkpcaaGreatRows
import Derived.ProofKit

set_option linter.unusedVariables false
set_option linter.unusedSimpArgs false
namespace Go.Proofs.YtbmphlpmipkpcaaGreat.requestMails
open Go.ChangeShapes Go.WideShapes Go.ChangeAt Go.RowKit Go.Deep
attribute [local go_sem ↓] ml_execLoad ml_execStore

attribute [local go_sem] ml_load ml_store loL_drew okL_drew there_sc World.there_drew

set_option maxRecDepth 8000 in
set_option maxHeartbeats 4000000 in
theorem walkN (m o : Ml) (hm : m.wf) (hmay : m.may = false) (v : Value) (b : List UInt8) (w : World) (hv : BS w v b) : Calls Tryz.prog 9 #[.agg #[.int .i64 m.k, .int .u64 m.tk, .int .i64 m.c, .int .i64 m.d, .int .i64 m.co, .int .i64 m.fl, .int .i64 m.dy, .int .i64 m.va, .int .i64 m.st, .int .i64 m.ho, .int .u64 m.nx], .agg #[.int .i64 o.k, .int .u64 o.tk, .int .i64 o.c, .int .i64 o.d, .int .i64 o.co, .int .i64 o.fl, .int .i64 o.dy, .int .i64 o.va, .int .i64 o.st, .int .i64 o.ho, .int .u64 o.nx], v] w fun e w' => e = .returned (.bool true) ∧ Below w.heap.size w w' := by
  obtain ⟨p, n, cap, rfl⟩ : ∃ p n cap, v = .slice p n cap := by obtain ⟨p, cap, h, -⟩ := hv; exact ⟨p, _, cap, h⟩
  have HLB := Lib.hid hv.bounds'
  have HV := Lib.hid hv
  have hn9 : n ≤ 9223372036854775807 := by have h := HLB.out.2; unfold maxLen at h; omega
  have hb1 := (Below.refl w.heap.size w).alloc (Nat.le_refl _) (.cells #[.int .i64 m.k, .int .u64 m.tk, .int .i64 m.c, .int .i64 m.d, .int .i64 m.co, .int .i64 m.fl, .int .i64 m.dy, .int .i64 m.va, .int .i64 m.st, .int .i64 m.ho, .int .u64 m.nx] 78)
  have hr1 := new_rowW w (.cells #[.int .i64 m.k, .int .u64 m.tk, .int .i64 m.c, .int .i64 m.d, .int .i64 m.co, .int .i64 m.fl, .int .i64 m.dy, .int .i64 m.va, .int .i64 m.st, .int .i64 m.ho, .int .u64 m.nx] 78) _ rfl
  have hb2 := (Below.refl (w.alloc (.cells #[.int .i64 m.k, .int .u64 m.tk, .int .i64 m.c, .int .i64 m.d, .int .i64 m.co, .int .i64 m.fl, .int .i64 m.dy, .int .i64 m.va, .int .i64 m.st, .int .i64 m.ho, .int .u64 m.nx] 78)).heap.size (w.alloc (.cells #[.int .i64 m.k, .int .u64 m.tk, .int .i64 m.c, .int .i64 m.d, .int .i64 m.co, .int .i64 m.fl, .int .i64 m.dy, .int .i64 m.va, .int .i64 m.st, .int .i64 m.ho, .int .u64 m.nx] 78))).alloc (Nat.le_refl _) (.cells #[.int .i64 o.k, .int .u64 o.tk, .int .i64 o.c, .int .i64 o.d, .int .i64 o.co, .int .i64 o.fl, .int .i64 o.dy, .int .i64 o.va, .int .i64 o.st, .int .i64 o.ho, .int .u64 o.nx] 78)
  have hr2 := new_rowW (w.alloc (.cells #[.int .i64 m.k, .int .u64 m.tk, .int .i64 m.c, .int .i64 m.d, .int .i64 m.co, .int .i64 m.fl, .int .i64 m.dy, .int .i64 m.va, .int .i64 m.st, .int .i64 m.ho, .int .u64 m.nx] 78)) (.cells #[.int .i64 o.k, .int .u64 o.tk, .int .i64 o.c, .int .i64 o.d, .int .i64 o.co, .int .i64 o.fl, .int .i64 o.dy, .int .i64 o.va, .int .i64 o.st, .int .i64 o.ho, .int .u64 o.nx] 78) _ rfl
  have HRM := Lib.hid ((hb2.block _ (block_lt hr1)).trans hr1)
  have hsz : (w.alloc (.cells #[.int .i64 m.k, .int .u64 m.tk, .int .i64 m.c, .int .i64 m.d, .int .i64 m.co, .int .i64 m.fl, .int .i64 m.dy, .int .i64 m.va, .int .i64 m.st, .int .i64 m.ho, .int .u64 m.nx] 78)).heap.size = w.heap.size + 1 := by simp
  rw [hsz] at hr2
  have HB := Lib.hid (hb1.trans (hb2.mono hb1.size))
  have HRO := Lib.hid hr2
  clear hb1 hb2 hr1 hr2 hsz hv
  have HMA := Lib.hid (fun W => mayMail_any m.k m.tk m.c m.d m.co m.fl m.dy m.va m.st m.ho m.nx hm.tk hm.va W)
  have HRA := Lib.hid (fun W => rMayMail_any m.k m.tk m.c m.d m.co m.fl m.dy m.va m.st m.ho m.nx hm.tk W)
  have hmb : Ltr.mailB m.k m.tk m.c m.d m.co m.fl m.dy m.va m.st m.ho m.nx = false := hmay
  rw [hmb] at HMA HRA
  clear hmb
  have HOF := Lib.hid (fun W hl hW => mailOf_any (.slice p n cap) b hl W hW)
  have HRO16 := Lib.hid (fun W hW => rMailOf_any (.slice p n cap) b W hW)
  obtain ⟨zm, hzm⟩ : ∃ z, mOf b = z := ⟨_, rfl⟩
  obtain ⟨zk, hzk⟩ : ∃ z, okM b = z := ⟨_, rfl⟩
  rw [hzm, hzk] at HOF HRO16
  obtain ⟨ez, hez⟩ : ∃ e, (if zk = true then (0:Int) else 4) = e := ⟨_, rfl⟩
  rw [hez] at HOF
  have HZK := Lib.hid hez
  clear hez
  unfold Ml.arr at HOF HRO16
  clear hzm hzk
  have HS1 := Lib.hid (fun W => sameMail_any m o W)
  have HS2 := Lib.hid (fun W => sameMail_any m m W)
  rw [eqMl_self] at HS2
  have HE1 : ∀ W : World, (binOp .eql 78 (.agg #[.int .i64 m.k, .int .u64 m.tk, .int .i64 m.c, .int .i64 m.d, .int .i64 m.co, .int .i64 m.fl, .int .i64 m.dy, .int .i64 m.va, .int .i64 m.st, .int .i64 m.ho, .int .u64 m.nx]) (.agg #[.int .i64 o.k, .int .u64 o.tk, .int .i64 o.c, .int .i64 o.d, .int .i64 o.co, .int .i64 o.fl, .int .i64 o.dy, .int .i64 o.va, .int .i64 o.st, .int .i64 o.ho, .int .u64 o.nx])).run Tryz.prog W = .ok (.bool (eqMl m o)) W := fun W => eqM m.k m.tk m.c m.d m.co m.fl m.dy m.va m.st m.ho m.nx o.k o.tk o.c o.d o.co o.fl o.dy o.va o.st o.ho o.nx W
  have hG := guardM
  have hG2 := guardMn
  generalize eqMl m o = qo at *
  have HBY := Lib.hid (fun W => mailBytes_no m.k m.tk m.c m.d m.co m.fl m.dy m.va m.st m.ho m.nx hm.tk hm.va hmay W)
  have HEZ : ∀ W : World, (binOp .eql 78 (.agg #[.int .i64 zm.k, .int .u64 zm.tk, .int .i64 zm.c, .int .i64 zm.d, .int .i64 zm.co, .int .i64 zm.fl, .int .i64 zm.dy, .int .i64 zm.va, .int .i64 zm.st, .int .i64 zm.ho, .int .u64 zm.nx]) (.agg #[.int .i64 zm.k, .int .u64 zm.tk, .int .i64 zm.c, .int .i64 zm.d, .int .i64 zm.co, .int .i64 zm.fl, .int .i64 zm.dy, .int .i64 zm.va, .int .i64 zm.st, .int .i64 zm.ho, .int .u64 zm.nx])).run Tryz.prog W = .ok (.bool true) W := fun W => by have h := eqM zm.k zm.tk zm.c zm.d zm.co zm.fl zm.dy zm.va zm.st zm.ho zm.nx zm.k zm.tk zm.c zm.d zm.co zm.fl zm.dy zm.va zm.st zm.ho zm.nx W; rw [show Ltr.eqM zm.k zm.tk zm.c zm.d zm.co zm.fl zm.dy zm.va zm.st zm.ho zm.nx zm.k zm.tk zm.c zm.d zm.co zm.fl zm.dy zm.va zm.st zm.ho zm.nx = true from eqMl_self zm] at h; exact h
  clear hm hmay
  go_enter Tryz.func9, Tryz.ntmps9
  by_cases h300 : n ≤ 300
  · have h3b : ¬ (300 : Int) < n := by omega
    obtain ⟨f1, f2⟩ := row_loT 11 HRM.out rfl rfl
    go_wp2_with fail
    clear f1 f2
    refine (HBY.out _).mono ?_
    rintro e w1 ⟨rfl, hb⟩
    replace HRM := Lib.hid ((hb.block _ (block_lt HRM.out)).trans HRM.out)
    replace HRO := Lib.hid ((hb.block _ (block_lt HRO.out)).trans HRO.out)
    replace HB := Lib.hid (HB.out.trans (hb.mono HB.out.size))
    clear hb
    obtain ⟨f1, f2⟩ := row_loT 11 HRM.out rfl rfl
    go_wp2_with fail
    clear f1 f2
    refine (HRA.out _).mono ?_
    rintro e w2 ⟨rfl, hb⟩
    replace HRM := Lib.hid ((hb.block _ (block_lt HRM.out)).trans HRM.out)
    replace HRO := Lib.hid ((hb.block _ (block_lt HRO.out)).trans HRO.out)
    replace HB := Lib.hid (HB.out.trans (hb.mono HB.out.size))
    clear hb
    go_upto_region 5 with fail
    have f1 := fun (u : Later w2) => (row_loT 11 (g := w.heap.size) ((u.prop.block _ (block_lt HRM.out)).trans HRM.out) rfl rfl).1
    have f2 := fun (u : Later w2) => (row_loT 11 (g := w.heap.size) ((u.prop.block _ (block_lt HRM.out)).trans HRM.out) rfl rfl).2
    have f3 := fun (u : Later w2) => (row_loT 11 (g := w.heap.size + 1) ((u.prop.block _ (block_lt HRO.out)).trans HRO.out) rfl rfl).1
    have f4 := fun (u : Later w2) => (row_loT 11 (g := w.heap.size + 1) ((u.prop.block _ (block_lt HRO.out)).trans HRO.out) rfl rfl).2
    refine wp_region_later (by kernel_rfl) (by kernel_rfl) ?_
    repeat (go_big_quiet_step (first | (go_at_call 38; exact later_call (HMA.out _)) | (go_at_call 39; first | (with_reducible exact later_call (HS1.out _)) | (with_reducible exact later_call (HS2.out _)) | exact later_call (HS1.out _) | exact later_call (HS2.out _))))
    refine wpQuiet_nil ?_
    rintro w3 ⟨u, rfl⟩
    have hb := u.prop
    clear f1 f2 f3 f4
    replace HRM := Lib.hid ((hb.block _ (block_lt HRM.out)).trans HRM.out)
    replace HRO := Lib.hid ((hb.block _ (block_lt HRO.out)).trans HRO.out)
    replace HB := Lib.hid (HB.out.trans (hb.mono HB.out.size))
    clear hb
    generalize u.val = w3 at *
    have HVV := Lib.hid (HV.out.below HB.out)
    go_wp2_with fail
    refine (HOF.out _ (by have := HLB.out.1; omega) HVV.out).mono ?_
    rintro e w7 ⟨rfl, hb⟩
    replace HB := Lib.hid (HB.out.trans (hb.mono HB.out.size))
    clear hb
    have tc := there_newT (w := w7) (zs := [.int .i64 0, .int .u64 0, .int .i64 0, .int .i64 0, .int .i64 0, .int .i64 0, .int .i64 0, .int .i64 0, .int .i64 0, .int .i64 0, .int .u64 0]) (e := 78) (n := 11) rfl
    have c6n : ([.int .i64 zm.k, .int .u64 zm.tk, .int .i64 zm.c, .int .i64 zm.d, .int .i64 zm.co, .int .i64 zm.fl, .int .i64 zm.dy, .int .i64 zm.va, .int .i64 zm.st, .int .i64 zm.ho, .int .u64 zm.nx] : List Value).length = 11 := rfl
    have c6c : ([.int .i64 zm.k, .int .u64 zm.tk, .int .i64 zm.c, .int .i64 zm.d, .int .i64 zm.co, .int .i64 zm.fl, .int .i64 zm.dy, .int .i64 zm.va, .int .i64 zm.st, .int .i64 zm.ho, .int .u64 zm.nx] : List Value).all (·.oneCell') = true := rfl
    go_upto_region 14 with fail
    have HP := Lib.hid (putRec (W := w7) (e := 78) (zs := [.int .i64 0, .int .u64 0, .int .i64 0, .int .i64 0, .int .i64 0, .int .i64 0, .int .i64 0, .int .i64 0, .int .i64 0, .int .i64 0, .int .u64 0]) (cs := [.int .i64 zm.k, .int .u64 zm.tk, .int .i64 zm.c, .int .i64 zm.d, .int .i64 zm.co, .int .i64 zm.fl, .int .i64 zm.dy, .int .i64 zm.va, .int .i64 zm.st, .int .i64 zm.ho, .int .u64 zm.nx]) rfl)
    have hb := HP.out.2
    have HRZ := Lib.hid HP.out.1
    clear HP tc c6n c6c
    replace HB := Lib.hid (HB.out.trans (hb.mono HB.out.size))
    clear hb
    generalize (w7.alloc (.cells #[.int .i64 0, .int .u64 0, .int .i64 0, .int .i64 0, .int .i64 0, .int .i64 0, .int .i64 0, .int .i64 0, .int .i64 0, .int .i64 0, .int .u64 0] 78 (0, 0))).setCells w7.heap.size 0 [.int .i64 zm.k, .int .u64 zm.tk, .int .i64 zm.c, .int .i64 zm.d, .int .i64 zm.co, .int .i64 zm.fl, .int .i64 zm.dy, .int .i64 zm.va, .int .i64 zm.st, .int .i64 zm.ho, .int .u64 zm.nx] = w8 at *
    generalize w7.heap.size = gz at *
    replace HVV := Lib.hid (HV.out.below HB.out)
    go_wp2_with fail
    refine (HRO16.out _ HVV.out).mono ?_
    rintro e w10 ⟨rfl, hb⟩
    replace HRZ := Lib.hid ((hb.block _ (block_lt HRZ.out)).trans HRZ.out)
    replace HB := Lib.hid (HB.out.trans (hb.mono HB.out.size))
    clear hb
    have tc := there_newT (w := w10) (zs := [.int .i64 0, .int .u64 0, .int .i64 0, .int .i64 0, .int .i64 0, .int .i64 0, .int .i64 0, .int .i64 0, .int .i64 0, .int .i64 0, .int .u64 0]) (e := 78) (n := 11) rfl
    have c6n : ([.int .i64 zm.k, .int .u64 zm.tk, .int .i64 zm.c, .int .i64 zm.d, .int .i64 zm.co, .int .i64 zm.fl, .int .i64 zm.dy, .int .i64 zm.va, .int .i64 zm.st, .int .i64 zm.ho, .int .u64 zm.nx] : List Value).length = 11 := rfl
    have c6c : ([.int .i64 zm.k, .int .u64 zm.tk, .int .i64 zm.c, .int .i64 zm.d, .int .i64 zm.co, .int .i64 zm.fl, .int .i64 zm.dy, .int .i64 zm.va, .int .i64 zm.st, .int .i64 zm.ho, .int .u64 zm.nx] : List Value).all (·.oneCell') = true := rfl
    go_upto_region 15 with fail
    have HP := Lib.hid (putRec (W := w10) (e := 78) (zs := [.int .i64 0, .int .u64 0, .int .i64 0, .int .i64 0, .int .i64 0, .int .i64 0, .int .i64 0, .int .i64 0, .int .i64 0, .int .i64 0, .int .u64 0]) (cs := [.int .i64 zm.k, .int .u64 zm.tk, .int .i64 zm.c, .int .i64 zm.d, .int .i64 zm.co, .int .i64 zm.fl, .int .i64 zm.dy, .int .i64 zm.va, .int .i64 zm.st, .int .i64 zm.ho, .int .u64 zm.nx]) rfl)
    have hb := HP.out.2
    have HRW := Lib.hid HP.out.1
    clear HP tc c6n c6c
    replace HRZ := Lib.hid ((hb.block _ (block_lt HRZ.out)).trans HRZ.out)
    replace HB := Lib.hid (HB.out.trans (hb.mono HB.out.size))
    clear hb
    generalize (w10.alloc (.cells #[.int .i64 0, .int .u64 0, .int .i64 0, .int .i64 0, .int .i64 0, .int .i64 0, .int .i64 0, .int .i64 0, .int .i64 0, .int .i64 0, .int .u64 0] 78 (0, 0))).setCells w10.heap.size 0 [.int .i64 zm.k, .int .u64 zm.tk, .int .i64 zm.c, .int .i64 zm.d, .int .i64 zm.co, .int .i64 zm.fl, .int .i64 zm.dy, .int .i64 zm.va, .int .i64 zm.st, .int .i64 zm.ho, .int .u64 zm.nx] = w11 at *
    generalize w10.heap.size = gw at *
    obtain ⟨f1, f2⟩ := row_loT 11 HRZ.out rfl rfl
    obtain ⟨f3, f4⟩ := row_loT 11 HRW.out rfl rfl
    have hez2 : ez = if zk = true then (0:Int) else 4 := HZK.out.symm
    clear HZK
    cases zk
    · obtain rfl : ez = 4 := hez2
      go_wp2_with fail
      refine (known16_any _).mono ?_
      rintro e w12 ⟨rfl, hb⟩
      have HBF := Lib.hid (HB.out.trans (hb.mono HB.out.size))
      clear hb f1 f2 f3 f4
      go_wp2
      go_ret
      exact ⟨rfl, HBF.out⟩
    · obtain rfl : ez = 0 := hez2
      go_wp2_with fail
      refine (known16_any _).mono ?_
      rintro e w12 ⟨rfl, hb⟩
      have HBF := Lib.hid (HB.out.trans (hb.mono HB.out.size))
      clear hb f1 f2 f3 f4
      go_wp2
      go_ret
      exact ⟨rfl, HBF.out⟩
  · have h3 : ¬ (n : Int) ≤ 300 := by omega
    have h3b : (300 : Int) < n := by omega
    go_wp2_with fail
    refine (known16_any _).mono ?_
    rintro e w9 ⟨rfl, hb⟩
    have HB9 := Lib.hid (HB.out.trans (hb.mono HB.out.size))
    clear hb
    go_wp2
    go_ret
    exact ⟨rfl, HB9.out⟩
set_option maxRecDepth 8000 in
set_option maxHeartbeats 4000000 in
theorem walkY (m o : Ml) (hm : m.wf) (hmay : m.may = true) (v : Value) (b : List UInt8) (w : World) (hv : BS w v b) : Calls Tryz.prog 9 #[.agg #[.int .i64 m.k, .int .u64 m.tk, .int .i64 m.c, .int .i64 m.d, .int .i64 m.co, .int .i64 m.fl, .int .i64 m.dy, .int .i64 m.va, .int .i64 m.st, .int .i64 m.ho, .int .u64 m.nx], .agg #[.int .i64 o.k, .int .u64 o.tk, .int .i64 o.c, .int .i64 o.d, .int .i64 o.co, .int .i64 o.fl, .int .i64 o.dy, .int .i64 o.va, .int .i64 o.st, .int .i64 o.ho, .int .u64 o.nx], v] w fun e w' => e = .returned (.bool true) ∧ Below w.heap.size w w' := by
  obtain ⟨p, n, cap, rfl⟩ : ∃ p n cap, v = .slice p n cap := by obtain ⟨p, cap, h, -⟩ := hv; exact ⟨p, _, cap, h⟩
  have HLB := Lib.hid hv.bounds'
  have HV := Lib.hid hv
  have hn9 : n ≤ 9223372036854775807 := by have h := HLB.out.2; unfold maxLen at h; omega
  have hb1 := (Below.refl w.heap.size w).alloc (Nat.le_refl _) (.cells #[.int .i64 m.k, .int .u64 m.tk, .int .i64 m.c, .int .i64 m.d, .int .i64 m.co, .int .i64 m.fl, .int .i64 m.dy, .int .i64 m.va, .int .i64 m.st, .int .i64 m.ho, .int .u64 m.nx] 78)
  have hr1 := new_rowW w (.cells #[.int .i64 m.k, .int .u64 m.tk, .int .i64 m.c, .int .i64 m.d, .int .i64 m.co, .int .i64 m.fl, .int .i64 m.dy, .int .i64 m.va, .int .i64 m.st, .int .i64 m.ho, .int .u64 m.nx] 78) _ rfl
  have hb2 := (Below.refl (w.alloc (.cells #[.int .i64 m.k, .int .u64 m.tk, .int .i64 m.c, .int .i64 m.d, .int .i64 m.co, .int .i64 m.fl, .int .i64 m.dy, .int .i64 m.va, .int .i64 m.st, .int .i64 m.ho, .int .u64 m.nx] 78)).heap.size (w.alloc (.cells #[.int .i64 m.k, .int .u64 m.tk, .int .i64 m.c, .int .i64 m.d, .int .i64 m.co, .int .i64 m.fl, .int .i64 m.dy, .int .i64 m.va, .int .i64 m.st, .int .i64 m.ho, .int .u64 m.nx] 78))).alloc (Nat.le_refl _) (.cells #[.int .i64 o.k, .int .u64 o.tk, .int .i64 o.c, .int .i64 o.d, .int .i64 o.co, .int .i64 o.fl, .int .i64 o.dy, .int .i64 o.va, .int .i64 o.st, .int .i64 o.ho, .int .u64 o.nx] 78)
  have hr2 := new_rowW (w.alloc (.cells #[.int .i64 m.k, .int .u64 m.tk, .int .i64 m.c, .int .i64 m.d, .int .i64 m.co, .int .i64 m.fl, .int .i64 m.dy, .int .i64 m.va, .int .i64 m.st, .int .i64 m.ho, .int .u64 m.nx] 78)) (.cells #[.int .i64 o.k, .int .u64 o.tk, .int .i64 o.c, .int .i64 o.d, .int .i64 o.co, .int .i64 o.fl, .int .i64 o.dy, .int .i64 o.va, .int .i64 o.st, .int .i64 o.ho, .int .u64 o.nx] 78) _ rfl
  have HRM := Lib.hid ((hb2.block _ (block_lt hr1)).trans hr1)
  have hsz : (w.alloc (.cells #[.int .i64 m.k, .int .u64 m.tk, .int .i64 m.c, .int .i64 m.d, .int .i64 m.co, .int .i64 m.fl, .int .i64 m.dy, .int .i64 m.va, .int .i64 m.st, .int .i64 m.ho, .int .u64 m.nx] 78)).heap.size = w.heap.size + 1 := by simp
  rw [hsz] at hr2
  have HB := Lib.hid (hb1.trans (hb2.mono hb1.size))
  have HRO := Lib.hid hr2
  clear hb1 hb2 hr1 hr2 hsz hv
  have HMA := Lib.hid (fun W => mayMail_any m.k m.tk m.c m.d m.co m.fl m.dy m.va m.st m.ho m.nx hm.tk hm.va W)
  have HRA := Lib.hid (fun W => rMayMail_any m.k m.tk m.c m.d m.co m.fl m.dy m.va m.st m.ho m.nx hm.tk W)
  have hmb : Ltr.mailB m.k m.tk m.c m.d m.co m.fl m.dy m.va m.st m.ho m.nx = true := hmay
  rw [hmb] at HMA HRA
  clear hmb
  have HOF := Lib.hid (fun W hl hW => mailOf_any (.slice p n cap) b hl W hW)
  have HRO16 := Lib.hid (fun W hW => rMailOf_any (.slice p n cap) b W hW)
  obtain ⟨zm, hzm⟩ : ∃ z, mOf b = z := ⟨_, rfl⟩
  obtain ⟨zk, hzk⟩ : ∃ z, okM b = z := ⟨_, rfl⟩
  rw [hzm, hzk] at HOF HRO16
  obtain ⟨ez, hez⟩ : ∃ e, (if zk = true then (0:Int) else 4) = e := ⟨_, rfl⟩
  rw [hez] at HOF
  have HZK := Lib.hid hez
  clear hez
  unfold Ml.arr at HOF HRO16
  clear hzm hzk
  have HS1 := Lib.hid (fun W => sameMail_any m o W)
  have HS2 := Lib.hid (fun W => sameMail_any m m W)
  rw [eqMl_self] at HS2
  have HE1 : ∀ W : World, (binOp .eql 78 (.agg #[.int .i64 m.k, .int .u64 m.tk, .int .i64 m.c, .int .i64 m.d, .int .i64 m.co, .int .i64 m.fl, .int .i64 m.dy, .int .i64 m.va, .int .i64 m.st, .int .i64 m.ho, .int .u64 m.nx]) (.agg #[.int .i64 o.k, .int .u64 o.tk, .int .i64 o.c, .int .i64 o.d, .int .i64 o.co, .int .i64 o.fl, .int .i64 o.dy, .int .i64 o.va, .int .i64 o.st, .int .i64 o.ho, .int .u64 o.nx])).run Tryz.prog W = .ok (.bool (eqMl m o)) W := fun W => eqM m.k m.tk m.c m.d m.co m.fl m.dy m.va m.st m.ho m.nx o.k o.tk o.c o.d o.co o.fl o.dy o.va o.st o.ho o.nx W
  have hG := guardM
  have hG2 := guardMn
  generalize eqMl m o = qo at *
  have HBY : Hid (∀ W : World, Calls Tryz.prog 36 #[.agg #[.int .i64 m.k, .int .u64 m.tk, .int .i64 m.c, .int .i64 m.d, .int .i64 m.co, .int .i64 m.fl, .int .i64 m.dy, .int .i64 m.va, .int .i64 m.st, .int .i64 m.ho, .int .u64 m.nx]] W fun e w' => ∃ u, e = .returned (.tuple #[u, .int .i64 0]) ∧ w'.ownsRow W.heap.size 5 1 u (encM m).length (bytesV (encM m)) ∧ Below W.heap.size W w') := Lib.hid (fun W => mailBytes_yes m hm.tk hm.va hmay W)
  have HRB : Hid (∀ W : World, Calls Tryz.prog 41 #[.agg #[.int .i64 m.k, .int .u64 m.tk, .int .i64 m.c, .int .i64 m.d, .int .i64 m.co, .int .i64 m.fl, .int .i64 m.dy, .int .i64 m.va, .int .i64 m.st, .int .i64 m.ho, .int .u64 m.nx]] W fun e w' => ∃ u, e = .returned u ∧ w'.ownsRow W.heap.size 5 1 u (encM m).length (bytesV (encM m)) ∧ Below W.heap.size W w') := Lib.hid (fun W => rMailB_any m hm.tk hmay W)
  have HLE := Lib.hid (encM_len m)
  have HOE : Hid (∀ W v, BS W v (encM m) → Calls Tryz.prog 40 #[v] W fun e w' => e = .returned (.tuple #[.agg #[.int .i64 m.k, .int .u64 m.tk, .int .i64 m.c, .int .i64 m.d, .int .i64 m.co, .int .i64 m.fl, .int .i64 m.dy, .int .i64 m.va, .int .i64 m.st, .int .i64 m.ho, .int .u64 m.nx], .int .i64 0]) ∧ Below W.heap.size W w') := Lib.hid (fun W v hv => by
    have h := mailOf_any v (encM m) (by have := HLE.out; omega) W hv
    rw [(okM_enc hm.tk hmay).1, (okM_enc hm.tk hmay).2, if_pos rfl] at h
    exact h)
  have HN2 := Lib.hid (fun W => neqMl m m W)
  rw [eqMl_self] at HN2
  have hn2 := HN2.out
  obtain ⟨S, hS⟩ : ∃ S : ByteArray, ⟨(encM m).toArray⟩ = S := ⟨_, rfl⟩
  have HSV : Hid (∀ W v, BS W v (encM m) → (convert 47 9 v).run Tryz.prog W = .ok (.string S) W) := Lib.hid (fun W v hv => by rw [← hS]; exact hv.to_string)
  clear hS HN2
  have HEZ : ∀ W : World, (binOp .eql 78 (.agg #[.int .i64 zm.k, .int .u64 zm.tk, .int .i64 zm.c, .int .i64 zm.d, .int .i64 zm.co, .int .i64 zm.fl, .int .i64 zm.dy, .int .i64 zm.va, .int .i64 zm.st, .int .i64 zm.ho, .int .u64 zm.nx]) (.agg #[.int .i64 zm.k, .int .u64 zm.tk, .int .i64 zm.c, .int .i64 zm.d, .int .i64 zm.co, .int .i64 zm.fl, .int .i64 zm.dy, .int .i64 zm.va, .int .i64 zm.st, .int .i64 zm.ho, .int .u64 zm.nx])).run Tryz.prog W = .ok (.bool true) W := fun W => by have h := eqM zm.k zm.tk zm.c zm.d zm.co zm.fl zm.dy zm.va zm.st zm.ho zm.nx zm.k zm.tk zm.c zm.d zm.co zm.fl zm.dy zm.va zm.st zm.ho zm.nx W; rw [show Ltr.eqM zm.k zm.tk zm.c zm.d zm.co zm.fl zm.dy zm.va zm.st zm.ho zm.nx zm.k zm.tk zm.c zm.d zm.co zm.fl zm.dy zm.va zm.st zm.ho zm.nx = true from eqMl_self zm] at h; exact h
  clear hm hmay
  go_enter Tryz.func9, Tryz.ntmps9
  by_cases h300 : n ≤ 300
  · have h3b : ¬ (300 : Int) < n := by omega
    obtain ⟨f1, f2⟩ := row_loT 11 HRM.out rfl rfl
    go_wp2_with fail
    clear f1 f2
    refine (HBY.out _).mono ?_
    rintro e w1 ⟨u, rfl, ho, hb⟩
    have HOB := Lib.hid (BS.of_own ho)
    obtain ⟨qb, cb, hu⟩ := rec_formT ho
    subst hu
    clear ho
    replace HRM := Lib.hid ((hb.block _ (block_lt HRM.out)).trans HRM.out)
    replace HRO := Lib.hid ((hb.block _ (block_lt HRO.out)).trans HRO.out)
    replace HB := Lib.hid (HB.out.trans (hb.mono HB.out.size))
    clear hb
    obtain ⟨f1, f2⟩ := row_loT 11 HRM.out rfl rfl
    go_wp2_with fail
    clear f1 f2
    refine (HRA.out _).mono ?_
    rintro e w2 ⟨rfl, hb⟩
    replace HRM := Lib.hid ((hb.block _ (block_lt HRM.out)).trans HRM.out)
    replace HRO := Lib.hid ((hb.block _ (block_lt HRO.out)).trans HRO.out)
    replace HOB := Lib.hid (HOB.out.below hb)
    replace HB := Lib.hid (HB.out.trans (hb.mono HB.out.size))
    clear hb
    go_upto_region 5 with fail
    have f1 := fun (u : Later w2) => (row_loT 11 (g := w.heap.size) ((u.prop.block _ (block_lt HRM.out)).trans HRM.out) rfl rfl).1
    have f2 := fun (u : Later w2) => (row_loT 11 (g := w.heap.size) ((u.prop.block _ (block_lt HRM.out)).trans HRM.out) rfl rfl).2
    have f3 := fun (u : Later w2) => (row_loT 11 (g := w.heap.size + 1) ((u.prop.block _ (block_lt HRO.out)).trans HRO.out) rfl rfl).1
    have f4 := fun (u : Later w2) => (row_loT 11 (g := w.heap.size + 1) ((u.prop.block _ (block_lt HRO.out)).trans HRO.out) rfl rfl).2
    refine wp_region_later (by kernel_rfl) (by kernel_rfl) ?_
    repeat (go_big_quiet_step (first | (go_at_call 38; exact later_call (HMA.out _)) | (go_at_call 39; first | (with_reducible exact later_call (HS1.out _)) | (with_reducible exact later_call (HS2.out _)) | exact later_call (HS1.out _) | exact later_call (HS2.out _))))
    refine wpQuiet_nil ?_
    rintro w3 ⟨u, rfl⟩
    have hb := u.prop
    clear f1 f2 f3 f4
    replace HRM := Lib.hid ((hb.block _ (block_lt HRM.out)).trans HRM.out)
    replace HRO := Lib.hid ((hb.block _ (block_lt HRO.out)).trans HRO.out)
    replace HOB := Lib.hid (HOB.out.below hb)
    replace HB := Lib.hid (HB.out.trans (hb.mono HB.out.size))
    clear hb
    generalize u.val = w3 at *
    go_wp2_with fail
    refine (HOE.out _ _ HOB.out).mono ?_
    rintro e w4 ⟨rfl, hb⟩
    replace HRM := Lib.hid ((hb.block _ (block_lt HRM.out)).trans HRM.out)
    replace HRO := Lib.hid ((hb.block _ (block_lt HRO.out)).trans HRO.out)
    replace HOB := Lib.hid (HOB.out.below hb)
    replace HB := Lib.hid (HB.out.trans (hb.mono HB.out.size))
    clear hb
    have tc := there_newT (w := w4) (zs := [.int .i64 0, .int .u64 0, .int .i64 0, .int .i64 0, .int .i64 0, .int .i64 0, .int .i64 0, .int .i64 0, .int .i64 0, .int .i64 0, .int .u64 0]) (e := 78) (n := 11) rfl
    have c6n : ([.int .i64 m.k, .int .u64 m.tk, .int .i64 m.c, .int .i64 m.d, .int .i64 m.co, .int .i64 m.fl, .int .i64 m.dy, .int .i64 m.va, .int .i64 m.st, .int .i64 m.ho, .int .u64 m.nx] : List Value).length = 11 := rfl
    have c6c : ([.int .i64 m.k, .int .u64 m.tk, .int .i64 m.c, .int .i64 m.d, .int .i64 m.co, .int .i64 m.fl, .int .i64 m.dy, .int .i64 m.va, .int .i64 m.st, .int .i64 m.ho, .int .u64 m.nx] : List Value).all (·.oneCell') = true := rfl
    go_upto_region 9 with fail
    have HP := Lib.hid (putRec (W := w4) (e := 78) (zs := [.int .i64 0, .int .u64 0, .int .i64 0, .int .i64 0, .int .i64 0, .int .i64 0, .int .i64 0, .int .i64 0, .int .i64 0, .int .i64 0, .int .u64 0]) (cs := [.int .i64 m.k, .int .u64 m.tk, .int .i64 m.c, .int .i64 m.d, .int .i64 m.co, .int .i64 m.fl, .int .i64 m.dy, .int .i64 m.va, .int .i64 m.st, .int .i64 m.ho, .int .u64 m.nx]) rfl)
    have hb := HP.out.2
    have HRY := Lib.hid HP.out.1
    clear HP tc c6n c6c
    replace HRM := Lib.hid ((hb.block _ (block_lt HRM.out)).trans HRM.out)
    replace HRO := Lib.hid ((hb.block _ (block_lt HRO.out)).trans HRO.out)
    replace HOB := Lib.hid (HOB.out.below hb)
    replace HB := Lib.hid (HB.out.trans (hb.mono HB.out.size))
    clear hb
    generalize (w4.alloc (.cells #[.int .i64 0, .int .u64 0, .int .i64 0, .int .i64 0, .int .i64 0, .int .i64 0, .int .i64 0, .int .i64 0, .int .i64 0, .int .i64 0, .int .u64 0] 78 (0, 0))).setCells w4.heap.size 0 [.int .i64 m.k, .int .u64 m.tk, .int .i64 m.c, .int .i64 m.d, .int .i64 m.co, .int .i64 m.fl, .int .i64 m.dy, .int .i64 m.va, .int .i64 m.st, .int .i64 m.ho, .int .u64 m.nx] = w5 at *
    generalize w4.heap.size = gy at *
    refine wp_region_G (C := fun W => ((loL 11 W w.heap.size 0 = [.int .i64 m.k, .int .u64 m.tk, .int .i64 m.c, .int .i64 m.d, .int .i64 m.co, .int .i64 m.fl, .int .i64 m.dy, .int .i64 m.va, .int .i64 m.st, .int .i64 m.ho, .int .u64 m.nx] ∧ okL 11 W w.heap.size 0) ∧ (loL 11 W gy 0 = [.int .i64 m.k, .int .u64 m.tk, .int .i64 m.c, .int .i64 m.d, .int .i64 m.co, .int .i64 m.fl, .int .i64 m.dy, .int .i64 m.va, .int .i64 m.st, .int .i64 m.ho, .int .u64 m.nx] ∧ okL 11 W gy 0)) ∧ (convert 47 9 (.slice qb (encM m).length cb)).run Tryz.prog W = .ok (.string S) W) (s0 := 18) (by kernel_rfl) ?_
    have hb := (Below.refl w5.heap.size w5).drew
    replace HRM := Lib.hid ((hb.block _ (block_lt HRM.out)).trans HRM.out)
    replace HRO := Lib.hid ((hb.block _ (block_lt HRO.out)).trans HRO.out)
    replace HRY := Lib.hid ((hb.block _ (block_lt HRY.out)).trans HRY.out)
    replace HOB := Lib.hid (HOB.out.below hb)
    replace HB := Lib.hid (HB.out.trans (hb.mono HB.out.size))
    clear hb
    generalize w5.drew = wd at *
    have hHeld := (show ((loL 11 wd w.heap.size 0 = [.int .i64 m.k, .int .u64 m.tk, .int .i64 m.c, .int .i64 m.d, .int .i64 m.co, .int .i64 m.fl, .int .i64 m.dy, .int .i64 m.va, .int .i64 m.st, .int .i64 m.ho, .int .u64 m.nx] ∧ okL 11 wd w.heap.size 0) ∧ (loL 11 wd gy 0 = [.int .i64 m.k, .int .u64 m.tk, .int .i64 m.c, .int .i64 m.d, .int .i64 m.co, .int .i64 m.fl, .int .i64 m.dy, .int .i64 m.va, .int .i64 m.st, .int .i64 m.ho, .int .u64 m.nx] ∧ okL 11 wd gy 0)) ∧ (convert 47 9 (.slice qb (encM m).length cb)).run Tryz.prog wd = .ok (.string S) wd from ⟨⟨row_loT 11 HRM.out rfl rfl, row_loT 11 HRY.out rfl rfl⟩, HSV.out _ _ HOB.out⟩)
    refine wpAnyG_takeU (i := 0) (oi := { dst := some 52, op := Op.move (Operand.tmp 8), type := 39, pos := "law.go:129", after := #[], guard := none }) (v := ?_) rfl (by kernel_rfl) (by kernel_rfl) (by kernel_rfl) (by decide) (fun _ _ _ h => h) (Or.inl ⟨by rfl, ?_⟩) (.inl (by assumption)) ?_
    rotate_left
    · intro w hSw; go_simp; try with_reducible rfl
    try simp only [Act.put, List.setIfInBounds_toArray, List.set_cons_zero, List.set_cons_succ]
    refine wpAnyG_takeU (i := 1) (oi := { dst := some 53, op := Op.binOp BinOp.neq 39 (Operand.tmp 52) (Operand.const (Value.int IntKind.i64 0)) 39, type := 4, pos := "law.go:129", after := #[{ on := 0, ground := Ground.data }], guard := none }) (v := ?_) rfl (by kernel_rfl) (by kernel_rfl) (by kernel_rfl) (by decide) (fun _ _ _ h => h) (Or.inl ⟨by rfl, ?_⟩) (.inl (by assumption)) ?_
    rotate_left
    · intro w hSw; go_simp; try with_reducible rfl
    try simp only [Act.put, List.setIfInBounds_toArray, List.set_cons_zero, List.set_cons_succ]
    refine wpAnyG_takeU (i := 2) (oi := { dst := some 54, op := Op.move (Operand.tmp 53), type := 4, pos := "law.go:129", after := #[{ on := 1, ground := Ground.data }], guard := none }) (v := ?_) rfl (by kernel_rfl) (by kernel_rfl) (by kernel_rfl) (by decide) (fun _ _ _ h => h) (Or.inl ⟨by rfl, ?_⟩) (.inl (by assumption)) ?_
    rotate_left
    · intro w hSw; go_simp; try with_reducible rfl
    try simp only [Act.put, List.setIfInBounds_toArray, List.set_cons_zero, List.set_cons_succ]
    refine wpAnyG_takeU (i := 3) (oi := { dst := some 55, op := Op.move (Operand.tmp 11), type := 39, pos := "law.go:129", after := #[{ on := 2, ground := Ground.guard }], guard := some (2, false) }) (v := ?_) rfl (by kernel_rfl) (by kernel_rfl) (by kernel_rfl) (by decide) (fun _ _ _ h => h) (Or.inl ⟨by rfl, ?_⟩) (.inl (by assumption)) ?_
    rotate_left
    · intro w hSw; go_simp; try with_reducible rfl
    try simp only [Act.put, List.setIfInBounds_toArray, List.set_cons_zero, List.set_cons_succ]
    refine wpAnyG_takeU (i := 4) (oi := { dst := some 56, op := Op.binOp BinOp.neq 39 (Operand.tmp 55) (Operand.const (Value.int IntKind.i64 0)) 39, type := 4, pos := "law.go:129", after := #[{ on := 3, ground := Ground.data }, { on := 2, ground := Ground.guard }], guard := some (2, false) }) (v := ?_) rfl (by kernel_rfl) (by kernel_rfl) (by kernel_rfl) (by decide) (fun _ _ _ h => h) (Or.inl ⟨by rfl, ?_⟩) (.inl (by assumption)) ?_
    rotate_left
    · intro w hSw; go_simp; try with_reducible rfl
    try simp only [Act.put, List.setIfInBounds_toArray, List.set_cons_zero, List.set_cons_succ]
    refine wpAnyG_takeU (i := 5) (oi := { dst := some 57, op := Op.pick (Operand.tmp 54) (Operand.const (Value.bool true)) (Operand.tmp 56), type := 4, pos := "law.go:129", after := #[{ on := 2, ground := Ground.data }, { on := 4, ground := Ground.data }], guard := none }) (v := ?_) rfl (by kernel_rfl) (by kernel_rfl) (by kernel_rfl) (by decide) (fun _ _ _ h => h) (Or.inl ⟨by rfl, ?_⟩) (.inl (by assumption)) ?_
    rotate_left
    · intro w hSw; go_simp; try with_reducible rfl
    try simp only [Act.put, List.setIfInBounds_toArray, List.set_cons_zero, List.set_cons_succ]
    refine wpAnyG_takeU (i := 6) (oi := { dst := some 58, op := Op.move (Operand.tmp 57), type := 4, pos := "law.go:129", after := #[{ on := 5, ground := Ground.data }, { on := 2, ground := Ground.chain }], guard := none }) (v := ?_) rfl (by kernel_rfl) (by kernel_rfl) (by kernel_rfl) (by decide) (fun _ _ _ h => h) (Or.inl ⟨by rfl, ?_⟩) (.inl (by assumption)) ?_
    rotate_left
    · intro w hSw; go_simp; try with_reducible rfl
    try simp only [Act.put, List.setIfInBounds_toArray, List.set_cons_zero, List.set_cons_succ]
    refine wpAnyG_takeM (i := 7) (oi := { dst := some 59, op := Op.load 78 (Operand.tmp 10), type := 78, pos := "law.go:129", after := #[{ on := 6, ground := Ground.guard }], guard := some (6, false) }) (v := ?_) (ms := [9, 10, 11, 12, 13, 14, 15, 16, 17, 18]) rfl (by kernel_rfl) (by kernel_rfl) (by kernel_rfl) (by kernel_rfl) (by kernel_rfl) (fun _ _ _ h => h) (Or.inl ⟨by rfl, ?_⟩) (by assumption) ?_
    rotate_left
    · intro w hSw; (try dsimp only at hSw); go_simp; try with_reducible rfl
    try simp only [Act.put, List.setIfInBounds_toArray, List.set_cons_zero, List.set_cons_succ]
    refine wpAnyG_takeM (i := 8) (oi := { dst := some 60, op := Op.load 78 (Operand.tmp 3), type := 78, pos := "law.go:129", after := #[{ on := 6, ground := Ground.guard }], guard := some (6, false) }) (v := ?_) (ms := [9, 10, 11, 12, 13, 14, 15, 16, 17, 18]) rfl (by kernel_rfl) (by kernel_rfl) (by kernel_rfl) (by kernel_rfl) (by kernel_rfl) (fun _ _ _ h => h) (Or.inl ⟨by rfl, ?_⟩) (by assumption) ?_
    rotate_left
    · intro w hSw; (try dsimp only at hSw); go_simp; try with_reducible rfl
    try simp only [Act.put, List.setIfInBounds_toArray, List.set_cons_zero, List.set_cons_succ]
    refine wpAnyG_takeU (i := 9) (oi := { dst := some 61, op := Op.binOp BinOp.neq 78 (Operand.tmp 59) (Operand.tmp 60) 78, type := 4, pos := "law.go:129", after := #[{ on := 7, ground := Ground.data }, { on := 8, ground := Ground.data }, { on := 6, ground := Ground.guard }], guard := some (6, false) }) (v := ?_) rfl (by kernel_rfl) (by kernel_rfl) (by kernel_rfl) (by decide) (fun _ _ _ h => h) (Or.inl ⟨by rfl, ?_⟩) (.inl (by assumption)) ?_
    rotate_left
    · intro w hSw; go_simp; try with_reducible rfl
    try simp only [Act.put, List.setIfInBounds_toArray, List.set_cons_zero, List.set_cons_succ]
    refine wpAnyG_takeU (i := 10) (oi := { dst := some 62, op := Op.pick (Operand.tmp 58) (Operand.const (Value.bool true)) (Operand.tmp 61), type := 4, pos := "law.go:129", after := #[{ on := 6, ground := Ground.data }, { on := 9, ground := Ground.data }], guard := none }) (v := ?_) rfl (by kernel_rfl) (by kernel_rfl) (by kernel_rfl) (by decide) (fun _ _ _ h => h) (Or.inl ⟨by rfl, ?_⟩) (.inl (by assumption)) ?_
    rotate_left
    · intro w hSw; go_simp; try with_reducible rfl
    try simp only [Act.put, List.setIfInBounds_toArray, List.set_cons_zero, List.set_cons_succ]
    refine wpAnyG_takeU (i := 11) (oi := { dst := some 63, op := Op.move (Operand.tmp 62), type := 4, pos := "law.go:129", after := #[{ on := 10, ground := Ground.data }, { on := 6, ground := Ground.chain }], guard := none }) (v := ?_) rfl (by kernel_rfl) (by kernel_rfl) (by kernel_rfl) (by decide) (fun _ _ _ h => h) (Or.inl ⟨by rfl, ?_⟩) (.inl (by assumption)) ?_
    rotate_left
    · intro w hSw; go_simp; try with_reducible rfl
    try simp only [Act.put, List.setIfInBounds_toArray, List.set_cons_zero, List.set_cons_succ]
    refine wpAnyG_takeU (i := 12) (oi := { dst := some 64, op := Op.move (Operand.tmp 7), type := 47, pos := "law.go:129", after := #[{ on := 11, ground := Ground.guard }], guard := some (11, false) }) (v := ?_) rfl (by kernel_rfl) (by kernel_rfl) (by kernel_rfl) (by decide) (fun _ _ _ h => h) (Or.inl ⟨by rfl, ?_⟩) (.inl (by assumption)) ?_
    rotate_left
    · intro w hSw; go_simp; try with_reducible rfl
    try simp only [Act.put, List.setIfInBounds_toArray, List.set_cons_zero, List.set_cons_succ]
    refine wpAnyG_takeM (i := 13) (oi := { dst := some 65, op := Op.convert 47 9 (Operand.tmp 64), type := 9, pos := "law.go:129", after := #[{ on := 12, ground := Ground.data }, { on := 11, ground := Ground.guard }], guard := some (11, false) }) (v := ?_) (ms := [17, 18]) rfl (by kernel_rfl) (by kernel_rfl) (by kernel_rfl) (by kernel_rfl) (by kernel_rfl) (fun _ _ _ h => h) (Or.inl ⟨by rfl, ?_⟩) (by assumption) ?_
    rotate_left
    · intro w hSw; (try dsimp only at hSw); go_simp; try with_reducible rfl
    try simp only [Act.put, List.setIfInBounds_toArray, List.set_cons_zero, List.set_cons_succ]
    refine wpAnyG_takeM (i := 14) (oi := { dst := some 66, op := Op.load 78 (Operand.tmp 3), type := 78, pos := "law.go:129", after := #[{ on := 11, ground := Ground.guard }], guard := some (11, false) }) (v := ?_) (ms := [15, 16, 17, 18]) rfl (by kernel_rfl) (by kernel_rfl) (by kernel_rfl) (by kernel_rfl) (by kernel_rfl) (fun _ _ _ h => h) (Or.inl ⟨by rfl, ?_⟩) (by assumption) ?_
    rotate_left
    · intro w hSw; (try dsimp only at hSw); go_simp; try with_reducible rfl
    try simp only [Act.put, List.setIfInBounds_toArray, List.set_cons_zero, List.set_cons_succ]
    refine wpAnyG_one (i := 15) (o := { dst := some 67, op := Op.call { callee := Callee.value (Operand.func 41), args := #[Operand.tmp 66], argTypes := #[78] }, type := 47, pos := "law.go:129", after := #[{ on := 14, ground := Ground.data }, { on := 11, ground := Ground.chain }, { on := 11, ground := Ground.guard }], guard := some (11, false) }) (by kernel_rfl) rfl (fun K hK => ?_)
    go_simp
    refine (HRB.out _).mono ?_
    rintro e wn ⟨v2, rfl, ho2, hb⟩
    have HO2 := Lib.hid (BS.of_own ho2)
    clear ho2 hHeld
    replace HRM := Lib.hid ((hb.block _ (block_lt HRM.out)).trans HRM.out)
    replace HRO := Lib.hid ((hb.block _ (block_lt HRO.out)).trans HRO.out)
    replace HRY := Lib.hid ((hb.block _ (block_lt HRY.out)).trans HRY.out)
    replace HOB := Lib.hid (HOB.out.below hb)
    replace HB := Lib.hid (HB.out.trans (hb.mono HB.out.size))
    clear hb
    have hHeld := (show ((loL 11 wn w.heap.size 0 = [.int .i64 m.k, .int .u64 m.tk, .int .i64 m.c, .int .i64 m.d, .int .i64 m.co, .int .i64 m.fl, .int .i64 m.dy, .int .i64 m.va, .int .i64 m.st, .int .i64 m.ho, .int .u64 m.nx] ∧ okL 11 wn w.heap.size 0) ∧ (loL 11 wn gy 0 = [.int .i64 m.k, .int .u64 m.tk, .int .i64 m.c, .int .i64 m.d, .int .i64 m.co, .int .i64 m.fl, .int .i64 m.dy, .int .i64 m.va, .int .i64 m.st, .int .i64 m.ho, .int .u64 m.nx] ∧ okL 11 wn gy 0)) ∧ (convert 47 9 (.slice qb (encM m).length cb)).run Tryz.prog wn = .ok (.string S) wn from ⟨⟨row_loT 11 HRM.out rfl rfl, row_loT 11 HRY.out rfl rfl⟩, HSV.out _ _ HOB.out⟩)
    refine hK.out _ _ (.inl hHeld) ?_
    clear hK K
    try simp only [Act.put, List.setIfInBounds_toArray, List.set_cons_zero, List.set_cons_succ]
    generalize wn = w6 at *
    refine wpAnyG_one (i := 16) (o := { dst := some 68, op := Op.convert 47 9 (Operand.tmp 67), type := 9, pos := "law.go:129", after := #[{ on := 15, ground := Ground.data }, { on := 11, ground := Ground.guard }], guard := some (11, false) }) (by kernel_rfl) rfl (fun K hK => ?_)
    have hcv := HSV.out _ _ HO2.out
    go_simp
    refine hK.out _ _ (.inl hHeld) ?_
    clear hK K
    try simp only [Act.put, List.setIfInBounds_toArray, List.set_cons_zero, List.set_cons_succ]
    clear hcv
    refine wpAnyG_takeU (i := 17) (oi := { dst := some 69, op := Op.binOp BinOp.neq 9 (Operand.tmp 65) (Operand.tmp 68) 9, type := 4, pos := "law.go:129", after := #[{ on := 13, ground := Ground.data }, { on := 16, ground := Ground.data }, { on := 11, ground := Ground.guard }], guard := some (11, false) }) (v := ?_) rfl (by kernel_rfl) (by kernel_rfl) (by kernel_rfl) (by decide) (fun _ _ _ h => h) (Or.inl ⟨by rfl, ?_⟩) (.inl (by assumption)) ?_
    rotate_left
    · intro w hSw; go_simp; try with_reducible rfl
    try simp only [Act.put, List.setIfInBounds_toArray, List.set_cons_zero, List.set_cons_succ]
    refine wpAnyG_one (i := 18) (o := { dst := some 70, op := Op.pick (Operand.tmp 63) (Operand.const (Value.bool true)) (Operand.tmp 69), type := 4, pos := "law.go:129", after := #[{ on := 11, ground := Ground.data }, { on := 17, ground := Ground.data }], guard := none }) (by kernel_rfl) rfl (fun K hK => ?_)
    go_simp
    refine hK.out _ _ (.inr rfl) ?_
    clear hK K
    try simp only [Act.put, List.setIfInBounds_toArray, List.set_cons_zero, List.set_cons_succ]
    refine wpAnyG_done (by kernel_rfl) ?_ _
    clear hHeld
    skip
    have HVV := Lib.hid (HV.out.below HB.out)
    go_wp2_with fail
    refine (HOF.out _ (by have := HLB.out.1; omega) HVV.out).mono ?_
    rintro e w7 ⟨rfl, hb⟩
    replace HB := Lib.hid (HB.out.trans (hb.mono HB.out.size))
    clear hb
    have tc := there_newT (w := w7) (zs := [.int .i64 0, .int .u64 0, .int .i64 0, .int .i64 0, .int .i64 0, .int .i64 0, .int .i64 0, .int .i64 0, .int .i64 0, .int .i64 0, .int .u64 0]) (e := 78) (n := 11) rfl
    have c6n : ([.int .i64 zm.k, .int .u64 zm.tk, .int .i64 zm.c, .int .i64 zm.d, .int .i64 zm.co, .int .i64 zm.fl, .int .i64 zm.dy, .int .i64 zm.va, .int .i64 zm.st, .int .i64 zm.ho, .int .u64 zm.nx] : List Value).length = 11 := rfl
    have c6c : ([.int .i64 zm.k, .int .u64 zm.tk, .int .i64 zm.c, .int .i64 zm.d, .int .i64 zm.co, .int .i64 zm.fl, .int .i64 zm.dy, .int .i64 zm.va, .int .i64 zm.st, .int .i64 zm.ho, .int .u64 zm.nx] : List Value).all (·.oneCell') = true := rfl
    go_upto_region 14 with fail
    have HP := Lib.hid (putRec (W := w7) (e := 78) (zs := [.int .i64 0, .int .u64 0, .int .i64 0, .int .i64 0, .int .i64 0, .int .i64 0, .int .i64 0, .int .i64 0, .int .i64 0, .int .i64 0, .int .u64 0]) (cs := [.int .i64 zm.k, .int .u64 zm.tk, .int .i64 zm.c, .int .i64 zm.d, .int .i64 zm.co, .int .i64 zm.fl, .int .i64 zm.dy, .int .i64 zm.va, .int .i64 zm.st, .int .i64 zm.ho, .int .u64 zm.nx]) rfl)
    have hb := HP.out.2
    have HRZ := Lib.hid HP.out.1
    clear HP tc c6n c6c
    replace HB := Lib.hid (HB.out.trans (hb.mono HB.out.size))
    clear hb
    generalize (w7.alloc (.cells #[.int .i64 0, .int .u64 0, .int .i64 0, .int .i64 0, .int .i64 0, .int .i64 0, .int .i64 0, .int .i64 0, .int .i64 0, .int .i64 0, .int .u64 0] 78 (0, 0))).setCells w7.heap.size 0 [.int .i64 zm.k, .int .u64 zm.tk, .int .i64 zm.c, .int .i64 zm.d, .int .i64 zm.co, .int .i64 zm.fl, .int .i64 zm.dy, .int .i64 zm.va, .int .i64 zm.st, .int .i64 zm.ho, .int .u64 zm.nx] = w8 at *
    generalize w7.heap.size = gz at *
    replace HVV := Lib.hid (HV.out.below HB.out)
    go_wp2_with fail
    refine (HRO16.out _ HVV.out).mono ?_
    rintro e w10 ⟨rfl, hb⟩
    replace HRZ := Lib.hid ((hb.block _ (block_lt HRZ.out)).trans HRZ.out)
    replace HB := Lib.hid (HB.out.trans (hb.mono HB.out.size))
    clear hb
    have tc := there_newT (w := w10) (zs := [.int .i64 0, .int .u64 0, .int .i64 0, .int .i64 0, .int .i64 0, .int .i64 0, .int .i64 0, .int .i64 0, .int .i64 0, .int .i64 0, .int .u64 0]) (e := 78) (n := 11) rfl
    have c6n : ([.int .i64 zm.k, .int .u64 zm.tk, .int .i64 zm.c, .int .i64 zm.d, .int .i64 zm.co, .int .i64 zm.fl, .int .i64 zm.dy, .int .i64 zm.va, .int .i64 zm.st, .int .i64 zm.ho, .int .u64 zm.nx] : List Value).length = 11 := rfl
    have c6c : ([.int .i64 zm.k, .int .u64 zm.tk, .int .i64 zm.c, .int .i64 zm.d, .int .i64 zm.co, .int .i64 zm.fl, .int .i64 zm.dy, .int .i64 zm.va, .int .i64 zm.st, .int .i64 zm.ho, .int .u64 zm.nx] : List Value).all (·.oneCell') = true := rfl
    go_upto_region 15 with fail
    have HP := Lib.hid (putRec (W := w10) (e := 78) (zs := [.int .i64 0, .int .u64 0, .int .i64 0, .int .i64 0, .int .i64 0, .int .i64 0, .int .i64 0, .int .i64 0, .int .i64 0, .int .i64 0, .int .u64 0]) (cs := [.int .i64 zm.k, .int .u64 zm.tk, .int .i64 zm.c, .int .i64 zm.d, .int .i64 zm.co, .int .i64 zm.fl, .int .i64 zm.dy, .int .i64 zm.va, .int .i64 zm.st, .int .i64 zm.ho, .int .u64 zm.nx]) rfl)
    have hb := HP.out.2
    have HRW := Lib.hid HP.out.1
    clear HP tc c6n c6c
    replace HRZ := Lib.hid ((hb.block _ (block_lt HRZ.out)).trans HRZ.out)
    replace HB := Lib.hid (HB.out.trans (hb.mono HB.out.size))
    clear hb
    generalize (w10.alloc (.cells #[.int .i64 0, .int .u64 0, .int .i64 0, .int .i64 0, .int .i64 0, .int .i64 0, .int .i64 0, .int .i64 0, .int .i64 0, .int .i64 0, .int .u64 0] 78 (0, 0))).setCells w10.heap.size 0 [.int .i64 zm.k, .int .u64 zm.tk, .int .i64 zm.c, .int .i64 zm.d, .int .i64 zm.co, .int .i64 zm.fl, .int .i64 zm.dy, .int .i64 zm.va, .int .i64 zm.st, .int .i64 zm.ho, .int .u64 zm.nx] = w11 at *
    generalize w10.heap.size = gw at *
    obtain ⟨f1, f2⟩ := row_loT 11 HRZ.out rfl rfl
    obtain ⟨f3, f4⟩ := row_loT 11 HRW.out rfl rfl
    have hez2 : ez = if zk = true then (0:Int) else 4 := HZK.out.symm
    clear HZK
    cases zk
    · obtain rfl : ez = 4 := hez2
      go_wp2_with fail
      refine (known16_any _).mono ?_
      rintro e w12 ⟨rfl, hb⟩
      have HBF := Lib.hid (HB.out.trans (hb.mono HB.out.size))
      clear hb f1 f2 f3 f4
      go_wp2
      go_ret
      exact ⟨rfl, HBF.out⟩
    · obtain rfl : ez = 0 := hez2
      go_wp2_with fail
      refine (known16_any _).mono ?_
      rintro e w12 ⟨rfl, hb⟩
      have HBF := Lib.hid (HB.out.trans (hb.mono HB.out.size))
      clear hb f1 f2 f3 f4
      go_wp2
      go_ret
      exact ⟨rfl, HBF.out⟩
  · have h3 : ¬ (n : Int) ≤ 300 := by omega
    have h3b : (300 : Int) < n := by omega
    go_wp2_with fail
    refine (known16_any _).mono ?_
    rintro e w9 ⟨rfl, hb⟩
    have HB9 := Lib.hid (HB.out.trans (hb.mono HB.out.size))
    clear hb
    go_wp2
    go_ret
    exact ⟨rfl, HB9.out⟩
theorem walk (m o : Ml) (hm : m.wf) (v : Value) (b : List UInt8) (w : World) (hv : BS w v b) : Calls Tryz.prog 9 #[.agg #[.int .i64 m.k, .int .u64 m.tk, .int .i64 m.c, .int .i64 m.d, .int .i64 m.co, .int .i64 m.fl, .int .i64 m.dy, .int .i64 m.va, .int .i64 m.st, .int .i64 m.ho, .int .u64 m.nx], .agg #[.int .i64 o.k, .int .u64 o.tk, .int .i64 o.c, .int .i64 o.d, .int .i64 o.co, .int .i64 o.fl, .int .i64 o.dy, .int .i64 o.va, .int .i64 o.st, .int .i64 o.ho, .int .u64 o.nx], v] w fun e w' => e = .returned (.bool true) ∧ Below w.heap.size w w' := by
  cases h : m.may
  · exact walkN m o hm h v b w hv
  · exact walkY m o hm h v b w hv
set_option maxRecDepth 100000 in
theorem lifted (os : Os) (started : os.Started) (H : Type) (enc : TypeId × Value → H) :
    ReturnsInHanded {} Tryz.checked os 9 .any (Rows.requestMailsSpec.pre6 enc Tryz.prog Tryz.f9 Rows.requestMailsRow.domain false) (Rows.requestMailsSpec.post enc Tryz.prog Tryz.f9 false true false false) := by
  refine returnsInHanded_of_change (C := Tryz.checked) own started (by kernel_rfl) Tryz.func9
    (ChangeSpec.witness6 (enc := enc) (C := Tryz.checked) false ⟨#[], #[.agg #[.int .i64 0, .int .u64 0, .int .i64 0, .int .i64 0, .int .i64 0, .int .i64 0, .int .i64 0, .int .i64 0, .int .i64 0, .int .i64 0, .int .u64 0], .agg #[.int .i64 0, .int .u64 0, .int .i64 0, .int .i64 0, .int .i64 0, .int .i64 0, .int .i64 0, .int .i64 0, .int .i64 0, .int .i64 0, .int .u64 0], .slice none 0 0], []⟩ 8 (by kernel_rfl) (by kernel_rfl) (by kernel_rfl) (by kernel_rfl)) ?_
  intro W base args ds gs before hval0 hW hcnd _
  have hval : ∀ (j : Nat) t v, Tryz.f9.params[j]? = some t → args[j]? = some v → Value.okWide Tryz.prog W .any base t v := hval0
  have hW' := hW
  obtain ⟨p, q, hA0, hV, rfl, hfz, hnd⟩ := hW
  have hA : DataW.TrodAll enc Tryz.prog W 0 (fun _ => true) true Tryz.f9.params.toList args.toList ds p := hA0
  rw [Tryz.params9] at hA hval
  obtain ⟨v0, vs0, d0, ds0, p0, q0, hargs, rfl, rfl, h0, r0⟩ := trodAll_cons hA
  obtain ⟨v1, vs1, d1, ds1, p1, q1, rfl, rfl, rfl, h1, r1⟩ := trodAll_cons r0
  obtain ⟨v2, vs2, d2, ds2, p2, q2, rfl, rfl, rfl, h2, r2⟩ := trodAll_cons r1
  obtain ⟨rfl, rfl, rfl⟩ := trodAll_nil r2
  obtain rfl : args = #[v0, v1, v2] := by cases args; simp_all
  obtain ⟨m, rfl, hm⟩ := open_mail (hval 0 _ v0 rfl rfl) h0
  obtain ⟨o, rfl, ho⟩ := open_mail (hval 1 _ v1 rfl rfl) h1
  obtain ⟨b, hb⟩ := open_bytes (hval 2 _ v2 rfl rfl) h2
  clear hA0 hval0
  refine (walk m o hm v2 b W hb).mono fun e W' ⟨he, hg⟩ => ?_
  subst he
  exact ⟨_, rfl, post_law laidOut rfl hW' ⟨rfl, rfl, rfl⟩ (by kernel_rfl) hg Tryz.underlying4 rfl⟩

theorem proved : Rows.RequestMailsSaid :=
  OpenClaim.holds_of_wide 9 Tryz.f9 rfl rfl rfl rfl rfl rfl rfl ⟨rfl, rfl, rfl, rfl, rfl⟩ rfl rfl rfl rfl rfl (by kernel_rfl) Tryz.func9 (by kernel_rfl)
    (of_decide_eq_true (by kernel_rfl)) (by unfold Func.isWrapper; first | (rw [if_pos (by decide +kernel)]; kernel_rfl) | (rw [if_neg (by decide +kernel)]; exact ⟨rfl, rfl⟩))
    (fun os started H enc _ => lifted os started H enc)
#print axioms proved
end Go.Proofs.YtbmphlpmipkpcaaGreat.requestMails
