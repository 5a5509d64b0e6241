/- Contracts: request.MailName, letter.Text. -/
import Derived.Test.YtellhmbebimenaaDoorLr39
import Derived.Test.YtellhmbebimenaaDoorLr40
import Derived.Test.YtellhmbebimenaaDoorLr26
import Derived.Deep.Cut

set_option linter.unusedVariables false
set_option linter.unusedSimpArgs false
namespace Go.Proofs.YtellhmbebimenaaDoor
open Go.RowKit

/-- the mails' kinds' names -/
def mName (k : Int) : List UInt8 := if k = 1 then [97, 115, 107] else if k = 2 then [103, 114, 97, 110, 116] else if k = 3 then [100, 101, 110, 121] else if k = 4 then [114, 101, 116, 117, 114, 110] else [102, 108, 111, 119, 110]
theorem mName_len (k : Int) : (mName k).length ≤ 6 := by unfold mName; (repeat' split) <;> simp
set_option maxHeartbeats 2000000 in
set_option maxRecDepth 8000 in
theorem mailNameE_any (k : Int) (h : 1 ≤ k ∧ k ≤ 5) (w : World) : Calls Tryd.prog 51 #[.int .i64 k] w fun e w' => e = .returned (.string ⟨(mName k).toArray⟩) ∧ Below w.heap.size w w' := by
  obtain ⟨h1, h2⟩ := h
  have hc : k = 1 ∨ k = 2 ∨ k = 3 ∨ k = 4 ∨ k = 5 := by omega
  rcases hc with rfl | rfl | rfl | rfl | rfl
  all_goals
    go_enter Tryd.func51, Tryd.ntmps51
    go_wp2
    go_ret
    exact ⟨rfl, (Below.refl _ _).alloc (Nat.le_refl _) _⟩
theorem put_len {l sg : List UInt8} {u m : Nat} (h : l.length ≤ m) (hu : u < 18446744073709551616) (hs : sg.length ≤ 10) : (l ++ sg ++ Dec.digits u).length ≤ m + 30 := by
  have := Post.dig_len u (by omega)
  simp only [List.length_append]
  omega
/-- the text of a letter -/
def tHd (x : Lt) : List UInt8 := ((([] ++ [] ++ Dec.digits x.f.toNat) ++ [62] ++ Dec.digits x.t.toNat) ++ [32, 35] ++ Dec.digits x.n.toNat) ++ [32, 43] ++ Dec.digits x.a.toNat
def tMl (h : List UInt8) (x : Lt) : List UInt8 := (h ++ (([32] ++ mName x.k) ++ [32]) ++ Dec.digits x.tk.toNat) ++ [47] ++ Dec.digits x.c.toNat
def textLt (x : Lt) : List UInt8 := if x.may = false then [] else if x.n = 0 then tHd x else
  if x.k = 3 then tMl (tHd x) x ++ [32, 101] ++ Dec.digits x.co.toNat else
  if x.k = 2 then (((tMl (tHd x) x ++ [32] ++ Dec.digits x.d.toNat) ++ [32] ++ Dec.digits x.fl.toNat) ++ [64] ++ Dec.digits x.dy.toNat) ++ [61] ++ Dec.digits x.va.toNat else
  tMl (tHd x) x ++ [32] ++ Dec.digits x.d.toNat
set_option maxRecDepth 8000 in
theorem lText_no (x : Lt) (hw : x.wf) (hm : x.may = false) (w : World) :
    Calls Tryd.prog 16 #[.agg #[.int .i64 x.f, .int .i64 x.t, .int .u64 x.n, .int .u64 x.a, .int .i64 x.k, .int .u64 x.tk, .int .i64 x.c, .int .i64 x.d, .int .i64 x.co, .int .i64 x.fl, .int .i64 x.dy, .int .i64 x.va, .int .i64 x.st, .int .i64 x.ho, .int .u64 x.nx]] w fun e w' => e = .returned (.string ⟨(textLt x).toArray⟩) ∧ Below w.heap.size w w' := by
  have HMM := Lib.hid (fun W => lmay_any x.f x.t x.n x.a x.k x.tk x.c x.d x.co x.fl x.dy x.va x.st x.ho x.nx hw.tk hw.va hw.n hw.a W)
  have hq : Ltr.mayB x.f x.t x.n x.a x.k x.tk x.c x.d x.co x.fl x.dy x.va x.st x.ho x.nx = false := hm
  rw [hq] at HMM
  have HBB := Lib.hid ((Below.refl w.heap.size w).alloc (Nat.le_refl _) (.cells #[.int .i64 x.f, .int .i64 x.t, .int .u64 x.n, .int .u64 x.a, .int .i64 x.k, .int .u64 x.tk, .int .i64 x.c, .int .i64 x.d, .int .i64 x.co, .int .i64 x.fl, .int .i64 x.dy, .int .i64 x.va, .int .i64 x.st, .int .i64 x.ho, .int .u64 x.nx] 31))
  obtain ⟨f1, f2⟩ := row_loT 15 (new_rowW w (.cells #[.int .i64 x.f, .int .i64 x.t, .int .u64 x.n, .int .u64 x.a, .int .i64 x.k, .int .u64 x.tk, .int .i64 x.c, .int .i64 x.d, .int .i64 x.co, .int .i64 x.fl, .int .i64 x.dy, .int .i64 x.va, .int .i64 x.st, .int .i64 x.ho, .int .u64 x.nx] 31) _ rfl) rfl rfl
  have HE : Hid (textLt x = []) := Lib.hid (by unfold textLt; rw [if_pos hm])
  clear hq hm hw
  go_enter Tryd.func16, Tryd.ntmps16
  go_wp2_with (go_at_call 17; refine (HMM.out _).mono ?_; rintro e wn ⟨rfl, hbn⟩)
  go_ret
  exact ⟨by rw [HE.out]; rfl, HBB.out.trans (hbn.mono HBB.out.size)⟩
set_option maxRecDepth 8000 in
set_option maxHeartbeats 8000000 in
theorem lText_yes (x : Lt) (hw : x.wf) (hm : x.may = true) (w : World) (ht : Tab w) :
    Calls Tryd.prog 16 #[.agg #[.int .i64 x.f, .int .i64 x.t, .int .u64 x.n, .int .u64 x.a, .int .i64 x.k, .int .u64 x.tk, .int .i64 x.c, .int .i64 x.d, .int .i64 x.co, .int .i64 x.fl, .int .i64 x.dy, .int .i64 x.va, .int .i64 x.st, .int .i64 x.ho, .int .u64 x.nx]] w fun e w' => e = .returned (.string ⟨(textLt x).toArray⟩) ∧ Below w.heap.size w w' := by
  have HMM := Lib.hid (fun W => lmay_any x.f x.t x.n x.a x.k x.tk x.c x.d x.co x.fl x.dy x.va x.st x.ho x.nx hw.tk hw.va hw.n hw.a W)
  have hq : Ltr.mayB x.f x.t x.n x.a x.k x.tk x.c x.d x.co x.fl x.dy x.va x.st x.ho x.nx = true := hm
  rw [hq] at HMM
  have F0 := lt_facts hm
  have HFM : Hid (¬ x.n = 0 → MlB x.ml) := Lib.hid (fun h => ml_facts (F0.m h))
  have HTX : Hid (textLt x = if x.n = 0 then tHd x else
    if x.k = 3 then tMl (tHd x) x ++ [32, 101] ++ Dec.digits x.co.toNat else
    if x.k = 2 then (((tMl (tHd x) x ++ [32] ++ Dec.digits x.d.toNat) ++ [32] ++ Dec.digits x.fl.toNat) ++ [64] ++ Dec.digits x.dy.toNat) ++ [61] ++ Dec.digits x.va.toNat else
    tMl (tHd x) x ++ [32] ++ Dec.digits x.d.toNat) := Lib.hid (by unfold textLt; rw [hm]; simp)
  obtain ⟨n0, n1⟩ := hw.n
  obtain ⟨a0, a1⟩ := hw.a
  obtain ⟨k0, k1⟩ := hw.tk
  have hf := F0.f; have htt := F0.t; have hnn := F0.n; have haa := F0.a
  obtain ⟨F, hF⟩ := Int.eq_ofNat_of_zero_le (show 0 ≤ x.f by omega)
  obtain ⟨T, hT⟩ := Int.eq_ofNat_of_zero_le (show 0 ≤ x.t by omega)
  obtain ⟨N, hN⟩ := Int.eq_ofNat_of_zero_le n0
  obtain ⟨A, hA⟩ := Int.eq_ofNat_of_zero_le a0
  obtain ⟨TK, hTK⟩ := Int.eq_ofNat_of_zero_le k0
  unfold tMl tHd at HTX
  have hml : x.ml = ⟨x.k, x.tk, x.c, x.d, x.co, x.fl, x.dy, x.va, x.st, x.ho, x.nx⟩ := rfl
  rw [hml] at HFM
  rw [hF, hT, hN, hA, hTK] at HTX HMM
  rw [hF, hT, hN, hA, hTK]
  rw [hN, hTK] at HFM
  rw [hF] at hf; rw [hT] at htt; rw [hN] at n1 hnn; rw [hA] at a1 haa; rw [hTK] at k1
  simp only [Int.toNat_natCast] at HTX
  generalize textLt x = TX at *
  generalize x.k = K at *
  generalize x.c = CC at *
  generalize x.d = DD at *
  generalize x.co = CO at *
  generalize x.fl = FL at *
  generalize x.dy = DY at *
  generalize x.va = VA at *
  generalize x.st = st at *
  generalize x.ho = ho at *
  generalize x.nx = nx at *
  clear hml F0 hF hT hN hA hTK hq hm hw n0 a0 k0
  have hF2 : F < 18446744073709551616 := by omega
  have hT2 : T < 18446744073709551616 := by omega
  have hN2 : N < 18446744073709551616 := by omega
  have hA2 : A < 18446744073709551616 := by omega
  have hTK2 : TK < 18446744073709551616 := by omega
  have z1 : IntKind.u64.wrap (F : Int) = (F : Int) := by rw [IntKind.wrap_u64]; omega
  have z2 : IntKind.u64.wrap (T : Int) = (T : Int) := by rw [IntKind.wrap_u64]; omega
  clear hf htt n1 hnn a1 haa k1
  have HT := Lib.hid ht
  clear ht
  have HBP := Lib.hid ((Below.refl w.heap.size w).alloc (Nat.le_refl _) (.cells #[.int .i64 (F : Int), .int .i64 (T : Int), .int .u64 (N : Int), .int .u64 (A : Int), .int .i64 K, .int .u64 (TK : Int), .int .i64 CC, .int .i64 DD, .int .i64 CO, .int .i64 FL, .int .i64 DY, .int .i64 VA, .int .i64 st, .int .i64 ho, .int .u64 nx] 31))
  have hr0 := new_rowW w (.cells #[.int .i64 (F : Int), .int .i64 (T : Int), .int .u64 (N : Int), .int .u64 (A : Int), .int .i64 K, .int .u64 (TK : Int), .int .i64 CC, .int .i64 DD, .int .i64 CO, .int .i64 FL, .int .i64 DY, .int .i64 VA, .int .i64 st, .int .i64 ho, .int .u64 nx] 31) _ rfl
  obtain ⟨f1, f2⟩ := row_loT 15 hr0 rfl rfl
  go_enter Tryd.func16, Tryd.ntmps16
  go_wp2_with fail
  clear f1 f2
  refine (HMM.out _).mono ?_
  rintro e wa ⟨rfl, hbm⟩
  have hra := (hbm.block _ (block_lt hr0)).trans hr0
  have HBA := Lib.hid (HBP.out.trans (hbm.mono HBP.out.size))
  clear hbm hr0
  have HRA := Lib.hid hra
  clear hra
  have hlt := block_lt HRA.out
  go_upto_region 5 with fail
  have hb0 := (Below.refl wa.heap.size wa).alloc (Nat.le_refl _) (.cells #[.pointer none, .slice none 0 0] 83)
  have HI : Hid (IsB wa.heap.size wa.heap.size [] (wa.alloc (.cells #[.pointer none, .slice none 0 0] 83))) := Lib.hid (.inl ⟨Nat.le_refl _, _, new_rowW _ _ _ rfl, ⟨rfl, .inl ⟨rfl, rfl⟩⟩, by simp [Value.ownBlock]⟩)
  have HR := Lib.hid ((hb0.block _ hlt).trans HRA.out)
  have HBQ := Lib.hid (HBA.out.trans (hb0.mono HBA.out.size))
  have HS : Hid (wa.heap.size ≤ (wa.alloc (.cells #[.pointer none, .slice none 0 0] 83)).heap.size) := Lib.hid hb0.size
  have HLW : Hid (w.heap.size ≤ wa.heap.size) := Lib.hid HBA.out.size
  clear hb0 hlt
  generalize wa.alloc (.cells #[.pointer none, .slice none 0 0] 83) = w0 at *
  generalize wa.heap.size = b at *
  have HTB : Hid (∀ W, Below b w0 W → Tab W) := Lib.hid (fun W hW => HT.out.below (HBQ.out.trans (hW.mono HLW.out)))
  have HB := Lib.hid (Below.refl b w0)
  have HL : Hid (([] : List UInt8).length ≤ 0) := Lib.hid (Nat.le_refl _)
  clear HBA HRA HBP
  have hcp := fun j => cell_of_row w0 w.heap.size j _ _ _ HR.out
  go_wp2_with fail
  clear hcp
  refine (putT_any b b [] [] F hF2 w0 (fun W hW => HTB.out W (HB.out.trans hW)) HI.out (Nat.le_trans (Nat.add_le_add_right HL.out _) (by decide)) HS.out).mono ?_
  rintro e w1 ⟨rfl, hi, hb, hk⟩
  replace HL := Lib.hid (put_len (sg := []) HL.out hF2 (by decide) (m := 0))
  have HI := Lib.hid hi
  replace HB := Lib.hid (HB.out.trans hb)
  replace HS := Lib.hid (Nat.le_trans HS.out hb.size)
  replace HR := Lib.hid (hk.row HR.out (by decide))
  clear hi hb hk
  have hcp := fun j => cell_of_row w1 w.heap.size j _ _ _ HR.out
  go_wp2_with fail
  clear hcp
  refine (putT_any b b _ [62] T hT2 w1 (fun W hW => HTB.out W (HB.out.trans hW)) HI.out (Nat.le_trans (Nat.add_le_add_right HL.out _) (by decide)) HS.out).mono ?_
  rintro e w2 ⟨rfl, hi, hb, hk⟩
  replace HL := Lib.hid (put_len (sg := [62]) HL.out hT2 (by decide) (m := 30))
  have HI := Lib.hid hi
  replace HB := Lib.hid (HB.out.trans hb)
  replace HS := Lib.hid (Nat.le_trans HS.out hb.size)
  replace HR := Lib.hid (hk.row HR.out (by decide))
  clear hi hb hk
  have hcp := fun j => cell_of_row w2 w.heap.size j _ _ _ HR.out
  go_wp2_with fail
  clear hcp
  refine (putT_any b b _ [32, 35] N hN2 w2 (fun W hW => HTB.out W (HB.out.trans hW)) HI.out (Nat.le_trans (Nat.add_le_add_right HL.out _) (by decide)) HS.out).mono ?_
  rintro e w3 ⟨rfl, hi, hb, hk⟩
  replace HL := Lib.hid (put_len (sg := [32, 35]) HL.out hN2 (by decide) (m := 60))
  have HI := Lib.hid hi
  replace HB := Lib.hid (HB.out.trans hb)
  replace HS := Lib.hid (Nat.le_trans HS.out hb.size)
  replace HR := Lib.hid (hk.row HR.out (by decide))
  clear hi hb hk
  have hcp := fun j => cell_of_row w3 w.heap.size j _ _ _ HR.out
  go_wp2_with fail
  clear hcp
  refine (putT_any b b _ [32, 43] A hA2 w3 (fun W hW => HTB.out W (HB.out.trans hW)) HI.out (Nat.le_trans (Nat.add_le_add_right HL.out _) (by decide)) HS.out).mono ?_
  rintro e w4 ⟨rfl, hi, hb, hk⟩
  replace HL := Lib.hid (put_len (sg := [32, 43]) HL.out hA2 (by decide) (m := 90))
  have HI := Lib.hid hi
  replace HB := Lib.hid (HB.out.trans hb)
  replace HS := Lib.hid (Nat.le_trans HS.out hb.size)
  replace HR := Lib.hid (hk.row HR.out (by decide))
  clear hi hb hk
  by_cases h0 : N = 0
  · subst h0
    have HX := Lib.hid HTX.out
    have hcp := fun j => cell_of_row w4 w.heap.size j _ _ _ HR.out
    go_wp2_with fail
    refine (bstring_any b b _ w4 HI.out HS.out).mono ?_
    rintro e w5 ⟨rfl, hb5⟩
    go_wp2
    go_ret
    exact ⟨ret_string (by rw [HTX.out, if_pos (show ((0 : Nat) : Int) = 0 from rfl)]; simp), HBQ.out.trans ((HB.out.trans hb5).mono HLW.out)⟩
  · have hn0 : ((N : Int) == 0) = false := by rw [beq_eq_false_iff_ne]; omega
    have HM0 := HFM.out (by omega)
    rw [if_neg (show ¬ (N : Int) = 0 by omega)] at HTX
    obtain ⟨hk, hn, hc, hco, hd, hwf, hz2, hz3, hzc⟩ := HM0
    simp only at hk hn hc hco hd hwf hz2 hz3 hzc
    clear HFM h0 HMM
    have HMN := Lib.hid (fun W => mailNameE_any K hk W)
    have hnl := mName_len K
    obtain ⟨C, rfl⟩ := Int.eq_ofNat_of_zero_le (show 0 ≤ CC by omega)
    have hC2 : C < 18446744073709551616 := by omega
    have z3 : IntKind.u64.wrap (C : Int) = (C : Int) := by rw [IntKind.wrap_u64]; omega
    rw [Int.toNat_natCast] at HTX
    have hcp := fun j => cell_of_row w4 w.heap.size j _ _ _ HR.out
    obtain ⟨g1, g2⟩ := row_loO 11 4 HR.out (ds := [.int .i64 K, .int .u64 (TK : Int), .int .i64 (C : Int), .int .i64 DD, .int .i64 CO, .int .i64 FL, .int .i64 DY, .int .i64 VA, .int .i64 st, .int .i64 ho, .int .u64 nx]) rfl rfl
    go_upto_region 12 with fail
    clear g1 g2 hcp
    have hb4 := (Below.refl w4.heap.size w4).alloc (Nat.le_refl _) (.cells #[.int .i64 K, .int .u64 (TK : Int), .int .i64 (C : Int), .int .i64 DD, .int .i64 CO, .int .i64 FL, .int .i64 DY, .int .i64 VA, .int .i64 st, .int .i64 ho, .int .u64 nx] 29)
    have HM := Lib.hid (new_rowW w4 (.cells #[.int .i64 K, .int .u64 (TK : Int), .int .i64 (C : Int), .int .i64 DD, .int .i64 CO, .int .i64 FL, .int .i64 DY, .int .i64 VA, .int .i64 st, .int .i64 ho, .int .u64 nx] 29) _ rfl)
    replace HR := Lib.hid ((hb4.block _ (block_lt HR.out)).trans HR.out)
    replace HI := Lib.hid (HI.out.below hb4)
    replace HB := Lib.hid (HB.out.trans (hb4.mono HS.out))
    replace HS := Lib.hid (Nat.le_trans HS.out hb4.size)
    clear hb4
    generalize w4.alloc (.cells #[.int .i64 K, .int .u64 (TK : Int), .int .i64 (C : Int), .int .i64 DD, .int .i64 CO, .int .i64 FL, .int .i64 DY, .int .i64 VA, .int .i64 st, .int .i64 ho, .int .u64 nx] 29) = w5 at *
    generalize w4.heap.size = g at *
    have hcm := fun (u : Later w5) (j : Nat) => (u.cell g j (block_lt HM.out)).trans (cell_of_row w5 g j _ _ _ HM.out)
    have HSG : Hid ((⟨#[32]⟩ : ByteArray) ++ ⟨(mName K).toArray⟩ ++ ⟨#[32]⟩ = ⟨([32] ++ mName K ++ [32]).toArray⟩) := Lib.hid (by
      rw [show (⟨#[32]⟩ : ByteArray) = ⟨([32] : List UInt8).toArray⟩ from rfl, app_string, app_string])
    have HSL : Hid (([32] ++ mName K ++ [32] : List UInt8).length ≤ 8) := Lib.hid (by simp; omega)
    have hnm : (⟨(mName K).toArray⟩ : ByteArray).size ≤ 6 := by rw [size_string]; exact hnl
    clear hnl
    generalize hSG : ([32] ++ mName K ++ [32] : List UInt8) = SG at *
    generalize (⟨(mName K).toArray⟩ : ByteArray) = NM at *
    have hc1 : ¬ 9223372036854775807 < (⟨#[32]⟩ : ByteArray).size + NM.size := by rw [show (⟨#[32]⟩ : ByteArray).size = 1 from rfl]; omega
    have hc2 : ¬ 9223372036854775807 < ((⟨#[32]⟩ : ByteArray) ++ NM).size + (⟨#[32]⟩ : ByteArray).size := by rw [ByteArray.size_append, show (⟨#[32]⟩ : ByteArray).size = 1 from rfl]; omega
    refine wp_region_later_tail 8 (by kernel_rfl) (by kernel_rfl) ?_
    simp only [List.take_succ_cons, List.take_zero, List.drop_succ_cons, List.drop_zero]
    repeat (go_big_quiet_step (first | (go_at_call 51; exact later_call (HMN.out _))))
    refine wpQuiet_nil ?_
    rintro w6 ⟨u, rfl⟩
    have hbu := u.prop
    replace HM := Lib.hid ((hbu.block _ (block_lt HM.out)).trans HM.out)
    replace HR := Lib.hid ((hbu.block _ (block_lt HR.out)).trans HR.out)
    replace HI := Lib.hid (HI.out.below hbu)
    replace HB := Lib.hid (HB.out.trans (hbu.mono HS.out))
    replace HS := Lib.hid (Nat.le_trans HS.out hbu.size)
    clear hcm hbu
    generalize u.val = w6 at *
    go_wp2_with fail
    rw [HSG.out]
    clear hc1 hc2 hnm HSG
    refine (putT_any b b _ SG TK hTK2 w6 (fun W hW => HTB.out W (HB.out.trans hW)) HI.out (by have := HL.out; have := HSL.out; omega) HS.out).mono ?_
    rintro e w7 ⟨rfl, hi, hb, hk⟩
    replace HL := Lib.hid (put_len (sg := SG) HL.out hTK2 (by have := HSL.out; omega) (m := 120))
    have HI := Lib.hid hi
    replace HB := Lib.hid (HB.out.trans hb)
    replace HS := Lib.hid (Nat.le_trans HS.out hb.size)
    replace HR := Lib.hid (hk.row HR.out (by decide))
    replace HM := Lib.hid (hk.row HM.out (by decide))
    clear hi hb hk
    have hcm := fun j => cell_of_row w7 g j _ _ _ HM.out
    go_wp2_with fail
    clear hcm
    refine (putT_any b b _ [47] C hC2 w7 (fun W hW => HTB.out W (HB.out.trans hW)) HI.out (Nat.le_trans (Nat.add_le_add_right HL.out _) (by decide)) HS.out).mono ?_
    rintro e w8 ⟨rfl, hi, hb, hk⟩
    replace HL := Lib.hid (put_len (sg := [47]) HL.out hC2 (by decide) (m := 150))
    have HI := Lib.hid hi
    replace HB := Lib.hid (HB.out.trans hb)
    replace HS := Lib.hid (Nat.le_trans HS.out hb.size)
    replace HR := Lib.hid (hk.row HR.out (by decide))
    replace HM := Lib.hid (hk.row HM.out (by decide))
    clear hi hb hk
    by_cases h3 : K = 3
    · subst h3
      have hcoo := hco rfl
      obtain ⟨O, rfl⟩ := Int.eq_ofNat_of_zero_le (show 0 ≤ CO by omega)
      have hO2 : O < 18446744073709551616 := by omega
      have z4 : IntKind.u64.wrap (O : Int) = (O : Int) := by rw [IntKind.wrap_u64]; omega
      rw [Int.toNat_natCast, if_pos rfl] at HTX
      clear hco hcoo hd hwf hz2 hz3 hzc hk hn hc
      have hcm := fun j => cell_of_row w8 g j _ _ _ HM.out
      go_wp2_with fail
      clear hcm
      refine (putT_any b b _ [32, 101] O hO2 w8 (fun W hW => HTB.out W (HB.out.trans hW)) HI.out (Nat.le_trans (Nat.add_le_add_right HL.out _) (by decide)) HS.out).mono ?_
      rintro e w9 ⟨rfl, hi, hb, hk⟩
      replace HL := Lib.hid (put_len (sg := [32, 101]) HL.out hO2 (by decide) (m := 180))
      have HI := Lib.hid hi
      replace HB := Lib.hid (HB.out.trans hb)
      replace HS := Lib.hid (Nat.le_trans HS.out hb.size)
      replace HR := Lib.hid (hk.row HR.out (by decide))
      replace HM := Lib.hid (hk.row HM.out (by decide))
      clear hi hb hk
      go_wp2_with fail
      refine (bstring_any b b _ w9 HI.out HS.out).mono ?_
      rintro e wz ⟨rfl, hb5⟩
      go_wp2
      go_ret
      exact ⟨ret_string (by rw [HTX.out]; simp), HBQ.out.trans ((HB.out.trans hb5).mono HLW.out)⟩
    · have hdd := hd h3
      obtain ⟨D, rfl⟩ := Int.eq_ofNat_of_zero_le (show 0 ≤ DD by omega)
      have hD2 : D < 18446744073709551616 := by omega
      have z4 : IntKind.u64.wrap (D : Int) = (D : Int) := by rw [IntKind.wrap_u64]; omega
      rw [Int.toNat_natCast, if_neg h3] at HTX
      have hq3 : (K == 3) = false := by simpa using h3
      by_cases h2 : K = 2
      · subst h2
        obtain ⟨hfl, hdy, hva, -, -, -⟩ := hwf rfl
        obtain ⟨L, rfl⟩ := Int.eq_ofNat_of_zero_le (show 0 ≤ FL by omega)
        obtain ⟨Y, rfl⟩ := Int.eq_ofNat_of_zero_le (show 0 ≤ DY by omega)
        obtain ⟨V, rfl⟩ := Int.eq_ofNat_of_zero_le (show 0 ≤ VA by omega)
        have hL2 : L < 18446744073709551616 := by omega
        have hY2 : Y < 18446744073709551616 := by omega
        have hV2 : V < 18446744073709551616 := by omega
        have z5 : IntKind.u64.wrap (L : Int) = (L : Int) := by rw [IntKind.wrap_u64]; omega
        have z6 : IntKind.u64.wrap (Y : Int) = (Y : Int) := by rw [IntKind.wrap_u64]; omega
        have z7 : IntKind.u64.wrap (V : Int) = (V : Int) := by rw [IntKind.wrap_u64]; omega
        rw [if_pos rfl] at HTX
        simp only [Int.toNat_natCast] at HTX
        clear hco hd hwf hz2 hz3 hzc hk hn hc h3 hfl hdy hva hdd
        have hcm := fun j => cell_of_row w8 g j _ _ _ HM.out
        go_wp2_with fail
        clear hcm
        refine (putT_any b b _ [32] D hD2 w8 (fun W hW => HTB.out W (HB.out.trans hW)) HI.out (Nat.le_trans (Nat.add_le_add_right HL.out _) (by decide)) HS.out).mono ?_
        rintro e w9 ⟨rfl, hi, hb, hk⟩
        replace HL := Lib.hid (put_len (sg := [32]) HL.out hD2 (by decide) (m := 180))
        have HI := Lib.hid hi
        replace HB := Lib.hid (HB.out.trans hb)
        replace HS := Lib.hid (Nat.le_trans HS.out hb.size)
        replace HR := Lib.hid (hk.row HR.out (by decide))
        replace HM := Lib.hid (hk.row HM.out (by decide))
        clear hi hb hk
        have hcm := fun j => cell_of_row w9 g j _ _ _ HM.out
        go_wp2_with fail
        clear hcm
        refine (putT_any b b _ [32] L hL2 w9 (fun W hW => HTB.out W (HB.out.trans hW)) HI.out (Nat.le_trans (Nat.add_le_add_right HL.out _) (by decide)) HS.out).mono ?_
        rintro e w10 ⟨rfl, hi, hb, hk⟩
        replace HL := Lib.hid (put_len (sg := [32]) HL.out hL2 (by decide) (m := 210))
        have HI := Lib.hid hi
        replace HB := Lib.hid (HB.out.trans hb)
        replace HS := Lib.hid (Nat.le_trans HS.out hb.size)
        replace HR := Lib.hid (hk.row HR.out (by decide))
        replace HM := Lib.hid (hk.row HM.out (by decide))
        clear hi hb hk
        have hcm := fun j => cell_of_row w10 g j _ _ _ HM.out
        go_wp2_with fail
        clear hcm
        refine (putT_any b b _ [64] Y hY2 w10 (fun W hW => HTB.out W (HB.out.trans hW)) HI.out (Nat.le_trans (Nat.add_le_add_right HL.out _) (by decide)) HS.out).mono ?_
        rintro e w11 ⟨rfl, hi, hb, hk⟩
        replace HL := Lib.hid (put_len (sg := [64]) HL.out hY2 (by decide) (m := 240))
        have HI := Lib.hid hi
        replace HB := Lib.hid (HB.out.trans hb)
        replace HS := Lib.hid (Nat.le_trans HS.out hb.size)
        replace HR := Lib.hid (hk.row HR.out (by decide))
        replace HM := Lib.hid (hk.row HM.out (by decide))
        clear hi hb hk
        have hcm := fun j => cell_of_row w11 g j _ _ _ HM.out
        go_wp2_with fail
        clear hcm
        refine (putT_any b b _ [61] V hV2 w11 (fun W hW => HTB.out W (HB.out.trans hW)) HI.out (Nat.le_trans (Nat.add_le_add_right HL.out _) (by decide)) HS.out).mono ?_
        rintro e w12 ⟨rfl, hi, hb, hk⟩
        replace HL := Lib.hid (put_len (sg := [61]) HL.out hV2 (by decide) (m := 270))
        have HI := Lib.hid hi
        replace HB := Lib.hid (HB.out.trans hb)
        replace HS := Lib.hid (Nat.le_trans HS.out hb.size)
        replace HR := Lib.hid (hk.row HR.out (by decide))
        replace HM := Lib.hid (hk.row HM.out (by decide))
        clear hi hb hk
        go_wp2_with fail
        refine (bstring_any b b _ w12 HI.out HS.out).mono ?_
        rintro e wz ⟨rfl, hb5⟩
        go_wp2
        go_ret
        exact ⟨ret_string (by rw [HTX.out]; simp), HBQ.out.trans ((HB.out.trans hb5).mono HLW.out)⟩
      · rw [if_neg h2] at HTX
        have hq2 : (K == 2) = false := by simpa using h2
        clear hco hd hwf hz2 hz3 hzc hk hn hc hdd h3 h2
        have hcm := fun j => cell_of_row w8 g j _ _ _ HM.out
        go_wp2_with fail
        clear hcm
        refine (putT_any b b _ [32] D hD2 w8 (fun W hW => HTB.out W (HB.out.trans hW)) HI.out (Nat.le_trans (Nat.add_le_add_right HL.out _) (by decide)) HS.out).mono ?_
        rintro e w9 ⟨rfl, hi, hb, hk⟩
        replace HL := Lib.hid (put_len (sg := [32]) HL.out hD2 (by decide) (m := 180))
        have HI := Lib.hid hi
        replace HB := Lib.hid (HB.out.trans hb)
        replace HS := Lib.hid (Nat.le_trans HS.out hb.size)
        replace HR := Lib.hid (hk.row HR.out (by decide))
        replace HM := Lib.hid (hk.row HM.out (by decide))
        clear hi hb hk
        go_wp2_with fail
        refine (bstring_any b b _ w9 HI.out HS.out).mono ?_
        rintro e wz ⟨rfl, hb5⟩
        go_wp2
        go_ret
        exact ⟨ret_string (by rw [HTX.out]; simp), HBQ.out.trans ((HB.out.trans hb5).mono HLW.out)⟩
end Go.Proofs.YtellhmbebimenaaDoor
