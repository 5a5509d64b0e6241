/- ReportBytes returns true for every report, and leaves the memory that was there as it was. -/
import Derived.Test.YtolfekbhlfjniaaYOf
import Derived.Test.YtolfekbhlfjniaaYROf
import Derived.Test.YtolfekbhlfjniaaLift
import Derived.Deep.RegionWith
set_option linter.unusedVariables false
set_option linter.unusedSimpArgs false
namespace Go.Proofs.Ytolfekbhlfjniaa.reportBytes
open Go.ChangeShapes Go.WideShapes Go.ChangeAt Go.RowKit

set_option maxRecDepth 4000 in
set_option maxHeartbeats 20000000 in
theorem walk (a b : Int) (l : List Pst) (p : Option Addr) (n cap : Nat) (m x0 x1 x2 x3 x4 x5 : Int) (w : World) (hs : PS w (.slice p n cap) l) :
    Calls Try.prog 7 #[.agg #[.int .i64 a, .int .i64 b, (.slice p n cap), .int .i64 m, .int .i64 x0, .int .i64 x1, .int .i64 x2, .int .i64 x3, .int .i64 x4, .int .i64 x5]] w fun e w' => e = .returned (.bool true) ∧ Below w.heap.size w w' := by
  have hln := ps_len hs
  have HN := Lib.hid hln.1
  have hn1 := hln.2.1
  have hn2 := hln.2.2
  have HB0 := Lib.hid ((Below.refl w.heap.size w).alloc (Nat.le_refl _) (.cells #[.int .i64 a, .int .i64 b, (.slice p n cap), .int .i64 m, .int .i64 x0, .int .i64 x1, .int .i64 x2, .int .i64 x3, .int .i64 x4, .int .i64 x5] 27 (0, 0)))
  have HR0 := Lib.hid (new_row w (.cells #[.int .i64 a, .int .i64 b, (.slice p n cap), .int .i64 m, .int .i64 x0, .int .i64 x1, .int .i64 x2, .int .i64 x3, .int .i64 x4, .int .i64 x5] 27 (0, 0)) _ rfl)
  have hc0 := fun j => cell_of_row _ w.heap.size j _ _ _ HR0.out
  have HS0 := Lib.hid (hs.below HB0.out)
  have HWF := Lib.hid (ps_wf hs)
  clear hs hln
  by_cases h60 : 60 < n
  · go_enter Try.func7, Try.ntmps7
    go_wp2_with fail
    refine (known17_any _).mono ?_
    rintro e w1 ⟨rfl, hb1⟩
    have HB1 := Lib.hid (HB0.out.trans (hb1.mono HB0.out.size))
    clear hb1 hc0
    go_wp2
    go_ret
    exact ⟨rfl, HB1.out⟩
  · obtain ⟨bv, hbv⟩ : ∃ bv : Bool, bv = true ↔ Rep.MayP a b l m [x0, x1, x2, x3, x4, x5] := ⟨by classical exact decide (Rep.MayP a b l m [x0, x1, x2, x3, x4, x5]), by simp⟩
    have HMR := Lib.hid (fun W h => rMay17_any a b l p n cap (by omega) m x0 x1 x2 x3 x4 x5 bv hbv W h)
    have HMP := Lib.hid (fun W h => pMay_any a b l p n cap m x0 x1 x2 x3 x4 x5 bv hbv W h)
    cases bv
    · have HBY := Lib.hid (fun W h => pBytesR_bad a b l p n cap m x0 x1 x2 x3 x4 x5 (fun h => by simpa using hbv.2 h) W h)
      clear hbv
      go_enter Try.func7, Try.ntmps7
      go_wp2_with fail
      refine (HBY.out _ HS0.out).mono ?_
      rintro e w1 ⟨rfl, hb1⟩
      have HR1 := Lib.hid ((hb1.block w.heap.size (block_lt HR0.out)).trans HR0.out)
      have HB1 := Lib.hid (HB0.out.trans (hb1.mono HB0.out.size))
      have HS1 := Lib.hid (HS0.out.below hb1)
      have hc1 := fun j => cell_of_row _ w.heap.size j _ _ _ HR1.out
      clear hb1 hc0
      go_wp2_with fail
      refine (HMR.out _ HS1.out).mono ?_
      rintro e w2 ⟨rfl, hb1⟩
      have HR2 := Lib.hid ((hb1.block w.heap.size (block_lt HR1.out)).trans HR1.out)
      have HB2 := Lib.hid (HB1.out.trans (hb1.mono HB1.out.size))
      have HS2 := Lib.hid (HS1.out.below hb1)
      have hc2 := fun j => cell_of_row _ w.heap.size j _ _ _ HR2.out
      clear hb1 hc1
      go_wp2_with fail
      refine (HMP.out _ HS2.out).mono ?_
      rintro e w3 ⟨rfl, hb1⟩
      have HB3 := Lib.hid (HB2.out.trans (hb1.mono HB2.out.size))
      clear hb1 hc2
      go_wp2_with fail
      refine (known17_any _).mono ?_
      rintro e w4 ⟨rfl, hb1⟩
      have HB4 := Lib.hid (HB3.out.trans (hb1.mono HB3.out.size))
      clear hb1
      go_wp2
      go_ret
      exact ⟨rfl, HB4.out⟩
    · have hmp : Rep.MayP a b l m [x0, x1, x2, x3, x4, x5] := hbv.1 rfl
      have hok := Rep.okB_enc (a := a) (b := b) HWF.out (by have := HN.out; omega) hmp
      have HBY := Lib.hid (fun W h => pBytesR_ok a b l p n cap (by omega) m x0 x1 x2 x3 x4 x5 hmp W h)
      have HRB := Lib.hid (fun W h => rBytesR_ok a b l p n cap (by omega) m x0 x1 x2 x3 x4 x5 hmp W h)
      have HEL := Lib.hid (Rep.encR_length a b l)
      have HOF := Lib.hid (fun W v h => rpOf_any v (Rep.encR a b l) (by have := HEL.out; have := HN.out; omega) true (by simpa using hok.1) 0 m x0 x1 x2 x3 x4 x5 (by rw [hok.2.1]; exact hmp.2.2.2.2) W h)
      rw [hok.2.1, hok.2.2.1, hok.2.2.2] at HOF
      clear hbv hmp hok
      go_enter Try.func7, Try.ntmps7
      go_wp2_with fail
      refine (HBY.out _ HS0.out).mono ?_
      rintro e w1 ⟨u1, rfl, ho1, hb1⟩
      have HU1 := Lib.hid (BS.of_own ho1)
      have HR1 := Lib.hid ((hb1.block w.heap.size (block_lt HR0.out)).trans HR0.out)
      have HB1 := Lib.hid (HB0.out.trans (hb1.mono HB0.out.size))
      have HS1 := Lib.hid (HS0.out.below hb1)
      have hc1 := fun j => cell_of_row _ w.heap.size j _ _ _ HR1.out
      clear hb1 hc0 ho1
      go_wp2_with fail
      refine (HMR.out _ HS1.out).mono ?_
      rintro e w2 ⟨rfl, hb1⟩
      have HU2 := Lib.hid (HU1.out.below hb1)
      have HR2 := Lib.hid ((hb1.block w.heap.size (block_lt HR1.out)).trans HR1.out)
      have HB2 := Lib.hid (HB1.out.trans (hb1.mono HB1.out.size))
      have HS2 := Lib.hid (HS1.out.below hb1)
      have hc2 := fun j => cell_of_row _ w.heap.size j _ _ _ HR2.out
      clear hb1 hc1
      go_wp2_with fail
      refine (HMP.out _ HS2.out).mono ?_
      rintro e w3 ⟨rfl, hb1⟩
      have HU3 := Lib.hid (HU2.out.below hb1)
      have HR3 := Lib.hid ((hb1.block w.heap.size (block_lt HR2.out)).trans HR2.out)
      have HB3 := Lib.hid (HB2.out.trans (hb1.mono HB2.out.size))
      have HS3 := Lib.hid (HS2.out.below hb1)
      clear hb1 hc2
      go_wp2_with fail
      refine (HOF.out _ _ HU3.out).mono ?_
      rintro e w4 ⟨hb1, ⟨h, _⟩ | ⟨_, rv, hls, rfl⟩⟩
      · cases h
      · obtain ⟨p1, c1, hv1⟩ := hls.shape
        subst hv1
        have HLN := Lib.hid (show l.length = n from HN.out.symm)
        rw [HLN.out] at hls ⊢
        have HL4 := Lib.hid (hls.alloc (.cells #[.int .i64 a, .int .i64 b, (.slice p1 n c1), .int .i64 m, .int .i64 x0, .int .i64 x1, .int .i64 x2, .int .i64 x3, .int .i64 x4, .int .i64 x5] 27 (0, 0)))
        have HX4 := Lib.hid (new_row w4 (.cells #[.int .i64 a, .int .i64 b, (.slice p1 n c1), .int .i64 m, .int .i64 x0, .int .i64 x1, .int .i64 x2, .int .i64 x3, .int .i64 x4, .int .i64 x5] 27 (0, 0)) _ rfl)
        have HR4 := Lib.hid (row_alloc ((hb1.block w.heap.size (block_lt HR3.out)).trans HR3.out) (.cells #[.int .i64 a, .int .i64 b, (.slice p1 n c1), .int .i64 m, .int .i64 x0, .int .i64 x1, .int .i64 x2, .int .i64 x3, .int .i64 x4, .int .i64 x5] 27 (0, 0)))
        have HU4 := Lib.hid ((HU3.out.below hb1).alloc (.cells #[.int .i64 a, .int .i64 b, (.slice p1 n c1), .int .i64 m, .int .i64 x0, .int .i64 x1, .int .i64 x2, .int .i64 x3, .int .i64 x4, .int .i64 x5] 27 (0, 0)))
        have HS4 := Lib.hid ((ls_of_ps ((HS3.out.below hb1).below ((Below.refl _ _).alloc (Nat.le_refl _) (.cells #[.int .i64 a, .int .i64 b, (.slice p1 n c1), .int .i64 m, .int .i64 x0, .int .i64 x1, .int .i64 x2, .int .i64 x3, .int .i64 x4, .int .i64 x5] 27 (0, 0))))).1)
        have HP4 := Lib.hid ((HS3.out.below hb1).below ((Below.refl _ _).alloc (Nat.le_refl _) (.cells #[.int .i64 a, .int .i64 b, (.slice p1 n c1), .int .i64 m, .int .i64 x0, .int .i64 x1, .int .i64 x2, .int .i64 x3, .int .i64 x4, .int .i64 x5] 27 (0, 0))))
        have HB4 := Lib.hid (HB3.out.trans ((balloc hb1 (.cells #[.int .i64 a, .int .i64 b, (.slice p1 n c1), .int .i64 m, .int .i64 x0, .int .i64 x1, .int .i64 x2, .int .i64 x3, .int .i64 x4, .int .i64 x5] 27 (0, 0))).mono HB3.out.size))
        have hbx : w4.heap.size < (w4.alloc (.cells #[.int .i64 a, .int .i64 b, (.slice p1 n c1), .int .i64 m, .int .i64 x0, .int .i64 x1, .int .i64 x2, .int .i64 x3, .int .i64 x4, .int .i64 x5] 27 (0, 0))).heap.size := by simp
        have hbr : w.heap.size < w4.heap.size := Nat.lt_of_lt_of_le (block_lt HR3.out) hb1.size
        have HBX := Lib.hid hbx
        have HBR := Lib.hid hbr
        clear hb1 hls
        generalize hw5 : w4.alloc (.cells #[.int .i64 a, .int .i64 b, (.slice p1 n c1), .int .i64 m, .int .i64 x0, .int .i64 x1, .int .i64 x2, .int .i64 x3, .int .i64 x4, .int .i64 x5] 27 (0, 0)) = w5 at *
        have hcx := fun j => cell_of_row _ w4.heap.size j _ _ _ HX4.out
        have hcr := fun j => cell_of_row _ w.heap.size j _ _ _ HR4.out
        generalize hs0 : (ByteArray.mk (Rep.encR a b l).toArray) = S0 at *
        have HVZ := Lib.hid (fun W (h : Below w5.heap.size w5 W) => (HU4.out.below h).to_string)
        have HZ0 := Lib.hid hs0
        clear hs0
        rw [HZ0.out] at HVZ
        clear hbx hbr
        go_wp2_with fail
        have hb : Below w5.heap.size w5 w5.drew := (Below.refl _ _).drew
        have f0 := HVZ.out _ hb
        have HLT := Lib.hid (show w.heap.size < w5.heap.size from by rw [← hw5]; have := HBR.out; simp; omega)
        have HLX := Lib.hid (show w4.heap.size < w5.heap.size from by rw [← hw5]; simp)
        have HRC := Lib.hid (fun W (h : Below w5.heap.size w5 W) => (fun j => cell_of_row W w.heap.size j _ _ _ ((h.block _ HLT.out).trans HR4.out)))
        have HXC := Lib.hid (fun W (h : Below w5.heap.size w5 W) => (fun j => cell_of_row W w4.heap.size j _ _ _ ((h.block _ HLX.out).trans HX4.out)))
        clear hcx hcr hw5
        have hcx := HXC.out _ hb
        have hcr := HRC.out _ hb
        go_region_with (first
          | (go_at_call 24; refine (HRB.out _ (HP4.out.below hb)).mono ?_; rintro e w6 ⟨u6, rfl, ho6, hb6⟩; have f6 := (BS.of_own ho6).to_string; rw [HZ0.out] at f6; have hb := hb.trans (hb6.mono hb.size); have f7 := HVZ.out _ hb; have hcx := HXC.out _ hb; have hcr := HRC.out _ hb; obtain ⟨q6, c6, rfl⟩ := own_form ho6)
          | (go_at_call 11; refine (rSameR_any a b a b m x0 x1 x2 x3 x4 x5 m x0 x1 x2 x3 x4 x5 l l p1 p n n c1 cap true (by simp) _ (HL4.out.below hb) (HS4.out.below hb)).mono ?_; rintro e w7 ⟨rfl, hb6⟩; have hb := hb.trans (hb6.mono hb.size); have hcx := HXC.out _ hb; have hcr := HRC.out _ hb)
          | (go_at_call 20; refine (pSameR_any a b a b m x0 x1 x2 x3 x4 x5 m x0 x1 x2 x3 x4 x5 l l p1 p n n c1 cap true (by simp) _ (HL4.out.below hb) (HS4.out.below hb)).mono ?_; rintro e w8 ⟨rfl, hb6⟩; have hb := hb.trans (hb6.mono hb.size))
          | (go_at_call 8; refine (known17_any _).mono ?_; rintro e w9 ⟨rfl, hb7⟩; have hb := hb.trans (hb7.mono hb.size)))
        all_goals
          have HF := Lib.hid (HB4.out.trans (hb.mono HB4.out.size))
          clear hb hcx hcr
          go_wp2
          go_ret
          exact ⟨rfl, HF.out⟩

set_option maxRecDepth 100000 in
theorem lifted (os : Os) (started : os.Started) (H : Type) (enc : TypeId × Value → H) :
    ReturnsInHanded {} Try.checked os 7 .any (Rows.reportBytesSpec.pre6 enc Try.prog Try.f7 Rows.reportBytesRow.domain false) (Rows.reportBytesSpec.post enc Try.prog Try.f7 false true false false) := by
  refine returnsInHanded_of_change (C := Try.checked) own started (by kernel_rfl) Try.func7
    (ChangeSpec.witness6 (enc := enc) (C := Try.checked) false ⟨#[], #[.agg #[.int .i64 0, .int .i64 0, .slice none 0 0, .int .i64 0, .int .i64 0, .int .i64 0, .int .i64 0, .int .i64 0, .int .i64 0, .int .i64 0]], []⟩ 8 (by kernel_rfl) (by kernel_rfl) (by kernel_rfl) (by kernel_rfl)) ?_
  intro W base args ds gs before hval0 hW hcnd _
  have hval : ∀ (j : Nat) t v, Try.f7.params[j]? = some t → args[j]? = some v → Value.okWide Try.prog W .any base t v := hval0
  have hW' := hW
  obtain ⟨p, q, hA0, hV, rfl, hfz, hnd⟩ := hW
  have hA : DataW.TrodAll enc Try.prog W 0 (fun _ => true) true Try.f7.params.toList args.toList ds p := hA0
  rw [Try.params7] at hA hval
  obtain ⟨v0, vs0, d0, ds0, p0, q0, hargs, rfl, rfl, h0, r0⟩ := trodAll_cons hA
  obtain ⟨rfl, rfl, rfl⟩ := trodAll_nil r0
  obtain rfl : args = #[v0] := by cases args; simp_all
  obtain ⟨a, b, p, n, cap, l, m, x0, x1, x2, x3, x4, x5, rfl, hps⟩ := open_report (hval 0 _ v0 rfl rfl) h0
  clear hA0 hval0
  refine (walk a b l p n cap m x0 x1 x2 x3 x4 x5 W hps).mono fun e W' ⟨he, hg⟩ => ?_
  subst he
  exact ⟨_, rfl, post_law laidOut rfl hW' ⟨rfl, rfl, rfl⟩ (by kernel_rfl) hg Try.underlying4 rfl⟩

theorem proved : Rows.ReportBytesSaid :=
  OpenClaim.holds_of_wide 7 Try.f7 rfl rfl rfl rfl rfl rfl rfl ⟨rfl, rfl, rfl, rfl, rfl⟩ rfl rfl rfl rfl rfl (by kernel_rfl) Try.func7 (by kernel_rfl)
    (of_decide_eq_true (by kernel_rfl)) (by unfold Func.isWrapper; first | (rw [if_pos (by decide +kernel)]; kernel_rfl) | (rw [if_neg (by decide +kernel)]; exact ⟨rfl, rfl⟩))
    (fun os started H enc _ => lifted os started H enc)
#print axioms proved

end Go.Proofs.Ytolfekbhlfjniaa.reportBytes
